/-
  The law FnDeclaredIn: for every input it answers true and leaves its argument as it was. No condition.
-/
import Derived.Test.YtklikpcfmmpocaaFrame
import Derived.Test.YtklikpcfmmpocaaFacts
import Derived.Test.YtklikpcfmmpocaaDwA
import Derived.Test.YtklikpcfmmpocaaDwD
import Derived.Test.YtklikpcfmmpocaaImpl8
import Derived.Test.YtklikpcfmmpocaaDwQ
namespace Go.Proofs.Ytklikpcfmmpocaa.declaredIn
open Go.ChangeShapes Go.WideShapes Go.ChangeAt Go.RowKit
set_option linter.unusedVariables false

set_option maxRecDepth 100000 in
set_option maxHeartbeats 1000000 in
theorem walk (v : Value) (l : List Int) (w : World) (hv : OBytes w v l) :
    Calls Try.prog 7 #[v] w fun e w' => e = .returned (.bool true) ∧ Below w.heap.size w w' := by
  have HV := Lib.hid hv
  obtain ⟨⟨A, C, b', o, rfl, hn, hc, _, _⟩, _⟩ := hv
  unfold maxLen at hc
  by_cases hbig : 1048576 < l.length
  · go_enter Try.func7, Try.ntmps7
    go_wp2
    go_ret
    exact ⟨rfl, Below.refl _ _⟩
  have hl : l.length ≤ 1048576 := by omega
  go_enter Try.func7, Try.ntmps7
  go_wp2_with fail
  refine (S_DrawDeclaredIn _ l _ HV.out hl).mono ?_
  rintro e w1 ⟨sl, xs, p, b, d, rfl, hrow, hp, hB⟩
  clear HV hbig hl hc hn
  obtain ⟨ga, Cp, rfl, _, hCp, _, _, _, _⟩ := PRowX.rd hrow (by omega)
  unfold maxLen at hCp
  obtain ⟨PB, hPB⟩ : ∃ PB : Nat, PB = w1.heap.size := ⟨_, rfl⟩
  obtain ⟨W, hW⟩ : ∃ W : World, W = w1.alloc (.cells #[.slice (some ⟨ga, 0, none⟩) p.length Cp] 30) := ⟨_, rfl⟩
  have hB : Below w.heap.size w W := by rw [hW]; exact bal hB _
  have hP : Blks W w.heap.size (.slice (some ⟨ga, 0, none⟩) p.length Cp) p := by rw [hW]; exact (PRowX.blks hrow).keep al1
  have cP : W.cell? ⟨PB, 0, none⟩ = some (.slice (some ⟨ga, 0, none⟩) p.length Cp) := by rw [hW, hPB]; simp [go_sem]
  have HPB := Lib.hid hPB
  have HW := Lib.hid hW
  have hR : PRow W w.heap.size (.slice (some ⟨ga, 0, none⟩) p.length Cp) xs p := by rw [hW]; exact PRowX.keep hrow al1
  clear hPB hW hrow
  go_wp2_with fail
  rw [← HPB.out, ← HW.out]
  clear HPB HW
  refine (I_DeclaredIn _ p _ b d _ ⟨_, rfl, hP⟩).mono ?_
  rintro e w2 ⟨u, rfl, hu, hb⟩
  replace cP := cell_later hb cP
  replace hP := hP.keep hb
  replace hR := PRowX.keep hR hb
  replace hB := bthen hB hb
  clear hb
  obtain ⟨uA, uC, rfl⟩ := hu.form
  go_wp2_with fail
  refine (S_DeclaredIn _ p _ b d _ ⟨_, rfl, hP⟩).mono ?_
  rintro e w3 ⟨t, rfl, ht, hb⟩
  replace cP := cell_later hb cP
  replace hP := hP.keep hb
  replace hu := hu.keep hb
  replace hR := PRowX.keep hR hb
  replace hB := bthen hB hb
  clear hb
  cases hv : shape p
  · have HVP := Lib.hid hv
    clear hv
    go_wp2_with fail
    refine (L_equalInts _ _ _ _ _ _ _ hu ht).mono ?_
    rintro e w4 ⟨rfl, hb⟩
    rw [beq_self_eq_true]
    replace cP := cell_later hb cP
    replace hP := hP.keep hb
    replace hu := hu.keep hb
    replace ht := ht.keep hb
    replace hR := PRowX.keep hR hb
    replace hB := bthen hB hb
    clear hb
    go_wp2_with fail
    refine (I_ValidShape _ p _ _ ⟨_, rfl, hP⟩).mono ?_
    rintro e w5 ⟨rfl, hb⟩
    rw [HVP.out]
    replace cP := cell_later hb cP
    replace hP := hP.keep hb
    replace hu := hu.keep hb
    replace ht := ht.keep hb
    replace hR := PRowX.keep hR hb
    replace hB := bthen hB hb
    clear hb
    go_wp2_with fail
    refine (S_DeclaredIn _ p _ b d _ ⟨_, rfl, hP⟩).mono ?_
    rintro e w6 ⟨t2, rfl, ht2, hb⟩
    replace cP := cell_later hb cP
    replace hP := hP.keep hb
    replace hu := hu.keep hb
    replace ht := ht.keep hb
    replace hR := PRowX.keep hR hb
    replace hB := bthen hB hb
    clear hb
    go_wp2_with fail
    refine (L_equalInts _ _ _ _ _ _ _ hu ht2).mono ?_
    rintro e w7 ⟨rfl, hb⟩
    rw [beq_self_eq_true]
    replace cP := cell_later hb cP
    replace hP := hP.keep hb
    replace hu := hu.keep hb
    replace ht := ht.keep hb
    replace ht2 := ht2.keep hb
    replace hR := PRowX.keep hR hb
    replace hB := bthen hB hb
    clear hb
    go_wp2
    go_ret
    exact ⟨rfl, hB⟩
  have HVP := Lib.hid hv
  clear hv
  by_cases hq0 : b < 0
  · skip
    go_wp2_with fail
    refine (L_equalInts _ _ _ _ _ _ _ hu ht).mono ?_
    rintro e w8 ⟨rfl, hb⟩
    rw [beq_self_eq_true]
    replace cP := cell_later hb cP
    replace hP := hP.keep hb
    replace hu := hu.keep hb
    replace ht := ht.keep hb
    replace hR := PRowX.keep hR hb
    replace hB := bthen hB hb
    clear hb
    go_wp2_with fail
    refine (I_ValidShape _ p _ _ ⟨_, rfl, hP⟩).mono ?_
    rintro e w9 ⟨rfl, hb⟩
    rw [HVP.out]
    replace cP := cell_later hb cP
    replace hP := hP.keep hb
    replace hu := hu.keep hb
    replace ht := ht.keep hb
    replace hR := PRowX.keep hR hb
    replace hB := bthen hB hb
    clear hb
    go_wp2_with fail
    refine (S_DeclaredIn _ p _ b d _ ⟨_, rfl, hP⟩).mono ?_
    rintro e w10 ⟨t2, rfl, ht2, hb⟩
    replace cP := cell_later hb cP
    replace hP := hP.keep hb
    replace hu := hu.keep hb
    replace ht := ht.keep hb
    replace hR := PRowX.keep hR hb
    replace hB := bthen hB hb
    clear hb
    go_wp2_with fail
    refine (L_equalInts _ _ _ _ _ _ _ hu ht2).mono ?_
    rintro e w11 ⟨rfl, hb⟩
    rw [beq_self_eq_true]
    replace cP := cell_later hb cP
    replace hP := hP.keep hb
    replace hu := hu.keep hb
    replace ht := ht.keep hb
    replace ht2 := ht2.keep hb
    replace hR := PRowX.keep hR hb
    replace hB := bthen hB hb
    clear hb
    go_wp2
    go_ret
    exact ⟨rfl, hB⟩
  by_cases hq1 : b ≥ (p.length : Int)
  · skip
    go_wp2_with fail
    refine (L_equalInts _ _ _ _ _ _ _ hu ht).mono ?_
    rintro e w12 ⟨rfl, hb⟩
    rw [beq_self_eq_true]
    replace cP := cell_later hb cP
    replace hP := hP.keep hb
    replace hu := hu.keep hb
    replace ht := ht.keep hb
    replace hR := PRowX.keep hR hb
    replace hB := bthen hB hb
    clear hb
    go_wp2_with fail
    refine (I_ValidShape _ p _ _ ⟨_, rfl, hP⟩).mono ?_
    rintro e w13 ⟨rfl, hb⟩
    rw [HVP.out]
    replace cP := cell_later hb cP
    replace hP := hP.keep hb
    replace hu := hu.keep hb
    replace ht := ht.keep hb
    replace hR := PRowX.keep hR hb
    replace hB := bthen hB hb
    clear hb
    go_wp2_with fail
    refine (S_DeclaredIn _ p _ b d _ ⟨_, rfl, hP⟩).mono ?_
    rintro e w14 ⟨t2, rfl, ht2, hb⟩
    replace cP := cell_later hb cP
    replace hP := hP.keep hb
    replace hu := hu.keep hb
    replace ht := ht.keep hb
    replace hR := PRowX.keep hR hb
    replace hB := bthen hB hb
    clear hb
    go_wp2_with fail
    refine (L_equalInts _ _ _ _ _ _ _ hu ht2).mono ?_
    rintro e w15 ⟨rfl, hb⟩
    rw [beq_self_eq_true]
    replace cP := cell_later hb cP
    replace hP := hP.keep hb
    replace hu := hu.keep hb
    replace ht := ht.keep hb
    replace ht2 := ht2.keep hb
    replace hR := PRowX.keep hR hb
    replace hB := bthen hB hb
    clear hb
    go_wp2
    go_ret
    exact ⟨rfl, hB⟩
  have hq2 : ¬ (p.length : Int) ≤ b := hq1
  have hb0 : 0 ≤ b := by omega
  have hb1 : b < p.length := by omega
  go_wp2_with fail
  refine (L_equalInts _ _ _ _ _ _ _ hu ht).mono ?_
  rintro e w16 ⟨rfl, hb⟩
  rw [beq_self_eq_true]
  replace cP := cell_later hb cP
  replace hP := hP.keep hb
  replace hu := hu.keep hb
  replace ht := ht.keep hb
  replace hR := PRowX.keep hR hb
  replace hB := bthen hB hb
  clear hb
  go_wp2_with fail
  refine (I_ValidShape _ p _ _ ⟨_, rfl, hP⟩).mono ?_
  rintro e w17 ⟨rfl, hb⟩
  rw [HVP.out]
  replace cP := cell_later hb cP
  replace hP := hP.keep hb
  replace hu := hu.keep hb
  replace ht := ht.keep hb
  replace hR := PRowX.keep hR hb
  replace hB := bthen hB hb
  clear hb
  have hbl := shape_body HVP.out b hb0 hb1
  have HASC := Lib.hid (rDecl_asc p b d)
  obtain ⟨kb, rfl⟩ := Int.eq_ofNat_of_zero_le hb0
  have ebk : p.bk (kb : Int) = p.getD kb default := by show p.getD (kb : Int).toNat default = _; rw [Int.toNat_natCast]
  obtain ⟨A', C', g', e', _, _, hA', _, hcell, _⟩ := hP.rd
  obtain rfl := hA' (by omega)
  obtain ⟨rfl, rfl⟩ : ga = g' ∧ Cp = C' := by simpa using e'
  obtain ⟨pv, bv, d0, d1, d2, d3, hpv, hbv⟩ := hcell kb (by omega)
  rw [← ebk] at d0 d1 hpv hbv
  clear hcell e' hA' ebk
  obtain ⟨hq1, hq2⟩ := rDecl_reverse (d := d) HVP.out (by omega : kb < p.length)
  have HQ1 := Lib.hid hq1
  have HQ2 := Lib.hid hq2
  clear hq1 hq2
  obtain ⟨body, hbody⟩ : ∃ body : List St, body = (p.bk (kb : Int)).body := ⟨_, rfl⟩
  have HBODY := Lib.hid hbody
  rw [← hbody] at hbv
  obtain ⟨bA, bC, bg, rfl, _, bc, bh, bl, hst, _⟩ := hbv.rd
  unfold maxLen at bc
  have HST := Lib.hid hst
  clear hst hbody
  rw [← HBODY.out] at hbl
  have HR0 := Lib.hid hR
  have hwsz := hB.size
  have zP := World.block_lt_of_cell? _ _ cP
  have zG := World.block_lt_of_cell? _ _ d3
  simp only at zP zG
  go_wp2_with (at_builtin; refine wpList_append_blocks rfl _ _ rfl (.slice (some ⟨ga, 0, none⟩) p.length Cp) xs p w.heap.size _ rfl rfl rfl hR (by omega) hwsz ?_; intro qv w0 hQ hbq hqge; obtain ⟨qg, qC, rfl, _, hqC, hqg1, hqg2, _, _⟩ := PRowX.rd hQ (by omega); have cP0 := cell_later hbq cP; have d30 := cell_later hbq d3; have zP0 := World.block_lt_of_cell? _ _ cP0; have zG0 := World.block_lt_of_cell? _ _ d30; simp only at zP0 zG0)
  have hqge := hqge qg rfl
  unfold maxLen at hqC
  obtain ⟨wq, hwq⟩ : ∃ wq : World, wq = w0.alloc (.cells #[.slice (some ⟨qg, 0, none⟩) p.length qC] 30) := ⟨_, rfl⟩
  obtain ⟨QX, hQX⟩ : ∃ QX : Nat, QX = w0.heap.size := ⟨_, rfl⟩
  have hqx : QX < wq.heap.size := by rw [hwq, hQX]; simp
  have hqgx : qg < QX := by omega
  have cQ : wq.cell? ⟨QX, 0, none⟩ = some (.slice (some ⟨qg, 0, none⟩) p.length qC) := by rw [hwq, hQX]; simp [go_sem]
  have hBq : Below w17.heap.size w17 wq := by rw [hwq]; exact bal hbq _
  have hQ : PRow wq w.heap.size (.slice (some ⟨qg, 0, none⟩) p.length qC) xs p := by rw [hwq]; exact PRowX.keep hQ al1
  have hwqs : w.heap.size ≤ wq.heap.size := by have := hBq.size; omega
  have HQ := Lib.hid hQ
  have hwz : wq.heap.size = QX + 1 := by rw [hwq, hQX]; simp
  have HWZ := Lib.hid hwz
  rw [← hQX, ← hwq]
  clear hwq hQX hbq hQ hwz
  clear cP0 d30 zP0 zG0 zP zG
  go_loopw [8, 9] (fun a i wi => ∃ (i0 : Int) (j : Nat), i = .int .i64 i0 ∧ i0 = (j : Int) - 1 ∧ j ≤ body.length ∧ Below wq.heap.size wq wi ∧ Stmts wi wq.heap.size a (body.reverse.take (body.length - j))) (fun _ i _ => (intOf i + 1).toNat)
  case atStart => exact ⟨_, body.length, rfl, by first | rfl | omega | go_num, Nat.le_refl _, al1, by rw [Nat.sub_self]; exact Stmts.zero HWZ.out (Nat.le_of_eq HWZ.out)⟩
  case round =>
    obtain ⟨i0, j, rfl, hi0, hj, hBi, hall⟩ := hrel
    have hBw := bthen hBq hBi
    rcases j with _ | J
    case succ =>
      obtain rfl : i0 = (J : Int) := by omega
      clear hi0
      have hltk : J < body.length := by omega
      replace cP := cell_later hBw cP
      replace d3 := cell_later hBw d3
      obtain ⟨s0, s1, s2, s3⟩ := HST.out J hltk
      obtain rfl := bh (by omega)
      obtain ⟨S, hS⟩ : ∃ S : St, S = body.getD J default := ⟨_, rfl⟩
      rw [← hS] at s0 s1 s2 s3
      have hrt := rev_take body J hltk
      rw [← hS] at hrt
      have HRT := Lib.hid hrt
      have HS := Lib.hid hS
      obtain ⟨sk, st, sa, sb⟩ := S
      replace s0 := cell_later hBw s0
      replace s1 := cell_later hBw s1
      replace s2 := cell_later hBw s2
      replace s3 := cell_later hBw s3
      have hkk0 : (0 : Int) ≤ (J : Int) := by omega
      have hkk1 : (J : Int) < (body.length : Int) := by omega
      have hJ : (J : Int) ≥ 0 := by omega
      clear hS hrt
      go_wp2_with (at_builtin; refine wpList_append_stmts rfl _ _ rfl _ _ (body.reverse.take (body.length - (J + 1))) [⟨sk, st, sa, sb⟩] wq.heap.size rfl rfl (hall.keep al1) (Stmts.feed (Stmts.one (lo := 0) rfl (Nat.zero_le _) sk st sa sb)) (by simp only [List.length_cons, List.length_nil, List.length_take, List.length_reverse]; omega) (by have := hBi.size; simp only [World.size_alloc]; omega) ?_; intro q' w5 hq6 hg5 hb5 hf5)
      go_roundw
      case rel => exact ⟨_, J, rfl, by go_num, by omega, (bal hBi _).trans hb5, by rw [HRT.out]; exact hq6⟩
      case measure => simp [intOf] <;> omega
    obtain rfl : i0 = -1 := by omega
    clear hi0
    rw [Nat.sub_zero, show body.reverse.take body.length = body.reverse from by rw [List.take_of_length_le (by rw [List.length_reverse]; omega)]] at hall
    obtain ⟨aA, aC, rfl⟩ := hall.form
    rw [List.length_reverse] at hall
    have hQr := PRowX.keep HQ.out hBi
    have hkp : kb < p.length := by omega
    obtain ⟨qg2, qC2, eq2, _, _, _, _, qcell, qfz⟩ := PRowX.rd hQr (by omega)
    obtain ⟨rfl, rfl⟩ : qg = qg2 ∧ qC = qC2 := by simpa using eq2
    have q3 := qcell (kb * 4 + 3) (by omega)
    have f3 := qfz (kb * 4 + 3)
    have hcQ := cell_later hBi cQ
    have hset := PRowX.setBody (l := body.reverse) (PRowX.part hQr kb) hkp (hall.lo_ hwqs) (fun i hi _ => Apart.of_lt (PRowX.full HQ.out hi) (own_block_ge hall))
    have hBz : Below w17.heap.size w17 (wr.setCell ⟨qg, kb * 4 + 3, none⟩ (.slice aA body.length aC)) := hBw.setCell hqge _
    have HSET := Lib.hid hset
    have ew : p.set kb { p.getD kb default with body := body.reverse } = withBody p kb (p.bk (kb : Int)).body.reverse := by
      unfold withBody
      rw [← HBODY.out]
      have ebk : p.bk (kb : Int) = p.getD kb default := by show p.getD (kb : Int).toNat default = _; rw [Int.toNat_natCast]
      rw [ebk]
    have EW := Lib.hid ew
    have hcz : (wr.setCell ⟨qg, kb * 4 + 3, none⟩ (.slice aA body.length aC)).cell? ⟨QX, 0, none⟩ = some (.slice (some ⟨qg, 0, none⟩) p.length qC) := by
      simp [go_sem, hcQ]
    obtain ⟨wz, hwz⟩ : ∃ wz : World, wz = wr.setCell ⟨qg, kb * 4 + 3, none⟩ (.slice aA body.length aC) := ⟨_, rfl⟩
    have HWZ2 := Lib.hid hwz
    generalize hU3 : xs.getD (kb * 4 + 3) undef = U3 at q3
    clear qcell qfz eq2 hset ew hU3
    replace cP := cell_later hBw cP
    replace d3 := cell_later hBw d3
    clear hcz hwz
    go_wp2_with fail
    rw [← HWZ2.out]
    have hb := hBz
    rw [← HWZ2.out] at hb
    have hblk := PRowX.blks (HSET.out)
    rw [← HWZ2.out, EW.out] at hblk
    have hlq : (withBody p kb (p.bk (kb : Int)).body.reverse).length = p.length := by simp [withBody]
    have hcz : wz.cell? ⟨QX, 0, none⟩ = some (.slice (some ⟨qg, 0, none⟩) p.length qC) := by
      rw [HWZ2.out]
      simp [go_sem, hcQ]
    replace hu := hu.keep hb
    replace hB := bthen hB hb
    clear hb hcQ cP d3 d0 d1 d2 hpv hbv q3 f3 hall hBi hBw hQr
    refine (I_DeclaredIn _ _ _ kb d _ ⟨_, rfl, hblk⟩).mono ?_
    rintro e wy ⟨y, rfl, hy, hb⟩
    rw [HQ2.out] at hy
    replace hu := hu.keep hb
    replace hB := bthen hB hb
    replace hcz := cell_later hb hcz
    replace hblk := hblk.keep hb
    clear hb
    go_wp2_with fail
    refine (L_equalInts _ _ _ _ _ _ _ hy hu).mono ?_
    rintro e wx ⟨rfl, hb⟩
    rw [beq_self_eq_true]
    replace hu := hu.keep hb
    replace hB := bthen hB hb
    replace hcz := cell_later hb hcz
    replace hblk := hblk.keep hb
    clear hb
    go_wp2_with fail
    refine (L_ascends _ _ _ _ hu HASC.out).mono ?_
    rintro e wv ⟨rfl, hb⟩
    replace hB := bthen hB hb
    replace hcz := cell_later hb hcz
    replace hblk := hblk.keep hb
    clear hb
    go_wp2_with fail
    refine (I_ValidShape _ _ _ _ ⟨_, rfl, hblk⟩).mono ?_
    rintro e wt ⟨rfl, hb⟩
    rw [HQ1.out]
    replace hB := bthen hB hb
    go_wp2
    go_ret
    exact ⟨rfl, hB⟩

theorem own : ownKnob Try.prog.godebug = none := by kernel_rfl
theorem laidOut : laidOutB Try.prog = true := by kernel_rfl

set_option maxRecDepth 100000 in
theorem lifted (os : Os) (started : os.Started) (H : Type) (enc : TypeId × Value → H) :
    ReturnsInHanded {} Try.checked os 7 .any (Rows.fnDeclaredInSpec.pre6 enc Try.prog Try.f7 Rows.fnDeclaredInRow.domain false) (Rows.fnDeclaredInSpec.post enc Try.prog Try.f7 false true false false) := by
  refine returnsInHanded_of_change (C := Try.checked) own started (by kernel_rfl) Try.func7
    (ChangeSpec.witness6 (enc := enc) (C := Try.checked) false ⟨#[], #[.slice none 0 0], []⟩ 8 (by kernel_rfl) (by kernel_rfl) (by kernel_rfl) (by kernel_rfl)) ?_
  intro W base args ds gs before hval0 hW hcnd _
  have hval : ∀ (j : Nat) t v, Try.f7.params[j]? = some t → args[j]? = some v → Value.okWide Try.prog W .any base t v := hval0
  have hW' := hW
  obtain ⟨p, q, hA0, hV, rfl, hfz, hnd⟩ := hW
  have hA : DataW.TrodAll enc Try.prog W 0 (fun _ => true) true Try.f7.params.toList args.toList ds p := hA0
  rw [Try.params7] at hA hval
  obtain ⟨v0, d0, rfl, rfl, h0⟩ := trodAll_one hA
  obtain ⟨rfl, rfl⟩ := trodVars_none hV
  clear hA0 hval0
  simp only [List.append_nil] at hW'
  have hlt : ∀ x ∈ p, x.block < W.heap.size := fun x hx => hW'.lt x hx
  obtain ⟨q0, hq0⟩ := open_obytes (hval 0 22 v0 rfl rfl) h0
  refine (walk v0 q0 W hq0).mono fun e W' ⟨he, hb⟩ => ?_
  subst he
  exact ⟨_, rfl, post_of_below (pa := _) (pv := []) hW' (fun _ _ _ => (trodAll_cons_mk (shut_bool Try.underlying4 _) trodAll_mk0)) (fun sp hsp => (trodAll_cons_mk (WideElems.Trod_stays laidOut (by kernel_rfl) (of_decide_eq_true (by kernel_rfl)) h0 (fun x hx => hb.same (hlt x (hx))) (fun x hx => hsp x (hx))) trodAll_mk0)) (fun _ _ => rfl) (by simp)
    hb (ok_one (by kernel_rfl) rfl (okWide_bool_mk Try.underlying4 _))⟩

theorem closed : joinedFacts Try.pinned.checked.prog 7 Try.f7 Rows.fnDeclaredInSpec Rows.fnDeclaredInRow = true := by
  show joinedFacts Try.prog 7 Try.f7 Rows.fnDeclaredInSpec Rows.fnDeclaredInRow = true
  unfold joinedFacts
  rw [may_enter, lifts_not, make_cut]
  kernel_rfl

theorem over : Rows.fnDeclaredInRow.holds Try.pinned (OpenSpec.ofChange Rows.fnDeclaredInSpec) :=
  OpenClaim.holds_of_wide 7 Try.f7 rfl rfl rfl rfl rfl rfl rfl ⟨rfl, rfl, rfl, rfl, rfl⟩ rfl rfl rfl rfl rfl (by kernel_rfl) Try.func7 closed
    (of_decide_eq_true (by kernel_rfl)) (by unfold Func.isWrapper; first | (rw [if_pos (by decide +kernel)]; kernel_rfl) | (rw [if_neg (by decide +kernel)]; exact ⟨rfl, rfl⟩))
    (fun os started H enc _ => lifted os started H enc)

theorem proved : Rows.FnDeclaredInSaid := over
#print axioms proved
end Go.Proofs.Ytklikpcfmmpocaa.declaredIn
