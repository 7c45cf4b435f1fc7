/-
  The law FnChildrenOf: for every input it answers true and leaves its argument as it was. No condition.
-/
import Derived.Test.YtklikpcfmmpocaaFrame
import Derived.Test.YtklikpcfmmpocaaFacts
import Derived.Test.YtklikpcfmmpocaaDwA
import Derived.Test.YtklikpcfmmpocaaDwD
import Derived.Test.YtklikpcfmmpocaaImpl4
import Derived.Test.YtklikpcfmmpocaaDwM
namespace Go.Proofs.Ytklikpcfmmpocaa.childrenOf
open Go.ChangeShapes Go.WideShapes Go.ChangeAt Go.RowKit
set_option linter.unusedVariables false

set_option maxRecDepth 100000 in
set_option maxHeartbeats 1000000 in
theorem walk (v : Value) (l : List Int) (w : World) (hv : OBytes w v l) :
    Calls Try.prog 6 #[v] w fun e w' => e = .returned (.bool true) ∧ Below w.heap.size w w' := by
  have HV := Lib.hid hv
  obtain ⟨⟨A, C, b', o, rfl, hn, hc, _, _⟩, _⟩ := hv
  unfold maxLen at hc
  by_cases hbig : 1048576 < l.length
  · go_enter Try.func6, Try.ntmps6
    go_wp2
    go_ret
    exact ⟨rfl, Below.refl _ _⟩
  have hl : l.length ≤ 1048576 := by omega
  go_enter Try.func6, Try.ntmps6
  go_wp2_with fail
  refine (S_DrawChildrenOf _ l _ HV.out hl).mono ?_
  rintro e w1 ⟨sl, xs, p, b, rfl, hrow, hp, hB⟩
  clear HV hbig hl hc hn
  obtain ⟨ga, Cp, rfl, _, hCp, _, _, _, _⟩ := PRowX.rd hrow (by omega)
  unfold maxLen at hCp
  obtain ⟨PB, hPB⟩ : ∃ PB : Nat, PB = w1.heap.size := ⟨_, rfl⟩
  obtain ⟨W, hW⟩ : ∃ W : World, W = w1.alloc (.cells #[.slice (some ⟨ga, 0, none⟩) p.length Cp] 30) := ⟨_, rfl⟩
  have hB : Below w.heap.size w W := by rw [hW]; exact bal hB _
  have hP : Blks W w.heap.size (.slice (some ⟨ga, 0, none⟩) p.length Cp) p := by rw [hW]; exact (PRowX.blks hrow).keep al1
  have cP : W.cell? ⟨PB, 0, none⟩ = some (.slice (some ⟨ga, 0, none⟩) p.length Cp) := by rw [hW, hPB]; simp [go_sem]
  have HPB := Lib.hid hPB
  have HW := Lib.hid hW
  clear hPB hW hrow
  go_wp2_with fail
  rw [← HPB.out, ← HW.out]
  clear HPB HW
  refine (I_ChildrenOf _ p _ b _ ⟨_, rfl, hP⟩).mono ?_
  rintro e w2 ⟨u, rfl, hu, hb⟩
  replace cP := cell_later hb cP
  replace hP := hP.keep hb
  replace hB := bthen hB hb
  clear hb
  obtain ⟨uA, uC, rfl⟩ := hu.form
  go_wp2_with fail
  refine (S_ChildrenOf _ p _ b _ ⟨_, rfl, hP⟩).mono ?_
  rintro e w3 ⟨t, rfl, ht, hb⟩
  replace cP := cell_later hb cP
  replace hP := hP.keep hb
  replace hu := hu.keep hb
  replace hB := bthen hB hb
  clear hb
  by_cases h0 : (rKids p b).length = 0
  · skip
    have hz : (((rKids p b).length : Int) == 0) = true := by rw [h0]; rfl
    clear h0
    go_wp2_with fail
    refine (L_equalInts _ _ _ _ _ _ _ hu ht).mono ?_
    rintro e w4 ⟨rfl, hb⟩
    rw [beq_self_eq_true]
    replace cP := cell_later hb cP
    replace hP := hP.keep hb
    replace hu := hu.keep hb
    replace ht := ht.keep hb
    replace hB := bthen hB hb
    clear hb
    go_wp2_with fail
    refine (S_ChildrenOf _ p _ b _ ⟨_, rfl, hP⟩).mono ?_
    rintro e w5 ⟨t2, rfl, ht2, hb⟩
    replace cP := cell_later hb cP
    replace hP := hP.keep hb
    replace hu := hu.keep hb
    replace ht := ht.keep hb
    replace hB := bthen hB hb
    clear hb
    go_wp2_with fail
    refine (L_equalInts _ _ _ _ _ _ _ hu ht2).mono ?_
    rintro e w6 ⟨rfl, hb⟩
    rw [beq_self_eq_true]
    replace cP := cell_later hb cP
    replace hP := hP.keep hb
    replace hu := hu.keep hb
    replace ht := ht.keep hb
    replace ht2 := ht2.keep hb
    replace hB := bthen hB hb
    clear hb
    go_wp2
    go_ret
    exact ⟨rfl, hB⟩
  have hz : (((rKids p b).length : Int) == 0) = false := by rw [beq_eq_false_iff_ne]; omega
  have hne : rKids p b ≠ [] := fun h => h0 (by rw [h]; rfl)
  go_wp2_with fail
  refine (L_equalInts _ _ _ _ _ _ _ hu ht).mono ?_
  rintro e w7 ⟨rfl, hb⟩
  rw [beq_self_eq_true]
  replace cP := cell_later hb cP
  replace hP := hP.keep hb
  replace hu := hu.keep hb
  replace ht := ht.keep hb
  replace hB := bthen hB hb
  clear hb
  obtain ⟨hsh, ⟨hb0, hb1⟩, e1, e2, e3⟩ := children_law hne
  have HE2 := Lib.hid e2
  have HASC := Lib.hid (rKids_asc p b)
  have hbl := shape_body hsh b hb0 hb1
  have HE3 := Lib.hid e3
  clear hne hsh e2 e3
  obtain ⟨kb, rfl⟩ := Int.eq_ofNat_of_zero_le hb0
  have ebk : p.bk (kb : Int) = p.getD kb default := by show p.getD (kb : Int).toNat default = _; rw [Int.toNat_natCast]
  obtain ⟨A', C', g', e', _, _, hA', _, hcell, _⟩ := hP.rd
  obtain rfl := hA' (by omega)
  obtain ⟨rfl, rfl⟩ : ga = g' ∧ Cp = C' := by simpa using e'
  obtain ⟨pv, bv, d0, d1, d2, d3, hpv, hbv⟩ := hcell kb (by omega)
  rw [← ebk] at d0 d1 hpv hbv
  clear hcell e' hA' ebk
  obtain ⟨body, hbody⟩ : ∃ body : List St, body = (p.bk (kb : Int)).body := ⟨_, rfl⟩
  have HBODY := Lib.hid hbody
  rw [← hbody] at hbv
  obtain ⟨bA, bC, bg, rfl, _, bc, bh, bl, hst, _⟩ := hbv.rd
  unfold maxLen at bc
  have HST := Lib.hid hst
  clear hst hbody
  rw [← HBODY.out] at e1 hbl
  have HEE1 := Lib.hid e1
  clear e1
  go_wp2
  go_loopw [6, 7] (fun n i wi => ∃ k : Nat, k ≤ body.length ∧ i = .int .i64 k ∧ Below w7.heap.size w7 wi ∧ n = .int .i64 (mkTo body k)) (fun _ i _ => body.length - (intOf i).toNat)
  case atStart => exact ⟨0, Nat.zero_le _, rfl, below0 _, rfl⟩
  case round =>
    obtain ⟨k, hk, rfl, hb, rfl⟩ := hrel
    have hBik := hb
    replace cP := cell_later hb cP
    replace d0 := cell_later hb d0
    replace d1 := cell_later hb d1
    replace d2 := cell_later hb d2
    replace d3 := cell_later hb d3
    replace hP := hP.keep hb
    replace hu := hu.keep hb
    replace ht := ht.keep hb
    replace hpv := hpv.keep hb
    replace hbv := hbv.keep hb
    replace hB := bthen hB hb
    clear hb
    by_cases hltk : k < body.length
    · skip
      obtain ⟨s0, s1, s2, s3⟩ := HST.out k hltk
      obtain rfl := bh (by omega)
      have hmem : body.getD k default ∈ body := by rw [show body.getD k default = body[k] by simp [List.getD, hltk]]; exact List.getElem_mem _
      obtain ⟨S, hS⟩ : ∃ S : St, S = body.getD k default := ⟨_, rfl⟩
      rw [← hS] at s0 s1 s2 s3 hmem
      have HS := Lib.hid hS
      have HM := Lib.hid hmem
      obtain ⟨sk, st, sa, sb⟩ := S
      replace s0 := cell_later hBik s0
      replace s1 := cell_later hBik s1
      replace s2 := cell_later hBik s2
      replace s3 := cell_later hBik s3
      have hkk0 : (0 : Int) ≤ (k : Int) := by omega
      have hkk1 : (k : Int) < (body.length : Int) := by omega
      clear hS hmem
      have hmk := mkTo_succ body k hltk
      rw [← HS.out] at hmk
      have hml := mkTo_le body k
      have hin : (⟨sk, st, sa, sb⟩ : St).makes = true → hasF (rKids p kb) sa = true := HE2.out _ (by rw [← HBODY.out]; exact HM.out)
      have HIN := Lib.hid hin
      have HMK := Lib.hid hmk
      clear hin hmk
      have hb := al1 (w := wr) (o := (.cells #[.int .i64 sk, .int .i64 st, .int .i64 sa, .int .i64 sb] 38))
      replace hP := hP.keep hb
      replace hu := hu.keep hb
      replace ht := ht.keep hb
      replace hpv := hpv.keep hb
      replace hbv := hbv.keep hb
      replace hB := bthen hB hb
      replace hBik := bthen hBik hb
      clear hb
      have q0 : (wr.alloc (.cells #[.int .i64 sk, .int .i64 st, .int .i64 sa, .int .i64 sb] 38)).cell? ⟨wr.heap.size, 0, none⟩ = some (.int .i64 sk) := by simp [go_sem]
      have q1 : (wr.alloc (.cells #[.int .i64 sk, .int .i64 st, .int .i64 sa, .int .i64 sb] 38)).cell? ⟨wr.heap.size, 1, none⟩ = some (.int .i64 st) := by simp [go_sem]
      have q2 : (wr.alloc (.cells #[.int .i64 sk, .int .i64 st, .int .i64 sa, .int .i64 sb] 38)).cell? ⟨wr.heap.size, 2, none⟩ = some (.int .i64 sa) := by simp [go_sem]
      have q3 : (wr.alloc (.cells #[.int .i64 sk, .int .i64 st, .int .i64 sa, .int .i64 sb] 38)).cell? ⟨wr.heap.size, 3, none⟩ = some (.int .i64 sb) := by simp [go_sem]
      by_cases h3 : sk = 3
      · subst h3
        have hin : hasF (rKids p kb) sa = true := HIN.out rfl
        have hmk : mkTo body (k + 1) = mkTo body k + 1 := HMK.out
        have HMK2 := Lib.hid hmk
        clear hmk
        go_wp2_with fail
        refine (L_isIn _ _ _ sa _ hu).mono ?_
        rintro e w' ⟨rfl, rfl⟩
        rw [hin]
        go_wp2
        go_roundw
        case rel => exact ⟨k + 1, by omega, by go_num, hBik, by rw [HMK2.out]; go_num⟩
        case measure => simp [intOf]; omega
      have n3 : (sk == 3) = false := by rw [beq_eq_false_iff_ne]; exact h3
      by_cases h4 : sk = 4
      · subst h4
        have hin : hasF (rKids p kb) sa = true := HIN.out rfl
        have hmk : mkTo body (k + 1) = mkTo body k + 1 := HMK.out
        have HMK2 := Lib.hid hmk
        clear hmk
        go_wp2_with fail
        refine (L_isIn _ _ _ sa _ hu).mono ?_
        rintro e w' ⟨rfl, rfl⟩
        rw [hin]
        go_wp2
        go_roundw
        case rel => exact ⟨k + 1, by omega, by go_num, hBik, by rw [HMK2.out]; go_num⟩
        case measure => simp [intOf]; omega
      have n4 : (sk == 4) = false := by rw [beq_eq_false_iff_ne]; exact h4
      have hmk : mkTo body (k + 1) = mkTo body k := by rw [HMK.out, if_neg (by rw [makes_iff]; rintro (h | h); exact h3 h; exact h4 h)]; rfl
      have HMK2 := Lib.hid hmk
      clear hmk
      go_wp2
      go_roundw
      case rel => exact ⟨k + 1, by omega, by go_num, hBik, by rw [HMK2.out]⟩
      case measure => simp [intOf]; omega
    obtain rfl : k = body.length := by omega
    have hml := mkTo_le body body.length
    have hkl := kidSum_le p
    have HKL := Lib.hid hkl
    clear hkl
    go_wp2
    go_loopw [9, 10] (fun n i wi => ∃ k : Nat, k ≤ p.length ∧ i = .int .i64 k ∧ Below wr.heap.size wr wi ∧ n = .int .i64 (kidSum p k)) (fun _ i _ => p.length - (intOf i).toNat)
    case atStart => exact ⟨0, Nat.zero_le _, rfl, below0 _, rfl⟩
    case round =>
      obtain ⟨k, hk, rfl, hb, rfl⟩ := hrel
      have hBik := hb
      replace cP := cell_later hb cP
      replace d0 := cell_later hb d0
      replace d1 := cell_later hb d1
      replace d2 := cell_later hb d2
      replace d3 := cell_later hb d3
      replace hP := hP.keep hb
      replace hu := hu.keep hb
      replace ht := ht.keep hb
      replace hpv := hpv.keep hb
      replace hbv := hbv.keep hb
      replace hB := bthen hB hb
      clear hb
      by_cases hltk : k < p.length
      · skip
        have hks := kidSum_succ p k
        have HKS := Lib.hid hks
        have hk1 := HKL.out k
        have hk2 := rKids_len p (k : Int)
        clear hks
        go_wp2_with fail
        refine (I_ChildrenOf _ p _ k _ ⟨_, rfl, hP⟩).mono ?_
        rintro e w8 ⟨z, rfl, hz, hb⟩
        replace cP := cell_later hb cP
        replace d0 := cell_later hb d0
        replace d1 := cell_later hb d1
        replace d2 := cell_later hb d2
        replace d3 := cell_later hb d3
        replace hP := hP.keep hb
        replace hu := hu.keep hb
        replace ht := ht.keep hb
        replace hpv := hpv.keep hb
        replace hbv := hbv.keep hb
        replace hB := bthen hB hb
        replace hBik := bthen hBik hb
        clear hb
        obtain ⟨zA, zC, rfl⟩ := hz.form
        go_wp2
        go_roundw
        case rel => exact ⟨k + 1, by omega, by go_num, hBik, by rw [HKS.out] <;> go_num⟩
        case measure => simp [intOf]; omega
      obtain rfl : k = p.length := by omega
      have hq : (((mkTo body body.length : Nat) : Int) == ((rKids p kb).length : Int)) = true := by rw [HEE1.out]; simp
      have e3 := HE3.out
      have hwr : IntKind.i64.wrap ((p.length : Int) - 1) = (p.length : Int) - 1 := IntWalk.i64_in _ (by omega)
      have hq2 : (((kidSum p p.length : Nat) : Int) == (p.length : Int) - 1) = true := by rw [e3, beq_iff_eq]; omega
      clear e3
      go_wp2_with fail
      refine (L_ascends _ _ _ _ hu HASC.out).mono ?_
      rintro e w9 ⟨rfl, hb⟩
      replace cP := cell_later hb cP
      replace d0 := cell_later hb d0
      replace d1 := cell_later hb d1
      replace d2 := cell_later hb d2
      replace d3 := cell_later hb d3
      replace hP := hP.keep hb
      replace hu := hu.keep hb
      replace ht := ht.keep hb
      replace hpv := hpv.keep hb
      replace hbv := hbv.keep hb
      replace hB := bthen hB hb
      clear hb
      go_wp2
      go_ret
      exact ⟨rfl, hB⟩

theorem own : ownKnob Try.prog.godebug = none := by kernel_rfl
theorem laidOut : laidOutB Try.prog = true := by kernel_rfl

set_option maxRecDepth 100000 in
theorem lifted (os : Os) (started : os.Started) (H : Type) (enc : TypeId × Value → H) :
    ReturnsInHanded {} Try.checked os 6 .any (Rows.fnChildrenOfSpec.pre6 enc Try.prog Try.f6 Rows.fnChildrenOfRow.domain false) (Rows.fnChildrenOfSpec.post enc Try.prog Try.f6 false true false false) := by
  refine returnsInHanded_of_change (C := Try.checked) own started (by kernel_rfl) Try.func6
    (ChangeSpec.witness6 (enc := enc) (C := Try.checked) false ⟨#[], #[.slice none 0 0], []⟩ 8 (by kernel_rfl) (by kernel_rfl) (by kernel_rfl) (by kernel_rfl)) ?_
  intro W base args ds gs before hval0 hW hcnd _
  have hval : ∀ (j : Nat) t v, Try.f6.params[j]? = some t → args[j]? = some v → Value.okWide Try.prog W .any base t v := hval0
  have hW' := hW
  obtain ⟨p, q, hA0, hV, rfl, hfz, hnd⟩ := hW
  have hA : DataW.TrodAll enc Try.prog W 0 (fun _ => true) true Try.f6.params.toList args.toList ds p := hA0
  rw [Try.params6] at hA hval
  obtain ⟨v0, d0, rfl, rfl, h0⟩ := trodAll_one hA
  obtain ⟨rfl, rfl⟩ := trodVars_none hV
  clear hA0 hval0
  simp only [List.append_nil] at hW'
  have hlt : ∀ x ∈ p, x.block < W.heap.size := fun x hx => hW'.lt x hx
  obtain ⟨q0, hq0⟩ := open_obytes (hval 0 22 v0 rfl rfl) h0
  refine (walk v0 q0 W hq0).mono fun e W' ⟨he, hb⟩ => ?_
  subst he
  exact ⟨_, rfl, post_of_below (pa := _) (pv := []) hW' (fun _ _ _ => (trodAll_cons_mk (shut_bool Try.underlying4 _) trodAll_mk0)) (fun sp hsp => (trodAll_cons_mk (WideElems.Trod_stays laidOut (by kernel_rfl) (of_decide_eq_true (by kernel_rfl)) h0 (fun x hx => hb.same (hlt x (hx))) (fun x hx => hsp x (hx))) trodAll_mk0)) (fun _ _ => rfl) (by simp)
    hb (ok_one (by kernel_rfl) rfl (okWide_bool_mk Try.underlying4 _))⟩

theorem closed : joinedFacts Try.pinned.checked.prog 6 Try.f6 Rows.fnChildrenOfSpec Rows.fnChildrenOfRow = true := by
  show joinedFacts Try.prog 6 Try.f6 Rows.fnChildrenOfSpec Rows.fnChildrenOfRow = true
  unfold joinedFacts
  rw [may_enter, lifts_not, make_cut]
  kernel_rfl

theorem over : Rows.fnChildrenOfRow.holds Try.pinned (OpenSpec.ofChange Rows.fnChildrenOfSpec) :=
  OpenClaim.holds_of_wide 6 Try.f6 rfl rfl rfl rfl rfl rfl rfl ⟨rfl, rfl, rfl, rfl, rfl⟩ rfl rfl rfl rfl rfl (by kernel_rfl) Try.func6 closed
    (of_decide_eq_true (by kernel_rfl)) (by unfold Func.isWrapper; first | (rw [if_pos (by decide +kernel)]; kernel_rfl) | (rw [if_neg (by decide +kernel)]; exact ⟨rfl, rfl⟩))
    (fun os started H enc _ => lifted os started H enc)

theorem proved : Rows.FnChildrenOfSaid := over
#print axioms proved
end Go.Proofs.Ytklikpcfmmpocaa.childrenOf
