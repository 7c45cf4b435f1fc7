/-
  The law FnReadIn: for every input it answers true and leaves its argument as it was. No condition.
-/
import Derived.Test.YtklikpcfmmpocaaFrame
import Derived.Test.YtklikpcfmmpocaaFacts
import Derived.Test.YtklikpcfmmpocaaDwA
import Derived.Test.YtklikpcfmmpocaaDwD
import Derived.Test.YtklikpcfmmpocaaImpl8
import Derived.Test.YtklikpcfmmpocaaDwM
namespace Go.Proofs.Ytklikpcfmmpocaa.readIn
open Go.ChangeShapes Go.WideShapes Go.ChangeAt Go.RowKit
set_option linter.unusedVariables false

set_option maxRecDepth 100000 in
set_option maxHeartbeats 6000000 in
theorem walk (v : Value) (l : List Int) (w : World) (hv : OBytes w v l) :
    Calls Try.prog 10 #[v] w fun e w' => e = .returned (.bool true) ∧ Below w.heap.size w w' := by
  have HV := Lib.hid hv
  obtain ⟨⟨A, C, b', o, rfl, hn, hc, _, _⟩, _⟩ := hv
  unfold maxLen at hc
  by_cases hbig : 1048576 < l.length
  · go_enter Try.func10, Try.ntmps10
    go_wp2
    go_ret
    exact ⟨rfl, Below.refl _ _⟩
  have hl : l.length ≤ 1048576 := by omega
  go_enter Try.func10, Try.ntmps10
  go_wp2_with fail
  refine (S_DrawReadIn _ l _ HV.out hl).mono ?_
  rintro e w1 ⟨sl, xs, p, b, rfl, hrow, hp, hB⟩
  clear HV hbig hl hc hn
  obtain ⟨ga, Cp, rfl, _, hCp, _, _, _, _⟩ := PRowX.rd hrow (by omega)
  unfold maxLen at hCp
  obtain ⟨PB, hPB⟩ : ∃ PB : Nat, PB = w1.heap.size := ⟨_, rfl⟩
  obtain ⟨W, hW⟩ : ∃ W : World, W = w1.alloc (.cells #[.slice (some ⟨ga, 0, none⟩) p.length Cp] 30) := ⟨_, rfl⟩
  have hB : Below w.heap.size w W := by rw [hW]; exact bal hB _
  have hP : Blks W w.heap.size (.slice (some ⟨ga, 0, none⟩) p.length Cp) p := by rw [hW]; exact (PRowX.blks hrow).keep al1
  have cP : W.cell? ⟨PB, 0, none⟩ = some (.slice (some ⟨ga, 0, none⟩) p.length Cp) := by rw [hW, hPB]; simp [go_sem]
  have HPB := Lib.hid hPB
  have HW := Lib.hid hW
  clear hPB hW hrow
  go_wp2_with fail
  rw [← HPB.out, ← HW.out]
  clear HPB HW
  refine (I_ReadIn _ p _ b _ ⟨_, rfl, hP⟩).mono ?_
  rintro e w2 ⟨u, rfl, hu, hb⟩
  replace cP := cell_later hb cP
  replace hP := hP.keep hb
  replace hB := bthen hB hb
  clear hb
  obtain ⟨uA, uC, rfl⟩ := hu.form
  go_wp2_with fail
  refine (S_ReadIn _ p _ b _ ⟨_, rfl, hP⟩).mono ?_
  rintro e w3 ⟨t, rfl, ht, hb⟩
  replace cP := cell_later hb cP
  replace hP := hP.keep hb
  replace hu := hu.keep hb
  replace hB := bthen hB hb
  clear hb
  cases hv : shape p
  · have HVP := Lib.hid hv
    clear hv
    go_wp2_with fail
    refine (L_equalInts _ _ _ _ _ _ _ hu ht).mono ?_
    rintro e w4 ⟨rfl, hb⟩
    rw [beq_self_eq_true]
    replace cP := cell_later hb cP
    replace hP := hP.keep hb
    replace hu := hu.keep hb
    replace ht := ht.keep hb
    replace hB := bthen hB hb
    clear hb
    go_wp2_with fail
    refine (I_ValidShape _ p _ _ ⟨_, rfl, hP⟩).mono ?_
    rintro e w5 ⟨rfl, hb⟩
    rw [HVP.out]
    replace cP := cell_later hb cP
    replace hP := hP.keep hb
    replace hu := hu.keep hb
    replace ht := ht.keep hb
    replace hB := bthen hB hb
    clear hb
    go_wp2_with fail
    refine (S_ReadIn _ p _ b _ ⟨_, rfl, hP⟩).mono ?_
    rintro e w6 ⟨t2, rfl, ht2, hb⟩
    replace cP := cell_later hb cP
    replace hP := hP.keep hb
    replace hu := hu.keep hb
    replace ht := ht.keep hb
    replace hB := bthen hB hb
    clear hb
    go_wp2_with fail
    refine (L_equalInts _ _ _ _ _ _ _ hu ht2).mono ?_
    rintro e w7 ⟨rfl, hb⟩
    rw [beq_self_eq_true]
    replace cP := cell_later hb cP
    replace hP := hP.keep hb
    replace hu := hu.keep hb
    replace ht := ht.keep hb
    replace ht2 := ht2.keep hb
    replace hB := bthen hB hb
    clear hb
    go_wp2
    go_ret
    exact ⟨rfl, hB⟩
  have HVP := Lib.hid hv
  clear hv
  by_cases hq0 : b < 0
  · skip
    go_wp2_with fail
    refine (L_equalInts _ _ _ _ _ _ _ hu ht).mono ?_
    rintro e w8 ⟨rfl, hb⟩
    rw [beq_self_eq_true]
    replace cP := cell_later hb cP
    replace hP := hP.keep hb
    replace hu := hu.keep hb
    replace ht := ht.keep hb
    replace hB := bthen hB hb
    clear hb
    go_wp2_with fail
    refine (I_ValidShape _ p _ _ ⟨_, rfl, hP⟩).mono ?_
    rintro e w9 ⟨rfl, hb⟩
    rw [HVP.out]
    replace cP := cell_later hb cP
    replace hP := hP.keep hb
    replace hu := hu.keep hb
    replace ht := ht.keep hb
    replace hB := bthen hB hb
    clear hb
    go_wp2_with fail
    refine (S_ReadIn _ p _ b _ ⟨_, rfl, hP⟩).mono ?_
    rintro e w10 ⟨t2, rfl, ht2, hb⟩
    replace cP := cell_later hb cP
    replace hP := hP.keep hb
    replace hu := hu.keep hb
    replace ht := ht.keep hb
    replace hB := bthen hB hb
    clear hb
    go_wp2_with fail
    refine (L_equalInts _ _ _ _ _ _ _ hu ht2).mono ?_
    rintro e w11 ⟨rfl, hb⟩
    rw [beq_self_eq_true]
    replace cP := cell_later hb cP
    replace hP := hP.keep hb
    replace hu := hu.keep hb
    replace ht := ht.keep hb
    replace ht2 := ht2.keep hb
    replace hB := bthen hB hb
    clear hb
    go_wp2
    go_ret
    exact ⟨rfl, hB⟩
  by_cases hq1 : b ≥ (p.length : Int)
  · skip
    go_wp2_with fail
    refine (L_equalInts _ _ _ _ _ _ _ hu ht).mono ?_
    rintro e w12 ⟨rfl, hb⟩
    rw [beq_self_eq_true]
    replace cP := cell_later hb cP
    replace hP := hP.keep hb
    replace hu := hu.keep hb
    replace ht := ht.keep hb
    replace hB := bthen hB hb
    clear hb
    go_wp2_with fail
    refine (I_ValidShape _ p _ _ ⟨_, rfl, hP⟩).mono ?_
    rintro e w13 ⟨rfl, hb⟩
    rw [HVP.out]
    replace cP := cell_later hb cP
    replace hP := hP.keep hb
    replace hu := hu.keep hb
    replace ht := ht.keep hb
    replace hB := bthen hB hb
    clear hb
    go_wp2_with fail
    refine (S_ReadIn _ p _ b _ ⟨_, rfl, hP⟩).mono ?_
    rintro e w14 ⟨t2, rfl, ht2, hb⟩
    replace cP := cell_later hb cP
    replace hP := hP.keep hb
    replace hu := hu.keep hb
    replace ht := ht.keep hb
    replace hB := bthen hB hb
    clear hb
    go_wp2_with fail
    refine (L_equalInts _ _ _ _ _ _ _ hu ht2).mono ?_
    rintro e w15 ⟨rfl, hb⟩
    rw [beq_self_eq_true]
    replace cP := cell_later hb cP
    replace hP := hP.keep hb
    replace hu := hu.keep hb
    replace ht := ht.keep hb
    replace ht2 := ht2.keep hb
    replace hB := bthen hB hb
    clear hb
    go_wp2
    go_ret
    exact ⟨rfl, hB⟩
  have hq2 : ¬ (p.length : Int) ≤ b := hq1
  have hb0 : 0 ≤ b := by omega
  have hb1 : b < p.length := by omega
  go_wp2_with fail
  refine (L_equalInts _ _ _ _ _ _ _ hu ht).mono ?_
  rintro e w16 ⟨rfl, hb⟩
  rw [beq_self_eq_true]
  replace cP := cell_later hb cP
  replace hP := hP.keep hb
  replace hu := hu.keep hb
  replace ht := ht.keep hb
  replace hB := bthen hB hb
  clear hb
  go_wp2_with fail
  refine (I_ValidShape _ p _ _ ⟨_, rfl, hP⟩).mono ?_
  rintro e w17 ⟨rfl, hb⟩
  rw [HVP.out]
  replace cP := cell_later hb cP
  replace hP := hP.keep hb
  replace hu := hu.keep hb
  replace ht := ht.keep hb
  replace hB := bthen hB hb
  clear hb
  go_wp2
  have hdz : decide (b < 0) = false := by simp; omega
  try rw [hdz]
  clear hdz
  have hdz2 : decide ((p.length : Int) ≤ b) = false := by simp; omega
  try rw [hdz2]
  clear hdz2
  have hsa := shapeAt_iff.2 ⟨HVP.out, hb0, hb1⟩
  obtain ⟨kb, rfl⟩ := Int.eq_ofNat_of_zero_le hb0
  have ebk : p.bk (kb : Int) = p.getD kb default := by show p.getD (kb : Int).toNat default = _; rw [Int.toNat_natCast]
  obtain ⟨A', C', g', e', _, _, hA', _, hcell, _⟩ := hP.rd
  obtain rfl := hA' (by omega)
  obtain ⟨rfl, rfl⟩ : ga = g' ∧ Cp = C' := by simpa using e'
  obtain ⟨pv, bv, d0, d1, d2, d3, hpv, hbv⟩ := hcell kb (by omega)
  rw [← ebk] at d0 d1 hpv hbv
  clear hcell e' hA' ebk
  have hlaw : ∀ s ∈ (p.bk (kb : Int)).body, ∀ x ∈ s.reads, hasF (rRead p kb) x = true := fun s hs => read_law hsa hs
  have HLAW := Lib.hid hlaw
  have hrng : ∀ x ∈ rRead p kb, 0 ≤ x ∧ x ≤ 7 := fun x hx => ((mem_rRead hsa).1 hx).1
  have HRNG := Lib.hid hrng
  have hul : (rRead p kb).length ≤ 8 := by unfold rRead; split <;> first | exact nms_len _ | exact Nat.zero_le _
  have hasc := rRead_asc p kb
  have HASC := Lib.hid hasc
  clear hlaw hrng hsa hasc
  obtain ⟨body, hbody⟩ : ∃ body : List St, body = (p.bk (kb : Int)).body := ⟨_, rfl⟩
  have HBODY := Lib.hid hbody
  rw [← hbody] at hbv
  obtain ⟨bA, bC, bg, rfl, _, bc, bh, bl, hst, _⟩ := hbv.rd
  unfold maxLen at bc
  have HST := Lib.hid hst
  clear hst hbody
  go_wp2
  go_loopw [6] (fun i wi => ∃ k : Nat, k ≤ body.length ∧ i = .int .i64 k ∧ Below w17.heap.size w17 wi) (fun i _ => body.length - (intOf i).toNat)
  case atStart => exact ⟨0, Nat.zero_le _, rfl, below0 _⟩
  case round =>
    obtain ⟨k, hk, rfl, hb⟩ := hrel
    have hBik := hb
    replace cP := cell_later hb cP
    replace d0 := cell_later hb d0
    replace d1 := cell_later hb d1
    replace d2 := cell_later hb d2
    replace d3 := cell_later hb d3
    replace hP := hP.keep hb
    replace hu := hu.keep hb
    replace ht := ht.keep hb
    replace hpv := hpv.keep hb
    replace hbv := hbv.keep hb
    replace hB := bthen hB hb
    clear hb
    by_cases hltk : k < body.length
    · skip
      obtain ⟨s0, s1, s2, s3⟩ := HST.out k hltk
      obtain rfl := bh (by omega)
      have hmem : body.getD k default ∈ body := by rw [show body.getD k default = body[k] by simp [List.getD, hltk]]; exact List.getElem_mem _
      obtain ⟨S, hS⟩ : ∃ S : St, S = body.getD k default := ⟨_, rfl⟩
      rw [← hS] at s0 s1 s2 s3 hmem
      have HS := Lib.hid hS
      have HM := Lib.hid hmem
      obtain ⟨sk, st, sa, sb⟩ := S
      replace s0 := cell_later hBik s0
      replace s1 := cell_later hBik s1
      replace s2 := cell_later hBik s2
      replace s3 := cell_later hBik s3
      have hkk0 : (0 : Int) ≤ (k : Int) := by omega
      have hkk1 : (k : Int) < (body.length : Int) := by omega
      clear hS hmem
      have hrd : ∀ x ∈ (⟨sk, st, sa, sb⟩ : St).reads, hasF (rRead p kb) x = true := HLAW.out _ (by rw [← HBODY.out]; exact HM.out)
      have HRD := Lib.hid hrd
      clear hrd
      have hb := al1 (w := wr) (o := (.cells #[.int .i64 sk, .int .i64 st, .int .i64 sa, .int .i64 sb] 38))
      replace hP := hP.keep hb
      replace hu := hu.keep hb
      replace ht := ht.keep hb
      replace hpv := hpv.keep hb
      replace hbv := hbv.keep hb
      replace hB := bthen hB hb
      replace hBik := bthen hBik hb
      clear hb
      have q0 : (wr.alloc (.cells #[.int .i64 sk, .int .i64 st, .int .i64 sa, .int .i64 sb] 38)).cell? ⟨wr.heap.size, 0, none⟩ = some (.int .i64 sk) := by simp [go_sem]
      have q1 : (wr.alloc (.cells #[.int .i64 sk, .int .i64 st, .int .i64 sa, .int .i64 sb] 38)).cell? ⟨wr.heap.size, 1, none⟩ = some (.int .i64 st) := by simp [go_sem]
      have q2 : (wr.alloc (.cells #[.int .i64 sk, .int .i64 st, .int .i64 sa, .int .i64 sb] 38)).cell? ⟨wr.heap.size, 2, none⟩ = some (.int .i64 sa) := by simp [go_sem]
      have q3 : (wr.alloc (.cells #[.int .i64 sk, .int .i64 st, .int .i64 sa, .int .i64 sb] 38)).cell? ⟨wr.heap.size, 3, none⟩ = some (.int .i64 sb) := by simp [go_sem]
      by_cases h7 : sk = 7
      · subst h7
        have insa : hasF (rRead p kb) sa = true := HRD.out sa (by simp [St.reads])
        go_wp2_with fail
        refine (L_isIn _ _ _ sa _ hu).mono ?_
        rintro e w' ⟨rfl, rfl⟩
        rw [insa]
        go_wp2
        refine ⟨?_, ?ms1⟩
        (repeat apply Exists.intro)
        refine ⟨?rl1, rfl⟩
        case rl1 => exact ⟨k + 1, by omega, by go_num, hBik⟩
        case ms1 => simp [intOf]; omega
      have n7 : (sk == 7) = false := by rw [beq_eq_false_iff_ne]; exact h7
      by_cases h8 : sk = 8
      · subst h8
        have insa : hasF (rRead p kb) sa = true := HRD.out sa (by simp [St.reads])
        go_wp2_with fail
        refine (L_isIn _ _ _ sa _ hu).mono ?_
        rintro e w' ⟨rfl, rfl⟩
        rw [insa]
        go_wp2
        refine ⟨?_, ?ms2⟩
        (repeat apply Exists.intro)
        refine ⟨?rl2, rfl⟩
        case rl2 => exact ⟨k + 1, by omega, by go_num, hBik⟩
        case ms2 => simp [intOf]; omega
      have n8 : (sk == 8) = false := by rw [beq_eq_false_iff_ne]; exact h8
      by_cases h1 : sk = 1
      · subst h1
        have insa : hasF (rRead p kb) sa = true := HRD.out sa (by simp [St.reads])
        go_wp2_with fail
        refine (L_isIn _ _ _ sa _ hu).mono ?_
        rintro e w' ⟨rfl, rfl⟩
        rw [insa]
        go_wp2
        refine ⟨?_, ?ms3⟩
        (repeat apply Exists.intro)
        refine ⟨?rl3, rfl⟩
        case rl3 => exact ⟨k + 1, by omega, by go_num, hBik⟩
        case ms3 => simp [intOf]; omega
      have n1 : (sk == 1) = false := by rw [beq_eq_false_iff_ne]; exact h1
      by_cases h2 : sk = 2
      · subst h2
        have insa : hasF (rRead p kb) sa = true := HRD.out sa (by simp [St.reads])
        have insb : hasF (rRead p kb) sb = true := HRD.out sb (by simp [St.reads])
        go_wp2_with fail
        refine (L_isIn _ _ _ sa _ hu).mono ?_
        rintro e w' ⟨rfl, rfl⟩
        rw [insa]
        go_wp2_with fail
        refine (L_isIn _ _ _ sb _ hu).mono ?_
        rintro e w' ⟨rfl, rfl⟩
        rw [insb]
        go_wp2
        refine ⟨?_, ?ms4⟩
        (repeat apply Exists.intro)
        refine ⟨?rl4, rfl⟩
        case rl4 => exact ⟨k + 1, by omega, by go_num, hBik⟩
        case ms4 => simp [intOf]; omega
      have n2 : (sk == 2) = false := by rw [beq_eq_false_iff_ne]; exact h2
      go_wp2
      go_roundw
      case rel => exact ⟨k + 1, by omega, by go_num, hBik⟩
      case measure => simp [intOf]; omega
    obtain rfl : k = body.length := by omega
    by_cases hl0 : (rRead p kb).length = 0
    · have hz : (((rRead p kb).length : Int) == 0) = true := by rw [hl0]; rfl
      clear hl0
      go_wp2_with fail
      refine (L_ascends _ _ _ _ hu HASC.out).mono ?_
      rintro e w18 ⟨rfl, hb⟩
      replace cP := cell_later hb cP
      replace d0 := cell_later hb d0
      replace d1 := cell_later hb d1
      replace d2 := cell_later hb d2
      replace d3 := cell_later hb d3
      replace hP := hP.keep hb
      replace hu := hu.keep hb
      replace ht := ht.keep hb
      replace hpv := hpv.keep hb
      replace hbv := hbv.keep hb
      replace hB := bthen hB hb
      clear hb
      go_wp2
      go_ret
      exact ⟨rfl, hB⟩
    have hz : (((rRead p kb).length : Int) == 0) = false := by rw [beq_eq_false_iff_ne]; omega
    go_wp2_with fail
    refine (L_ascends _ _ _ _ hu HASC.out).mono ?_
    rintro e w19 ⟨rfl, hb⟩
    replace cP := cell_later hb cP
    replace d0 := cell_later hb d0
    replace d1 := cell_later hb d1
    replace d2 := cell_later hb d2
    replace d3 := cell_later hb d3
    replace hP := hP.keep hb
    replace hu := hu.keep hb
    replace ht := ht.keep hb
    replace hpv := hpv.keep hb
    replace hbv := hbv.keep hb
    replace hB := bthen hB hb
    clear hb
    obtain ⟨A5, C5, g5, e5, _, c5, h5, _, x5, _⟩ := hu.rd
    obtain rfl := h5 (by omega)
    simp only [Value.slice.injEq] at e5
    obtain ⟨rfl, _, rfl⟩ := e5
    unfold maxLen at c5
    have y0 := x5 0 (by omega)
    have y1 := x5 ((rRead p kb).length - 1) (by omega)
    have e6 : (((rRead p kb).length : Int) - 1).toNat = (rRead p kb).length - 1 := by omega
    have z0 := HRNG.out ((rRead p kb).getD 0 0) (by rw [show (rRead p kb).getD 0 0 = (rRead p kb)[0]'(by omega) by simp [List.getD, show 0 < (rRead p kb).length by omega]]; exact List.getElem_mem _)
    have z1 := HRNG.out ((rRead p kb).getD ((rRead p kb).length - 1) 0) (by rw [show (rRead p kb).getD ((rRead p kb).length - 1) 0 = (rRead p kb)[(rRead p kb).length - 1]'(by omega) by simp [List.getD, show (rRead p kb).length - 1 < (rRead p kb).length by omega]]; exact List.getElem_mem _)
    have y1b := y1
    rw [← e6] at y1b
    generalize (rRead p kb).getD 0 0 = X0 at *
    generalize (rRead p kb).getD ((rRead p kb).length - 1) 0 = X1 at *
    have m0 : X0 ≥ 0 := z0.1
    have m1 : X1 ≤ 7 := z1.2
    have hwr : IntKind.i64.wrap (((rRead p kb).length : Int) - 1) = ((rRead p kb).length : Int) - 1 := IntWalk.i64_in _ (by omega)
    have hi0 : (0 : Int) < ((rRead p kb).length : Int) := by omega
    have hi1 : (0 : Int) ≤ ((rRead p kb).length : Int) - 1 := by omega
    have hi2 : ((rRead p kb).length : Int) - 1 < ((rRead p kb).length : Int) := by omega
    clear x5 z0 z1 e6
    go_wp2
    go_ret
    exact ⟨rfl, hB⟩

theorem own : ownKnob Try.prog.godebug = none := by kernel_rfl
theorem laidOut : laidOutB Try.prog = true := by kernel_rfl

set_option maxRecDepth 100000 in
theorem lifted (os : Os) (started : os.Started) (H : Type) (enc : TypeId × Value → H) :
    ReturnsInHanded {} Try.checked os 10 .any (Rows.fnReadInSpec.pre6 enc Try.prog Try.f10 Rows.fnReadInRow.domain false) (Rows.fnReadInSpec.post enc Try.prog Try.f10 false true false false) := by
  refine returnsInHanded_of_change (C := Try.checked) own started (by kernel_rfl) Try.func10
    (ChangeSpec.witness6 (enc := enc) (C := Try.checked) false ⟨#[], #[.slice none 0 0], []⟩ 8 (by kernel_rfl) (by kernel_rfl) (by kernel_rfl) (by kernel_rfl)) ?_
  intro W base args ds gs before hval0 hW hcnd _
  have hval : ∀ (j : Nat) t v, Try.f10.params[j]? = some t → args[j]? = some v → Value.okWide Try.prog W .any base t v := hval0
  have hW' := hW
  obtain ⟨p, q, hA0, hV, rfl, hfz, hnd⟩ := hW
  have hA : DataW.TrodAll enc Try.prog W 0 (fun _ => true) true Try.f10.params.toList args.toList ds p := hA0
  rw [Try.params10] at hA hval
  obtain ⟨v0, d0, rfl, rfl, h0⟩ := trodAll_one hA
  obtain ⟨rfl, rfl⟩ := trodVars_none hV
  clear hA0 hval0
  simp only [List.append_nil] at hW'
  have hlt : ∀ x ∈ p, x.block < W.heap.size := fun x hx => hW'.lt x hx
  obtain ⟨q0, hq0⟩ := open_obytes (hval 0 22 v0 rfl rfl) h0
  refine (walk v0 q0 W hq0).mono fun e W' ⟨he, hb⟩ => ?_
  subst he
  exact ⟨_, rfl, post_of_below (pa := _) (pv := []) hW' (fun _ _ _ => (trodAll_cons_mk (shut_bool Try.underlying4 _) trodAll_mk0)) (fun sp hsp => (trodAll_cons_mk (WideElems.Trod_stays laidOut (by kernel_rfl) (of_decide_eq_true (by kernel_rfl)) h0 (fun x hx => hb.same (hlt x (hx))) (fun x hx => hsp x (hx))) trodAll_mk0)) (fun _ _ => rfl) (by simp)
    hb (ok_one (by kernel_rfl) rfl (okWide_bool_mk Try.underlying4 _))⟩

theorem closed : joinedFacts Try.pinned.checked.prog 10 Try.f10 Rows.fnReadInSpec Rows.fnReadInRow = true := by
  show joinedFacts Try.prog 10 Try.f10 Rows.fnReadInSpec Rows.fnReadInRow = true
  unfold joinedFacts
  rw [may_enter, lifts_not, make_cut]
  kernel_rfl

theorem over : Rows.fnReadInRow.holds Try.pinned (OpenSpec.ofChange Rows.fnReadInSpec) :=
  OpenClaim.holds_of_wide 10 Try.f10 rfl rfl rfl rfl rfl rfl rfl ⟨rfl, rfl, rfl, rfl, rfl⟩ rfl rfl rfl rfl rfl (by kernel_rfl) Try.func10 closed
    (of_decide_eq_true (by kernel_rfl)) (by unfold Func.isWrapper; first | (rw [if_pos (by decide +kernel)]; kernel_rfl) | (rw [if_neg (by decide +kernel)]; exact ⟨rfl, rfl⟩))
    (fun os started H enc _ => lifted os started H enc)

theorem proved : Rows.FnReadInSaid := over
#print axioms proved
end Go.Proofs.Ytklikpcfmmpocaa.readIn
