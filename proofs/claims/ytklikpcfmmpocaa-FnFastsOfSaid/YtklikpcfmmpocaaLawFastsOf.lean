/-
  The law FnFastsOf: for every input it answers true and leaves its argument as it was. No condition.
-/
import Derived.Test.YtklikpcfmmpocaaFrame
import Derived.Test.YtklikpcfmmpocaaFacts
import Derived.Test.YtklikpcfmmpocaaDwA
import Derived.Test.YtklikpcfmmpocaaDwD
import Derived.Test.YtklikpcfmmpocaaImpl12
import Derived.Test.YtklikpcfmmpocaaImpl9
import Derived.Test.YtklikpcfmmpocaaDwM
namespace Go.Proofs.Ytklikpcfmmpocaa.fastsOf
open Go.ChangeShapes Go.WideShapes Go.ChangeAt Go.RowKit
set_option linter.unusedVariables false

set_option maxRecDepth 100000 in
set_option maxHeartbeats 1000000 in
theorem walk (v : Value) (l : List Int) (w : World) (hv : OBytes w v l) :
    Calls Try.prog 23 #[v] w fun e w' => e = .returned (.bool true) ∧ Below w.heap.size w w' := by
  have HV := Lib.hid hv
  obtain ⟨⟨A, C, b', o, rfl, hn, hc, _, _⟩, _⟩ := hv
  unfold maxLen at hc
  by_cases hbig : 1048576 < l.length
  · go_enter Try.func23, Try.ntmps23
    go_wp2
    go_ret
    exact ⟨rfl, Below.refl _ _⟩
  have hl : l.length ≤ 1048576 := by omega
  go_enter Try.func23, Try.ntmps23
  go_wp2_with fail
  refine (S_DrawFastsOf _ l _ HV.out hl).mono ?_
  rintro e w1 ⟨sl, xs, p, b, rfl, hrow, hp, hB⟩
  clear HV hbig hl hc hn
  obtain ⟨ga, Cp, rfl, _, hCp, _, _, _, _⟩ := PRowX.rd hrow (by omega)
  unfold maxLen at hCp
  obtain ⟨PB, hPB⟩ : ∃ PB : Nat, PB = w1.heap.size := ⟨_, rfl⟩
  obtain ⟨W, hW⟩ : ∃ W : World, W = w1.alloc (.cells #[.slice (some ⟨ga, 0, none⟩) p.length Cp] 30) := ⟨_, rfl⟩
  have hB : Below w.heap.size w W := by rw [hW]; exact bal hB _
  have hP : Blks W w.heap.size (.slice (some ⟨ga, 0, none⟩) p.length Cp) p := by rw [hW]; exact (PRowX.blks hrow).keep al1
  have cP : W.cell? ⟨PB, 0, none⟩ = some (.slice (some ⟨ga, 0, none⟩) p.length Cp) := by rw [hW, hPB]; simp [go_sem]
  have HPB := Lib.hid hPB
  have HW := Lib.hid hW
  clear hPB hW hrow
  go_wp2_with fail
  rw [← HPB.out, ← HW.out]
  clear HPB HW
  refine (I_FastsOf _ p _ b _ ⟨_, rfl, hP⟩).mono ?_
  rintro e w2 ⟨u, rfl, hu, hb⟩
  replace cP := cell_later hb cP
  replace hP := hP.keep hb
  replace hB := bthen hB hb
  clear hb
  obtain ⟨uA, uC, rfl⟩ := hu.form
  go_wp2_with fail
  refine (S_FastsOf _ p _ b _ ⟨_, rfl, hP⟩).mono ?_
  rintro e w3 ⟨t, rfl, ht, hb⟩
  replace cP := cell_later hb cP
  replace hP := hP.keep hb
  replace hu := hu.keep hb
  replace hB := bthen hB hb
  clear hb
  cases hv : validP p
  · have HVP := Lib.hid hv
    clear hv
    go_wp2_with fail
    refine (L_equalInts _ _ _ _ _ _ _ hu ht).mono ?_
    rintro e w4 ⟨rfl, hb⟩
    rw [beq_self_eq_true]
    replace cP := cell_later hb cP
    replace hP := hP.keep hb
    replace hu := hu.keep hb
    replace ht := ht.keep hb
    replace hB := bthen hB hb
    clear hb
    go_wp2_with fail
    refine (I_ValidProgram _ p _ _ ⟨_, rfl, hP⟩).mono ?_
    rintro e w5 ⟨rfl, hb⟩
    rw [HVP.out]
    replace cP := cell_later hb cP
    replace hP := hP.keep hb
    replace hu := hu.keep hb
    replace ht := ht.keep hb
    replace hB := bthen hB hb
    clear hb
    go_wp2_with fail
    refine (S_FastsOf _ p _ b _ ⟨_, rfl, hP⟩).mono ?_
    rintro e w6 ⟨t2, rfl, ht2, hb⟩
    replace cP := cell_later hb cP
    replace hP := hP.keep hb
    replace hu := hu.keep hb
    replace ht := ht.keep hb
    replace hB := bthen hB hb
    clear hb
    go_wp2_with fail
    refine (L_equalInts _ _ _ _ _ _ _ hu ht2).mono ?_
    rintro e w7 ⟨rfl, hb⟩
    rw [beq_self_eq_true]
    replace cP := cell_later hb cP
    replace hP := hP.keep hb
    replace hu := hu.keep hb
    replace ht := ht.keep hb
    replace ht2 := ht2.keep hb
    replace hB := bthen hB hb
    clear hb
    go_wp2
    go_ret
    exact ⟨rfl, hB⟩
  have HVP := Lib.hid hv
  clear hv
  by_cases hq0 : b < 0
  · skip
    go_wp2_with fail
    refine (L_equalInts _ _ _ _ _ _ _ hu ht).mono ?_
    rintro e w8 ⟨rfl, hb⟩
    rw [beq_self_eq_true]
    replace cP := cell_later hb cP
    replace hP := hP.keep hb
    replace hu := hu.keep hb
    replace ht := ht.keep hb
    replace hB := bthen hB hb
    clear hb
    go_wp2_with fail
    refine (I_ValidProgram _ p _ _ ⟨_, rfl, hP⟩).mono ?_
    rintro e w9 ⟨rfl, hb⟩
    rw [HVP.out]
    replace cP := cell_later hb cP
    replace hP := hP.keep hb
    replace hu := hu.keep hb
    replace ht := ht.keep hb
    replace hB := bthen hB hb
    clear hb
    go_wp2_with fail
    refine (S_FastsOf _ p _ b _ ⟨_, rfl, hP⟩).mono ?_
    rintro e w10 ⟨t2, rfl, ht2, hb⟩
    replace cP := cell_later hb cP
    replace hP := hP.keep hb
    replace hu := hu.keep hb
    replace ht := ht.keep hb
    replace hB := bthen hB hb
    clear hb
    go_wp2_with fail
    refine (L_equalInts _ _ _ _ _ _ _ hu ht2).mono ?_
    rintro e w11 ⟨rfl, hb⟩
    rw [beq_self_eq_true]
    replace cP := cell_later hb cP
    replace hP := hP.keep hb
    replace hu := hu.keep hb
    replace ht := ht.keep hb
    replace ht2 := ht2.keep hb
    replace hB := bthen hB hb
    clear hb
    go_wp2
    go_ret
    exact ⟨rfl, hB⟩
  by_cases hq1 : b ≥ (p.length : Int)
  · skip
    go_wp2_with fail
    refine (L_equalInts _ _ _ _ _ _ _ hu ht).mono ?_
    rintro e w12 ⟨rfl, hb⟩
    rw [beq_self_eq_true]
    replace cP := cell_later hb cP
    replace hP := hP.keep hb
    replace hu := hu.keep hb
    replace ht := ht.keep hb
    replace hB := bthen hB hb
    clear hb
    go_wp2_with fail
    refine (I_ValidProgram _ p _ _ ⟨_, rfl, hP⟩).mono ?_
    rintro e w13 ⟨rfl, hb⟩
    rw [HVP.out]
    replace cP := cell_later hb cP
    replace hP := hP.keep hb
    replace hu := hu.keep hb
    replace ht := ht.keep hb
    replace hB := bthen hB hb
    clear hb
    go_wp2_with fail
    refine (S_FastsOf _ p _ b _ ⟨_, rfl, hP⟩).mono ?_
    rintro e w14 ⟨t2, rfl, ht2, hb⟩
    replace cP := cell_later hb cP
    replace hP := hP.keep hb
    replace hu := hu.keep hb
    replace ht := ht.keep hb
    replace hB := bthen hB hb
    clear hb
    go_wp2_with fail
    refine (L_equalInts _ _ _ _ _ _ _ hu ht2).mono ?_
    rintro e w15 ⟨rfl, hb⟩
    rw [beq_self_eq_true]
    replace cP := cell_later hb cP
    replace hP := hP.keep hb
    replace hu := hu.keep hb
    replace ht := ht.keep hb
    replace ht2 := ht2.keep hb
    replace hB := bthen hB hb
    clear hb
    go_wp2
    go_ret
    exact ⟨rfl, hB⟩
  have hq2 : ¬ (p.length : Int) ≤ b := hq1
  have hb0 : 0 ≤ b := by omega
  have hb1 : b < p.length := by omega
  go_wp2_with fail
  refine (L_equalInts _ _ _ _ _ _ _ hu ht).mono ?_
  rintro e w16 ⟨rfl, hb⟩
  rw [beq_self_eq_true]
  replace cP := cell_later hb cP
  replace hP := hP.keep hb
  replace hu := hu.keep hb
  replace ht := ht.keep hb
  replace hB := bthen hB hb
  clear hb
  go_wp2_with fail
  refine (I_ValidProgram _ p _ _ ⟨_, rfl, hP⟩).mono ?_
  rintro e w17 ⟨rfl, hb⟩
  rw [HVP.out]
  replace cP := cell_later hb cP
  replace hP := hP.keep hb
  replace hu := hu.keep hb
  replace ht := ht.keep hb
  replace hB := bthen hB hb
  clear hb
  have hvb := validB_iff.2 ⟨HVP.out, hb0, hb1⟩
  have hlaw := fun x (hx : 0 ≤ x ∧ x ≤ 7) => fasts_law hvb hx
  have HLAW := Lib.hid hlaw
  have HASC := Lib.hid (rFasts_asc p b)
  have hnone := fun h : (p.bk b).kind ≠ 1 => fasts_none h
  have HNONE := Lib.hid hnone
  clear hlaw hvb hnone
  go_wp2_with fail
  refine (I_CellsOf _ p _ b _ ⟨_, rfl, hP⟩).mono ?_
  rintro e w18 ⟨y, rfl, hy, hb⟩
  replace cP := cell_later hb cP
  replace hP := hP.keep hb
  replace hu := hu.keep hb
  replace ht := ht.keep hb
  replace hB := bthen hB hb
  clear hb
  obtain ⟨yA, yC, rfl⟩ := hy.form
  obtain ⟨kb, rfl⟩ := Int.eq_ofNat_of_zero_le hb0
  have ebk : p.bk (kb : Int) = p.getD kb default := by show p.getD (kb : Int).toNat default = _; rw [Int.toNat_natCast]
  obtain ⟨A', C', g', e', _, _, hA', _, hcell, _⟩ := hP.rd
  obtain rfl := hA' (by omega)
  obtain ⟨rfl, rfl⟩ : ga = g' ∧ Cp = C' := by simpa using e'
  obtain ⟨pv, bv, d0, d1, d2, d3, hpv, hbv⟩ := hcell kb (by omega)
  rw [← ebk] at d0 d1 hpv hbv
  clear hcell e' hA' ebk
  go_wp2
  go_loopw [7] (fun i wi => ∃ k : Nat, k ≤ 8 ∧ i = .int .i64 k ∧ Below w18.heap.size w18 wi) (fun i _ => 8 - (intOf i).toNat)
  case atStart => exact ⟨0, Nat.zero_le _, rfl, below0 _⟩
  case round =>
    obtain ⟨k, hk, rfl, hb⟩ := hrel
    have hBik := hb
    replace cP := cell_later hb cP
    replace d0 := cell_later hb d0
    replace d1 := cell_later hb d1
    replace d2 := cell_later hb d2
    replace d3 := cell_later hb d3
    replace hP := hP.keep hb
    replace hu := hu.keep hb
    replace ht := ht.keep hb
    replace hy := hy.keep hb
    replace hpv := hpv.keep hb
    replace hbv := hbv.keep hb
    replace hB := bthen hB hb
    clear hb
    by_cases hltk : k < 8
    · skip
      have hle : (k : Int) ≤ 7 := by omega
      obtain ⟨g1, g2⟩ := HLAW.out k ⟨by omega, by omega⟩
      obtain ⟨X, hX⟩ : ∃ X : Bool, X = hasF (rFasts p kb) k := ⟨_, rfl⟩
      obtain ⟨Y, hY⟩ : ∃ Y : Bool, Y = hasF (rCells p kb) k := ⟨_, rfl⟩
      rw [← hX, ← hY] at g1 g2
      have HX := Lib.hid hX
      have HY := Lib.hid hY
      clear hX hY
      have HNONE2 := HNONE
      clear HNONE
      generalize hLS : rFasts p kb = LS at *
      clear hLS
      generalize hLC : rCells p kb = LC at *
      clear hLC
      by_cases hk1 : (p.bk (kb : Int)).kind = 1
      · rw [hk1] at d0
        have g3 := g2 hk1
        have G3 := Lib.hid g3
        clear g2 g3 hk1
        cases X
        · cases Y
          · skip
            go_wp2
            have hb := (below0 wr).drew
            replace cP := cell_later hb cP
            replace d0 := cell_later hb d0
            replace d1 := cell_later hb d1
            replace d2 := cell_later hb d2
            replace d3 := cell_later hb d3
            replace hP := hP.keep hb
            replace hu := hu.keep hb
            replace ht := ht.keep hb
            replace hy := hy.keep hb
            replace hpv := hpv.keep hb
            replace hbv := hbv.keep hb
            replace hB := bthen hB hb
            replace hBik := bthen hBik hb
            clear hb
            have hcur := below0 (wr).drew
            have hS := And.intro (cP) (d0)
            refine wp_region_T 32 (by kernel_rfl) (fun w' => w'.cell? ⟨PB, 0, none⟩ = some (.slice (some ⟨ga, 0, none⟩) p.length Cp) ∧ w'.cell? ⟨ga, kb * 4, none⟩ = some (.int .i64 1)) ?_
            refine wpAnyT_take (i := 0) (oi := ⟨_, _, _, _, _, _⟩) (v := ?vr10_0) (by kernel_rfl) (by decide) rfl (by kernel_rfl) (by kernel_rfl) (by kernel_rfl) (fun _ _ _ h => h) (Or.inl ⟨by rfl, ?hyr10_0⟩) hS ?restr10_0
            case hyr10_0 =>
              intro w' hSw
              obtain ⟨s0, s1⟩ := hSw
              go_simp
              try with_reducible rfl
            try simp only [Act.put, List.setIfInBounds_toArray, List.set_cons_zero, List.set_cons_succ]
            refine wpAnyT_take (i := 1) (oi := ⟨_, _, _, _, _, _⟩) (v := ?vr10_1) (by kernel_rfl) (by decide) rfl (by kernel_rfl) (by kernel_rfl) (by kernel_rfl) (fun _ _ _ h => h) (Or.inl ⟨by rfl, ?hyr10_1⟩) hS ?restr10_1
            case hyr10_1 =>
              intro w' hSw
              obtain ⟨s0, s1⟩ := hSw
              go_simp
              try with_reducible rfl
            try simp only [Act.put, List.setIfInBounds_toArray, List.set_cons_zero, List.set_cons_succ]
            refine wpAnyT_ready1 (i := 2) (o := ⟨_, _, _, _, _, _⟩) (by kernel_rfl) rfl (fun KC_ hK => ?_)
            go_simp
            go_at_call 45
            refine (L_isIn _ _ _ k _ (hu.keep hcur)).mono ?_
            rintro e w' ⟨rfl, rfl⟩
            rw [← HX.out]
            refine hK _ _ (fun _ => hS) ?_
            try simp only [Act.put, List.setIfInBounds_toArray, List.set_cons_zero, List.set_cons_succ]
            refine wpAnyT_take (i := 3) (oi := ⟨_, _, _, _, _, _⟩) (v := ?vr10_3) (by kernel_rfl) (by decide) rfl (by kernel_rfl) (by kernel_rfl) (by kernel_rfl) (fun _ _ _ h => h) (Or.inl ⟨by rfl, ?hyr10_3⟩) hS ?restr10_3
            case hyr10_3 =>
              intro w' hSw
              obtain ⟨s0, s1⟩ := hSw
              go_simp
              try with_reducible rfl
            try simp only [Act.put, List.setIfInBounds_toArray, List.set_cons_zero, List.set_cons_succ]
            refine wpAnyT_take (i := 4) (oi := ⟨_, _, _, _, _, _⟩) (v := undef) (by kernel_rfl) (by decide) rfl (by kernel_rfl) (by kernel_rfl) (by kernel_rfl) (fun _ _ _ h => h) (Or.inr ⟨by first | rfl | (show (some _ == some _) = false; simp; done) | (show (some _ == some _) = false; simp; omega), rfl⟩) hS ?restr10_4
            try simp only [Act.put, List.setIfInBounds_toArray, List.set_cons_zero, List.set_cons_succ]
            refine wpAnyT_take (i := 5) (oi := ⟨_, _, _, _, _, _⟩) (v := undef) (by kernel_rfl) (by decide) rfl (by kernel_rfl) (by kernel_rfl) (by kernel_rfl) (fun _ _ _ h => h) (Or.inr ⟨by first | rfl | (show (some _ == some _) = false; simp; done) | (show (some _ == some _) = false; simp; omega), rfl⟩) hS ?restr10_5
            try simp only [Act.put, List.setIfInBounds_toArray, List.set_cons_zero, List.set_cons_succ]
            refine wpAnyT_ready1 (i := 6) (o := ⟨_, _, _, _, _, _⟩) (by kernel_rfl) rfl (fun KC_ hK => ?_)
            go_simp
            refine hK _ _ (fun _ => hS) ?_
            try simp only [Act.put, List.setIfInBounds_toArray, List.set_cons_zero, List.set_cons_succ]
            refine wpAnyT_take (i := 7) (oi := ⟨_, _, _, _, _, _⟩) (v := ?vr10_7) (by kernel_rfl) (by decide) rfl (by kernel_rfl) (by kernel_rfl) (by kernel_rfl) (fun _ _ _ h => h) (Or.inl ⟨by rfl, ?hyr10_7⟩) hS ?restr10_7
            case hyr10_7 =>
              intro w' hSw
              obtain ⟨s0, s1⟩ := hSw
              go_simp
              try with_reducible rfl
            try simp only [Act.put, List.setIfInBounds_toArray, List.set_cons_zero, List.set_cons_succ]
            refine wpAnyT_take (i := 8) (oi := ⟨_, _, _, _, _, _⟩) (v := ?vr10_8) (by kernel_rfl) (by decide) rfl (by kernel_rfl) (by kernel_rfl) (by kernel_rfl) (fun _ _ _ h => h) (Or.inl ⟨by rfl, ?hyr10_8⟩) hS ?restr10_8
            case hyr10_8 =>
              intro w' hSw
              obtain ⟨s0, s1⟩ := hSw
              go_simp
              try with_reducible rfl
            try simp only [Act.put, List.setIfInBounds_toArray, List.set_cons_zero, List.set_cons_succ]
            refine wpAnyT_take (i := 9) (oi := ⟨_, _, _, _, _, _⟩) (v := ?vr10_9) (by kernel_rfl) (by decide) rfl (by kernel_rfl) (by kernel_rfl) (by kernel_rfl) (fun _ _ _ h => h) (Or.inl ⟨by first | rfl | (show (some _ == some _) = true; simp; done) | (show (some _ == some _) = true; simp; omega), ?hyr10_9⟩) hS ?restr10_9
            case hyr10_9 =>
              intro w' hSw
              obtain ⟨s0, s1⟩ := hSw
              go_simp
              try with_reducible rfl
            try simp only [Act.put, List.setIfInBounds_toArray, List.set_cons_zero, List.set_cons_succ]
            refine wpAnyT_take (i := 10) (oi := ⟨_, _, _, _, _, _⟩) (v := ?vr10_10) (by kernel_rfl) (by decide) rfl (by kernel_rfl) (by kernel_rfl) (by kernel_rfl) (fun _ _ _ h => h) (Or.inl ⟨by first | rfl | (show (some _ == some _) = true; simp; done) | (show (some _ == some _) = true; simp; omega), ?hyr10_10⟩) hS ?restr10_10
            case hyr10_10 =>
              intro w' hSw
              obtain ⟨s0, s1⟩ := hSw
              go_simp
              try with_reducible rfl
            try simp only [Act.put, List.setIfInBounds_toArray, List.set_cons_zero, List.set_cons_succ]
            refine wpAnyT_take (i := 11) (oi := ⟨_, _, _, _, _, _⟩) (v := ?vr10_11) (by kernel_rfl) (by decide) rfl (by kernel_rfl) (by kernel_rfl) (by kernel_rfl) (fun _ _ _ h => h) (Or.inl ⟨by first | rfl | (show (some _ == some _) = true; simp; done) | (show (some _ == some _) = true; simp; omega), ?hyr10_11⟩) hS ?restr10_11
            case hyr10_11 =>
              intro w' hSw
              obtain ⟨s0, s1⟩ := hSw
              go_simp
              try with_reducible rfl
            try simp only [Act.put, List.setIfInBounds_toArray, List.set_cons_zero, List.set_cons_succ]
            refine wpAnyT_take (i := 12) (oi := ⟨_, _, _, _, _, _⟩) (v := ?vr10_12) (by kernel_rfl) (by decide) rfl (by kernel_rfl) (by kernel_rfl) (by kernel_rfl) (fun _ _ _ h => h) (Or.inl ⟨by first | rfl | (show (some _ == some _) = true; simp; done) | (show (some _ == some _) = true; simp; omega), ?hyr10_12⟩) hS ?restr10_12
            case hyr10_12 =>
              intro w' hSw
              obtain ⟨s0, s1⟩ := hSw
              go_simp
              try with_reducible rfl
            try simp only [Act.put, List.setIfInBounds_toArray, List.set_cons_zero, List.set_cons_succ]
            refine wpAnyT_take (i := 13) (oi := ⟨_, _, _, _, _, _⟩) (v := ?vr10_13) (by kernel_rfl) (by decide) rfl (by kernel_rfl) (by kernel_rfl) (by kernel_rfl) (fun _ _ _ h => h) (Or.inl ⟨by first | rfl | (show (some _ == some _) = true; simp; done) | (show (some _ == some _) = true; simp; omega), ?hyr10_13⟩) hS ?restr10_13
            case hyr10_13 =>
              intro w' hSw
              obtain ⟨s0, s1⟩ := hSw
              go_simp
              try with_reducible rfl
            try simp only [Act.put, List.setIfInBounds_toArray, List.set_cons_zero, List.set_cons_succ]
            refine wpAnyT_take (i := 14) (oi := ⟨_, _, _, _, _, _⟩) (v := ?vr10_14) (by kernel_rfl) (by decide) rfl (by kernel_rfl) (by kernel_rfl) (by kernel_rfl) (fun _ _ _ h => h) (Or.inl ⟨by first | rfl | (show (some _ == some _) = true; simp; done) | (show (some _ == some _) = true; simp; omega), ?hyr10_14⟩) hS ?restr10_14
            case hyr10_14 =>
              intro w' hSw
              obtain ⟨s0, s1⟩ := hSw
              go_simp
              try with_reducible rfl
            try simp only [Act.put, List.setIfInBounds_toArray, List.set_cons_zero, List.set_cons_succ]
            refine wpAnyT_take (i := 15) (oi := ⟨_, _, _, _, _, _⟩) (v := ?vr10_15) (by kernel_rfl) (by decide) rfl (by kernel_rfl) (by kernel_rfl) (by kernel_rfl) (fun _ _ _ h => h) (Or.inl ⟨by first | rfl | (show (some _ == some _) = true; simp; done) | (show (some _ == some _) = true; simp; omega), ?hyr10_15⟩) hS ?restr10_15
            case hyr10_15 =>
              intro w' hSw
              obtain ⟨s0, s1⟩ := hSw
              go_simp
              try with_reducible rfl
            try simp only [Act.put, List.setIfInBounds_toArray, List.set_cons_zero, List.set_cons_succ]
            refine wpAnyT_take (i := 16) (oi := ⟨_, _, _, _, _, _⟩) (v := ?vr10_16) (by kernel_rfl) (by decide) rfl (by kernel_rfl) (by kernel_rfl) (by kernel_rfl) (fun _ _ _ h => h) (Or.inl ⟨by first | rfl | (show (some _ == some _) = true; simp; done) | (show (some _ == some _) = true; simp; omega), ?hyr10_16⟩) hS ?restr10_16
            case hyr10_16 =>
              intro w' hSw
              obtain ⟨s0, s1⟩ := hSw
              go_simp
              try with_reducible rfl
            try simp only [Act.put, List.setIfInBounds_toArray, List.set_cons_zero, List.set_cons_succ]
            refine wpAnyT_take (i := 17) (oi := ⟨_, _, _, _, _, _⟩) (v := ?vr10_17) (by kernel_rfl) (by decide) rfl (by kernel_rfl) (by kernel_rfl) (by kernel_rfl) (fun _ _ _ h => h) (Or.inl ⟨by first | rfl | (show (some _ == some _) = true; simp; done) | (show (some _ == some _) = true; simp; omega), ?hyr10_17⟩) hS ?restr10_17
            case hyr10_17 =>
              intro w' hSw
              obtain ⟨s0, s1⟩ := hSw
              go_simp
              try with_reducible rfl
            try simp only [Act.put, List.setIfInBounds_toArray, List.set_cons_zero, List.set_cons_succ]
            refine wpAnyT_take (i := 18) (oi := ⟨_, _, _, _, _, _⟩) (v := ?vr10_18) (by kernel_rfl) (by decide) rfl (by kernel_rfl) (by kernel_rfl) (by kernel_rfl) (fun _ _ _ h => h) (Or.inl ⟨by first | rfl | (show (some _ == some _) = true; simp; done) | (show (some _ == some _) = true; simp; omega), ?hyr10_18⟩) hS ?restr10_18
            case hyr10_18 =>
              intro w' hSw
              obtain ⟨s0, s1⟩ := hSw
              go_simp
              try with_reducible rfl
            try simp only [Act.put, List.setIfInBounds_toArray, List.set_cons_zero, List.set_cons_succ]
            refine wpAnyT_take (i := 25) (oi := ⟨_, _, _, _, _, _⟩) (v := ?vr10_25) (by kernel_rfl) (by decide) rfl (by kernel_rfl) (by kernel_rfl) (by kernel_rfl) (fun _ _ _ h => h) (Or.inl ⟨by first | rfl | (show (some _ == some _) = true; simp; done) | (show (some _ == some _) = true; simp; omega), ?hyr10_25⟩) hS ?restr10_25
            case hyr10_25 =>
              intro w' hSw
              obtain ⟨s0, s1⟩ := hSw
              go_simp
              try with_reducible rfl
            try simp only [Act.put, List.setIfInBounds_toArray, List.set_cons_zero, List.set_cons_succ]
            refine wpAnyT_take (i := 26) (oi := ⟨_, _, _, _, _, _⟩) (v := ?vr10_26) (by kernel_rfl) (by decide) rfl (by kernel_rfl) (by kernel_rfl) (by kernel_rfl) (fun _ _ _ h => h) (Or.inl ⟨by first | rfl | (show (some _ == some _) = true; simp; done) | (show (some _ == some _) = true; simp; omega), ?hyr10_26⟩) hS ?restr10_26
            case hyr10_26 =>
              intro w' hSw
              obtain ⟨s0, s1⟩ := hSw
              go_simp
              try with_reducible rfl
            try simp only [Act.put, List.setIfInBounds_toArray, List.set_cons_zero, List.set_cons_succ]
            refine wpAnyT_take (i := 27) (oi := ⟨_, _, _, _, _, _⟩) (v := ?vr10_27) (by kernel_rfl) (by decide) rfl (by kernel_rfl) (by kernel_rfl) (by kernel_rfl) (fun _ _ _ h => h) (Or.inl ⟨by first | rfl | (show (some _ == some _) = true; simp; done) | (show (some _ == some _) = true; simp; omega), ?hyr10_27⟩) hS ?restr10_27
            case hyr10_27 =>
              intro w' hSw
              obtain ⟨s0, s1⟩ := hSw
              go_simp
              try with_reducible rfl
            try simp only [Act.put, List.setIfInBounds_toArray, List.set_cons_zero, List.set_cons_succ]
            refine wpAnyT_ready1 (i := 19) (o := ⟨_, _, _, _, _, _⟩) (by kernel_rfl) rfl (fun KC_ hK => ?_)
            try rw [if_pos (by first | rfl | (show (some _ == some _) = true; simp; done) | (show (some _ == some _) = true; simp; omega))]
            go_simp
            go_at_call 45
            refine (L_isIn _ _ _ k _ (hu.keep hcur)).mono ?_
            rintro e w' ⟨rfl, rfl⟩
            rw [← HX.out]
            refine hK _ _ (fun _ => hS) ?_
            try simp only [Act.put, List.setIfInBounds_toArray, List.set_cons_zero, List.set_cons_succ]
            refine wpAnyT_take (i := 20) (oi := ⟨_, _, _, _, _, _⟩) (v := ?vr10_20) (by kernel_rfl) (by decide) rfl (by kernel_rfl) (by kernel_rfl) (by kernel_rfl) (fun _ _ _ h => h) (Or.inl ⟨by first | rfl | (show (some _ == some _) = true; simp; done) | (show (some _ == some _) = true; simp; omega), ?hyr10_20⟩) hS ?restr10_20
            case hyr10_20 =>
              intro w' hSw
              obtain ⟨s0, s1⟩ := hSw
              go_simp
              try with_reducible rfl
            try simp only [Act.put, List.setIfInBounds_toArray, List.set_cons_zero, List.set_cons_succ]
            refine wpAnyT_take (i := 21) (oi := ⟨_, _, _, _, _, _⟩) (v := ?vr10_21) (by kernel_rfl) (by decide) rfl (by kernel_rfl) (by kernel_rfl) (by kernel_rfl) (fun _ _ _ h => h) (Or.inl ⟨by first | rfl | (show (some _ == some _) = true; simp; done) | (show (some _ == some _) = true; simp; omega), ?hyr10_21⟩) hS ?restr10_21
            case hyr10_21 =>
              intro w' hSw
              obtain ⟨s0, s1⟩ := hSw
              go_simp
              try with_reducible rfl
            try simp only [Act.put, List.setIfInBounds_toArray, List.set_cons_zero, List.set_cons_succ]
            refine wpAnyT_take (i := 22) (oi := ⟨_, _, _, _, _, _⟩) (v := ?vr10_22) (by kernel_rfl) (by decide) rfl (by kernel_rfl) (by kernel_rfl) (by kernel_rfl) (fun _ _ _ h => h) (Or.inl ⟨by first | rfl | (show (some _ == some _) = true; simp; done) | (show (some _ == some _) = true; simp; omega), ?hyr10_22⟩) hS ?restr10_22
            case hyr10_22 =>
              intro w' hSw
              obtain ⟨s0, s1⟩ := hSw
              go_simp
              try with_reducible rfl
            try simp only [Act.put, List.setIfInBounds_toArray, List.set_cons_zero, List.set_cons_succ]
            refine wpAnyT_ready1 (i := 23) (o := ⟨_, _, _, _, _, _⟩) (by kernel_rfl) rfl (fun KC_ hK => ?_)
            try rw [if_pos (by first | rfl | (show (some _ == some _) = true; simp; done) | (show (some _ == some _) = true; simp; omega))]
            go_simp
            go_at_call 45
            refine (L_isIn _ _ _ k _ (hy.keep hcur)).mono ?_
            rintro e w' ⟨rfl, rfl⟩
            rw [← HY.out]
            refine hK _ _ (fun _ => hS) ?_
            try simp only [Act.put, List.setIfInBounds_toArray, List.set_cons_zero, List.set_cons_succ]
            refine wpAnyT_take (i := 24) (oi := ⟨_, _, _, _, _, _⟩) (v := ?vr10_24) (by kernel_rfl) (by decide) rfl (by kernel_rfl) (by kernel_rfl) (by kernel_rfl) (fun _ _ _ h => h) (Or.inl ⟨by first | rfl | (show (some _ == some _) = true; simp; done) | (show (some _ == some _) = true; simp; omega), ?hyr10_24⟩) hS ?restr10_24
            case hyr10_24 =>
              intro w' hSw
              obtain ⟨s0, s1⟩ := hSw
              go_simp
              try with_reducible rfl
            try simp only [Act.put, List.setIfInBounds_toArray, List.set_cons_zero, List.set_cons_succ]
            refine wpAnyT_ready1 (i := 28) (o := ⟨_, _, _, _, _, _⟩) (by kernel_rfl) rfl (fun KC_ hK => ?_)
            try rw [if_pos (by first | rfl | (show (some _ == some _) = true; simp; done) | (show (some _ == some _) = true; simp; omega))]
            go_simp
            go_at_call 75
            refine (I_LocalIn _ p _ kb k _ ⟨_, rfl, hP.keep hcur⟩).mono ?_
            rintro e w19 ⟨rfl, hb⟩
            rw [← G3.out]
            have hcur := bthen hcur hb
            clear hb
            have hS := And.intro (cell_later hcur cP) (cell_later hcur d0)
            refine hK _ _ (fun _ => hS) ?_
            try simp only [Act.put, List.setIfInBounds_toArray, List.set_cons_zero, List.set_cons_succ]
            refine wpAnyT_take (i := 29) (oi := ⟨_, _, _, _, _, _⟩) (v := ?vr10_29) (by kernel_rfl) (by decide) rfl (by kernel_rfl) (by kernel_rfl) (by kernel_rfl) (fun _ _ _ h => h) (Or.inl ⟨by first | rfl | (show (some _ == some _) = true; simp; done) | (show (some _ == some _) = true; simp; omega), ?hyr10_29⟩) hS ?restr10_29
            case hyr10_29 =>
              intro w' hSw
              obtain ⟨s0, s1⟩ := hSw
              go_simp
              try with_reducible rfl
            try simp only [Act.put, List.setIfInBounds_toArray, List.set_cons_zero, List.set_cons_succ]
            refine wpAnyT_take (i := 30) (oi := ⟨_, _, _, _, _, _⟩) (v := ?vr10_30) (by kernel_rfl) (by decide) rfl (by kernel_rfl) (by kernel_rfl) (by kernel_rfl) (fun _ _ _ h => h) (Or.inl ⟨by first | rfl | (show (some _ == some _) = true; simp; done) | (show (some _ == some _) = true; simp; omega), ?hyr10_30⟩) hS ?restr10_30
            case hyr10_30 =>
              intro w' hSw
              obtain ⟨s0, s1⟩ := hSw
              go_simp
              try with_reducible rfl
            try simp only [Act.put, List.setIfInBounds_toArray, List.set_cons_zero, List.set_cons_succ]
            refine wpAnyT_take (i := 31) (oi := ⟨_, _, _, _, _, _⟩) (v := ?vr10_31) (by kernel_rfl) (by decide) rfl (by kernel_rfl) (by kernel_rfl) (by kernel_rfl) (fun _ _ _ h => h) (Or.inl ⟨by rfl, ?hyr10_31⟩) hS ?restr10_31
            case hyr10_31 =>
              intro w' hSw
              obtain ⟨s0, s1⟩ := hSw
              go_simp
              try with_reducible rfl
            try simp only [Act.put, List.setIfInBounds_toArray, List.set_cons_zero, List.set_cons_succ]
            refine wpAnyT_done (by kernel_rfl) ?_ _
            have hb := hcur
            clear hcur hS
            replace cP := cell_later hb cP
            replace d0 := cell_later hb d0
            replace d1 := cell_later hb d1
            replace d2 := cell_later hb d2
            replace d3 := cell_later hb d3
            replace hP := hP.keep hb
            replace hu := hu.keep hb
            replace ht := ht.keep hb
            replace hy := hy.keep hb
            replace hpv := hpv.keep hb
            replace hbv := hbv.keep hb
            replace hB := bthen hB hb
            replace hBik := bthen hBik hb
            clear hb
            go_wp2
            go_roundw
            case rel => exact ⟨k + 1, by omega, by go_num, hBik⟩
            case measure => simp [intOf]; omega
          · skip
            go_wp2
            have hb := (below0 wr).drew
            replace cP := cell_later hb cP
            replace d0 := cell_later hb d0
            replace d1 := cell_later hb d1
            replace d2 := cell_later hb d2
            replace d3 := cell_later hb d3
            replace hP := hP.keep hb
            replace hu := hu.keep hb
            replace ht := ht.keep hb
            replace hy := hy.keep hb
            replace hpv := hpv.keep hb
            replace hbv := hbv.keep hb
            replace hB := bthen hB hb
            replace hBik := bthen hBik hb
            clear hb
            have hcur := below0 (wr).drew
            have hS := And.intro (cP) (d0)
            refine wp_region_T 32 (by kernel_rfl) (fun w' => w'.cell? ⟨PB, 0, none⟩ = some (.slice (some ⟨ga, 0, none⟩) p.length Cp) ∧ w'.cell? ⟨ga, kb * 4, none⟩ = some (.int .i64 1)) ?_
            refine wpAnyT_take (i := 0) (oi := ⟨_, _, _, _, _, _⟩) (v := ?vr11_0) (by kernel_rfl) (by decide) rfl (by kernel_rfl) (by kernel_rfl) (by kernel_rfl) (fun _ _ _ h => h) (Or.inl ⟨by rfl, ?hyr11_0⟩) hS ?restr11_0
            case hyr11_0 =>
              intro w' hSw
              obtain ⟨s0, s1⟩ := hSw
              go_simp
              try with_reducible rfl
            try simp only [Act.put, List.setIfInBounds_toArray, List.set_cons_zero, List.set_cons_succ]
            refine wpAnyT_take (i := 1) (oi := ⟨_, _, _, _, _, _⟩) (v := ?vr11_1) (by kernel_rfl) (by decide) rfl (by kernel_rfl) (by kernel_rfl) (by kernel_rfl) (fun _ _ _ h => h) (Or.inl ⟨by rfl, ?hyr11_1⟩) hS ?restr11_1
            case hyr11_1 =>
              intro w' hSw
              obtain ⟨s0, s1⟩ := hSw
              go_simp
              try with_reducible rfl
            try simp only [Act.put, List.setIfInBounds_toArray, List.set_cons_zero, List.set_cons_succ]
            refine wpAnyT_ready1 (i := 2) (o := ⟨_, _, _, _, _, _⟩) (by kernel_rfl) rfl (fun KC_ hK => ?_)
            go_simp
            go_at_call 45
            refine (L_isIn _ _ _ k _ (hu.keep hcur)).mono ?_
            rintro e w' ⟨rfl, rfl⟩
            rw [← HX.out]
            refine hK _ _ (fun _ => hS) ?_
            try simp only [Act.put, List.setIfInBounds_toArray, List.set_cons_zero, List.set_cons_succ]
            refine wpAnyT_take (i := 3) (oi := ⟨_, _, _, _, _, _⟩) (v := ?vr11_3) (by kernel_rfl) (by decide) rfl (by kernel_rfl) (by kernel_rfl) (by kernel_rfl) (fun _ _ _ h => h) (Or.inl ⟨by rfl, ?hyr11_3⟩) hS ?restr11_3
            case hyr11_3 =>
              intro w' hSw
              obtain ⟨s0, s1⟩ := hSw
              go_simp
              try with_reducible rfl
            try simp only [Act.put, List.setIfInBounds_toArray, List.set_cons_zero, List.set_cons_succ]
            refine wpAnyT_take (i := 4) (oi := ⟨_, _, _, _, _, _⟩) (v := undef) (by kernel_rfl) (by decide) rfl (by kernel_rfl) (by kernel_rfl) (by kernel_rfl) (fun _ _ _ h => h) (Or.inr ⟨by first | rfl | (show (some _ == some _) = false; simp; done) | (show (some _ == some _) = false; simp; omega), rfl⟩) hS ?restr11_4
            try simp only [Act.put, List.setIfInBounds_toArray, List.set_cons_zero, List.set_cons_succ]
            refine wpAnyT_take (i := 5) (oi := ⟨_, _, _, _, _, _⟩) (v := undef) (by kernel_rfl) (by decide) rfl (by kernel_rfl) (by kernel_rfl) (by kernel_rfl) (fun _ _ _ h => h) (Or.inr ⟨by first | rfl | (show (some _ == some _) = false; simp; done) | (show (some _ == some _) = false; simp; omega), rfl⟩) hS ?restr11_5
            try simp only [Act.put, List.setIfInBounds_toArray, List.set_cons_zero, List.set_cons_succ]
            refine wpAnyT_ready1 (i := 6) (o := ⟨_, _, _, _, _, _⟩) (by kernel_rfl) rfl (fun KC_ hK => ?_)
            go_simp
            refine hK _ _ (fun _ => hS) ?_
            try simp only [Act.put, List.setIfInBounds_toArray, List.set_cons_zero, List.set_cons_succ]
            refine wpAnyT_take (i := 7) (oi := ⟨_, _, _, _, _, _⟩) (v := ?vr11_7) (by kernel_rfl) (by decide) rfl (by kernel_rfl) (by kernel_rfl) (by kernel_rfl) (fun _ _ _ h => h) (Or.inl ⟨by rfl, ?hyr11_7⟩) hS ?restr11_7
            case hyr11_7 =>
              intro w' hSw
              obtain ⟨s0, s1⟩ := hSw
              go_simp
              try with_reducible rfl
            try simp only [Act.put, List.setIfInBounds_toArray, List.set_cons_zero, List.set_cons_succ]
            refine wpAnyT_take (i := 8) (oi := ⟨_, _, _, _, _, _⟩) (v := ?vr11_8) (by kernel_rfl) (by decide) rfl (by kernel_rfl) (by kernel_rfl) (by kernel_rfl) (fun _ _ _ h => h) (Or.inl ⟨by rfl, ?hyr11_8⟩) hS ?restr11_8
            case hyr11_8 =>
              intro w' hSw
              obtain ⟨s0, s1⟩ := hSw
              go_simp
              try with_reducible rfl
            try simp only [Act.put, List.setIfInBounds_toArray, List.set_cons_zero, List.set_cons_succ]
            refine wpAnyT_take (i := 9) (oi := ⟨_, _, _, _, _, _⟩) (v := ?vr11_9) (by kernel_rfl) (by decide) rfl (by kernel_rfl) (by kernel_rfl) (by kernel_rfl) (fun _ _ _ h => h) (Or.inl ⟨by first | rfl | (show (some _ == some _) = true; simp; done) | (show (some _ == some _) = true; simp; omega), ?hyr11_9⟩) hS ?restr11_9
            case hyr11_9 =>
              intro w' hSw
              obtain ⟨s0, s1⟩ := hSw
              go_simp
              try with_reducible rfl
            try simp only [Act.put, List.setIfInBounds_toArray, List.set_cons_zero, List.set_cons_succ]
            refine wpAnyT_take (i := 10) (oi := ⟨_, _, _, _, _, _⟩) (v := ?vr11_10) (by kernel_rfl) (by decide) rfl (by kernel_rfl) (by kernel_rfl) (by kernel_rfl) (fun _ _ _ h => h) (Or.inl ⟨by first | rfl | (show (some _ == some _) = true; simp; done) | (show (some _ == some _) = true; simp; omega), ?hyr11_10⟩) hS ?restr11_10
            case hyr11_10 =>
              intro w' hSw
              obtain ⟨s0, s1⟩ := hSw
              go_simp
              try with_reducible rfl
            try simp only [Act.put, List.setIfInBounds_toArray, List.set_cons_zero, List.set_cons_succ]
            refine wpAnyT_take (i := 11) (oi := ⟨_, _, _, _, _, _⟩) (v := ?vr11_11) (by kernel_rfl) (by decide) rfl (by kernel_rfl) (by kernel_rfl) (by kernel_rfl) (fun _ _ _ h => h) (Or.inl ⟨by first | rfl | (show (some _ == some _) = true; simp; done) | (show (some _ == some _) = true; simp; omega), ?hyr11_11⟩) hS ?restr11_11
            case hyr11_11 =>
              intro w' hSw
              obtain ⟨s0, s1⟩ := hSw
              go_simp
              try with_reducible rfl
            try simp only [Act.put, List.setIfInBounds_toArray, List.set_cons_zero, List.set_cons_succ]
            refine wpAnyT_take (i := 12) (oi := ⟨_, _, _, _, _, _⟩) (v := ?vr11_12) (by kernel_rfl) (by decide) rfl (by kernel_rfl) (by kernel_rfl) (by kernel_rfl) (fun _ _ _ h => h) (Or.inl ⟨by first | rfl | (show (some _ == some _) = true; simp; done) | (show (some _ == some _) = true; simp; omega), ?hyr11_12⟩) hS ?restr11_12
            case hyr11_12 =>
              intro w' hSw
              obtain ⟨s0, s1⟩ := hSw
              go_simp
              try with_reducible rfl
            try simp only [Act.put, List.setIfInBounds_toArray, List.set_cons_zero, List.set_cons_succ]
            refine wpAnyT_take (i := 13) (oi := ⟨_, _, _, _, _, _⟩) (v := ?vr11_13) (by kernel_rfl) (by decide) rfl (by kernel_rfl) (by kernel_rfl) (by kernel_rfl) (fun _ _ _ h => h) (Or.inl ⟨by first | rfl | (show (some _ == some _) = true; simp; done) | (show (some _ == some _) = true; simp; omega), ?hyr11_13⟩) hS ?restr11_13
            case hyr11_13 =>
              intro w' hSw
              obtain ⟨s0, s1⟩ := hSw
              go_simp
              try with_reducible rfl
            try simp only [Act.put, List.setIfInBounds_toArray, List.set_cons_zero, List.set_cons_succ]
            refine wpAnyT_take (i := 14) (oi := ⟨_, _, _, _, _, _⟩) (v := ?vr11_14) (by kernel_rfl) (by decide) rfl (by kernel_rfl) (by kernel_rfl) (by kernel_rfl) (fun _ _ _ h => h) (Or.inl ⟨by first | rfl | (show (some _ == some _) = true; simp; done) | (show (some _ == some _) = true; simp; omega), ?hyr11_14⟩) hS ?restr11_14
            case hyr11_14 =>
              intro w' hSw
              obtain ⟨s0, s1⟩ := hSw
              go_simp
              try with_reducible rfl
            try simp only [Act.put, List.setIfInBounds_toArray, List.set_cons_zero, List.set_cons_succ]
            refine wpAnyT_take (i := 15) (oi := ⟨_, _, _, _, _, _⟩) (v := ?vr11_15) (by kernel_rfl) (by decide) rfl (by kernel_rfl) (by kernel_rfl) (by kernel_rfl) (fun _ _ _ h => h) (Or.inl ⟨by first | rfl | (show (some _ == some _) = true; simp; done) | (show (some _ == some _) = true; simp; omega), ?hyr11_15⟩) hS ?restr11_15
            case hyr11_15 =>
              intro w' hSw
              obtain ⟨s0, s1⟩ := hSw
              go_simp
              try with_reducible rfl
            try simp only [Act.put, List.setIfInBounds_toArray, List.set_cons_zero, List.set_cons_succ]
            refine wpAnyT_take (i := 16) (oi := ⟨_, _, _, _, _, _⟩) (v := ?vr11_16) (by kernel_rfl) (by decide) rfl (by kernel_rfl) (by kernel_rfl) (by kernel_rfl) (fun _ _ _ h => h) (Or.inl ⟨by first | rfl | (show (some _ == some _) = true; simp; done) | (show (some _ == some _) = true; simp; omega), ?hyr11_16⟩) hS ?restr11_16
            case hyr11_16 =>
              intro w' hSw
              obtain ⟨s0, s1⟩ := hSw
              go_simp
              try with_reducible rfl
            try simp only [Act.put, List.setIfInBounds_toArray, List.set_cons_zero, List.set_cons_succ]
            refine wpAnyT_take (i := 17) (oi := ⟨_, _, _, _, _, _⟩) (v := ?vr11_17) (by kernel_rfl) (by decide) rfl (by kernel_rfl) (by kernel_rfl) (by kernel_rfl) (fun _ _ _ h => h) (Or.inl ⟨by first | rfl | (show (some _ == some _) = true; simp; done) | (show (some _ == some _) = true; simp; omega), ?hyr11_17⟩) hS ?restr11_17
            case hyr11_17 =>
              intro w' hSw
              obtain ⟨s0, s1⟩ := hSw
              go_simp
              try with_reducible rfl
            try simp only [Act.put, List.setIfInBounds_toArray, List.set_cons_zero, List.set_cons_succ]
            refine wpAnyT_take (i := 18) (oi := ⟨_, _, _, _, _, _⟩) (v := ?vr11_18) (by kernel_rfl) (by decide) rfl (by kernel_rfl) (by kernel_rfl) (by kernel_rfl) (fun _ _ _ h => h) (Or.inl ⟨by first | rfl | (show (some _ == some _) = true; simp; done) | (show (some _ == some _) = true; simp; omega), ?hyr11_18⟩) hS ?restr11_18
            case hyr11_18 =>
              intro w' hSw
              obtain ⟨s0, s1⟩ := hSw
              go_simp
              try with_reducible rfl
            try simp only [Act.put, List.setIfInBounds_toArray, List.set_cons_zero, List.set_cons_succ]
            refine wpAnyT_take (i := 25) (oi := ⟨_, _, _, _, _, _⟩) (v := ?vr11_25) (by kernel_rfl) (by decide) rfl (by kernel_rfl) (by kernel_rfl) (by kernel_rfl) (fun _ _ _ h => h) (Or.inl ⟨by first | rfl | (show (some _ == some _) = true; simp; done) | (show (some _ == some _) = true; simp; omega), ?hyr11_25⟩) hS ?restr11_25
            case hyr11_25 =>
              intro w' hSw
              obtain ⟨s0, s1⟩ := hSw
              go_simp
              try with_reducible rfl
            try simp only [Act.put, List.setIfInBounds_toArray, List.set_cons_zero, List.set_cons_succ]
            refine wpAnyT_take (i := 26) (oi := ⟨_, _, _, _, _, _⟩) (v := ?vr11_26) (by kernel_rfl) (by decide) rfl (by kernel_rfl) (by kernel_rfl) (by kernel_rfl) (fun _ _ _ h => h) (Or.inl ⟨by first | rfl | (show (some _ == some _) = true; simp; done) | (show (some _ == some _) = true; simp; omega), ?hyr11_26⟩) hS ?restr11_26
            case hyr11_26 =>
              intro w' hSw
              obtain ⟨s0, s1⟩ := hSw
              go_simp
              try with_reducible rfl
            try simp only [Act.put, List.setIfInBounds_toArray, List.set_cons_zero, List.set_cons_succ]
            refine wpAnyT_take (i := 27) (oi := ⟨_, _, _, _, _, _⟩) (v := ?vr11_27) (by kernel_rfl) (by decide) rfl (by kernel_rfl) (by kernel_rfl) (by kernel_rfl) (fun _ _ _ h => h) (Or.inl ⟨by first | rfl | (show (some _ == some _) = true; simp; done) | (show (some _ == some _) = true; simp; omega), ?hyr11_27⟩) hS ?restr11_27
            case hyr11_27 =>
              intro w' hSw
              obtain ⟨s0, s1⟩ := hSw
              go_simp
              try with_reducible rfl
            try simp only [Act.put, List.setIfInBounds_toArray, List.set_cons_zero, List.set_cons_succ]
            refine wpAnyT_ready1 (i := 19) (o := ⟨_, _, _, _, _, _⟩) (by kernel_rfl) rfl (fun KC_ hK => ?_)
            try rw [if_pos (by first | rfl | (show (some _ == some _) = true; simp; done) | (show (some _ == some _) = true; simp; omega))]
            go_simp
            go_at_call 45
            refine (L_isIn _ _ _ k _ (hu.keep hcur)).mono ?_
            rintro e w' ⟨rfl, rfl⟩
            rw [← HX.out]
            refine hK _ _ (fun _ => hS) ?_
            try simp only [Act.put, List.setIfInBounds_toArray, List.set_cons_zero, List.set_cons_succ]
            refine wpAnyT_take (i := 20) (oi := ⟨_, _, _, _, _, _⟩) (v := ?vr11_20) (by kernel_rfl) (by decide) rfl (by kernel_rfl) (by kernel_rfl) (by kernel_rfl) (fun _ _ _ h => h) (Or.inl ⟨by first | rfl | (show (some _ == some _) = true; simp; done) | (show (some _ == some _) = true; simp; omega), ?hyr11_20⟩) hS ?restr11_20
            case hyr11_20 =>
              intro w' hSw
              obtain ⟨s0, s1⟩ := hSw
              go_simp
              try with_reducible rfl
            try simp only [Act.put, List.setIfInBounds_toArray, List.set_cons_zero, List.set_cons_succ]
            refine wpAnyT_take (i := 21) (oi := ⟨_, _, _, _, _, _⟩) (v := ?vr11_21) (by kernel_rfl) (by decide) rfl (by kernel_rfl) (by kernel_rfl) (by kernel_rfl) (fun _ _ _ h => h) (Or.inl ⟨by first | rfl | (show (some _ == some _) = true; simp; done) | (show (some _ == some _) = true; simp; omega), ?hyr11_21⟩) hS ?restr11_21
            case hyr11_21 =>
              intro w' hSw
              obtain ⟨s0, s1⟩ := hSw
              go_simp
              try with_reducible rfl
            try simp only [Act.put, List.setIfInBounds_toArray, List.set_cons_zero, List.set_cons_succ]
            refine wpAnyT_take (i := 22) (oi := ⟨_, _, _, _, _, _⟩) (v := ?vr11_22) (by kernel_rfl) (by decide) rfl (by kernel_rfl) (by kernel_rfl) (by kernel_rfl) (fun _ _ _ h => h) (Or.inl ⟨by first | rfl | (show (some _ == some _) = true; simp; done) | (show (some _ == some _) = true; simp; omega), ?hyr11_22⟩) hS ?restr11_22
            case hyr11_22 =>
              intro w' hSw
              obtain ⟨s0, s1⟩ := hSw
              go_simp
              try with_reducible rfl
            try simp only [Act.put, List.setIfInBounds_toArray, List.set_cons_zero, List.set_cons_succ]
            refine wpAnyT_ready1 (i := 23) (o := ⟨_, _, _, _, _, _⟩) (by kernel_rfl) rfl (fun KC_ hK => ?_)
            try rw [if_pos (by first | rfl | (show (some _ == some _) = true; simp; done) | (show (some _ == some _) = true; simp; omega))]
            go_simp
            go_at_call 45
            refine (L_isIn _ _ _ k _ (hy.keep hcur)).mono ?_
            rintro e w' ⟨rfl, rfl⟩
            rw [← HY.out]
            refine hK _ _ (fun _ => hS) ?_
            try simp only [Act.put, List.setIfInBounds_toArray, List.set_cons_zero, List.set_cons_succ]
            refine wpAnyT_take (i := 24) (oi := ⟨_, _, _, _, _, _⟩) (v := ?vr11_24) (by kernel_rfl) (by decide) rfl (by kernel_rfl) (by kernel_rfl) (by kernel_rfl) (fun _ _ _ h => h) (Or.inl ⟨by first | rfl | (show (some _ == some _) = true; simp; done) | (show (some _ == some _) = true; simp; omega), ?hyr11_24⟩) hS ?restr11_24
            case hyr11_24 =>
              intro w' hSw
              obtain ⟨s0, s1⟩ := hSw
              go_simp
              try with_reducible rfl
            try simp only [Act.put, List.setIfInBounds_toArray, List.set_cons_zero, List.set_cons_succ]
            refine wpAnyT_ready1 (i := 28) (o := ⟨_, _, _, _, _, _⟩) (by kernel_rfl) rfl (fun KC_ hK => ?_)
            try rw [if_pos (by first | rfl | (show (some _ == some _) = true; simp; done) | (show (some _ == some _) = true; simp; omega))]
            go_simp
            go_at_call 75
            refine (I_LocalIn _ p _ kb k _ ⟨_, rfl, hP.keep hcur⟩).mono ?_
            rintro e w20 ⟨rfl, hb⟩
            rw [← G3.out]
            have hcur := bthen hcur hb
            clear hb
            have hS := And.intro (cell_later hcur cP) (cell_later hcur d0)
            refine hK _ _ (fun _ => hS) ?_
            try simp only [Act.put, List.setIfInBounds_toArray, List.set_cons_zero, List.set_cons_succ]
            refine wpAnyT_take (i := 29) (oi := ⟨_, _, _, _, _, _⟩) (v := ?vr11_29) (by kernel_rfl) (by decide) rfl (by kernel_rfl) (by kernel_rfl) (by kernel_rfl) (fun _ _ _ h => h) (Or.inl ⟨by first | rfl | (show (some _ == some _) = true; simp; done) | (show (some _ == some _) = true; simp; omega), ?hyr11_29⟩) hS ?restr11_29
            case hyr11_29 =>
              intro w' hSw
              obtain ⟨s0, s1⟩ := hSw
              go_simp
              try with_reducible rfl
            try simp only [Act.put, List.setIfInBounds_toArray, List.set_cons_zero, List.set_cons_succ]
            refine wpAnyT_take (i := 30) (oi := ⟨_, _, _, _, _, _⟩) (v := ?vr11_30) (by kernel_rfl) (by decide) rfl (by kernel_rfl) (by kernel_rfl) (by kernel_rfl) (fun _ _ _ h => h) (Or.inl ⟨by first | rfl | (show (some _ == some _) = true; simp; done) | (show (some _ == some _) = true; simp; omega), ?hyr11_30⟩) hS ?restr11_30
            case hyr11_30 =>
              intro w' hSw
              obtain ⟨s0, s1⟩ := hSw
              go_simp
              try with_reducible rfl
            try simp only [Act.put, List.setIfInBounds_toArray, List.set_cons_zero, List.set_cons_succ]
            refine wpAnyT_take (i := 31) (oi := ⟨_, _, _, _, _, _⟩) (v := ?vr11_31) (by kernel_rfl) (by decide) rfl (by kernel_rfl) (by kernel_rfl) (by kernel_rfl) (fun _ _ _ h => h) (Or.inl ⟨by rfl, ?hyr11_31⟩) hS ?restr11_31
            case hyr11_31 =>
              intro w' hSw
              obtain ⟨s0, s1⟩ := hSw
              go_simp
              try with_reducible rfl
            try simp only [Act.put, List.setIfInBounds_toArray, List.set_cons_zero, List.set_cons_succ]
            refine wpAnyT_done (by kernel_rfl) ?_ _
            have hb := hcur
            clear hcur hS
            replace cP := cell_later hb cP
            replace d0 := cell_later hb d0
            replace d1 := cell_later hb d1
            replace d2 := cell_later hb d2
            replace d3 := cell_later hb d3
            replace hP := hP.keep hb
            replace hu := hu.keep hb
            replace ht := ht.keep hb
            replace hy := hy.keep hb
            replace hpv := hpv.keep hb
            replace hbv := hbv.keep hb
            replace hB := bthen hB hb
            replace hBik := bthen hBik hb
            clear hb
            go_wp2
            go_roundw
            case rel => exact ⟨k + 1, by omega, by go_num, hBik⟩
            case measure => simp [intOf]; omega
        · cases Y
          · skip
            go_wp2
            have hb := (below0 wr).drew
            replace cP := cell_later hb cP
            replace d0 := cell_later hb d0
            replace d1 := cell_later hb d1
            replace d2 := cell_later hb d2
            replace d3 := cell_later hb d3
            replace hP := hP.keep hb
            replace hu := hu.keep hb
            replace ht := ht.keep hb
            replace hy := hy.keep hb
            replace hpv := hpv.keep hb
            replace hbv := hbv.keep hb
            replace hB := bthen hB hb
            replace hBik := bthen hBik hb
            clear hb
            have hcur := below0 (wr).drew
            have hS := And.intro (cP) (d0)
            refine wp_region_T 32 (by kernel_rfl) (fun w' => w'.cell? ⟨PB, 0, none⟩ = some (.slice (some ⟨ga, 0, none⟩) p.length Cp) ∧ w'.cell? ⟨ga, kb * 4, none⟩ = some (.int .i64 1)) ?_
            refine wpAnyT_take (i := 0) (oi := ⟨_, _, _, _, _, _⟩) (v := ?vr12_0) (by kernel_rfl) (by decide) rfl (by kernel_rfl) (by kernel_rfl) (by kernel_rfl) (fun _ _ _ h => h) (Or.inl ⟨by rfl, ?hyr12_0⟩) hS ?restr12_0
            case hyr12_0 =>
              intro w' hSw
              obtain ⟨s0, s1⟩ := hSw
              go_simp
              try with_reducible rfl
            try simp only [Act.put, List.setIfInBounds_toArray, List.set_cons_zero, List.set_cons_succ]
            refine wpAnyT_take (i := 1) (oi := ⟨_, _, _, _, _, _⟩) (v := ?vr12_1) (by kernel_rfl) (by decide) rfl (by kernel_rfl) (by kernel_rfl) (by kernel_rfl) (fun _ _ _ h => h) (Or.inl ⟨by rfl, ?hyr12_1⟩) hS ?restr12_1
            case hyr12_1 =>
              intro w' hSw
              obtain ⟨s0, s1⟩ := hSw
              go_simp
              try with_reducible rfl
            try simp only [Act.put, List.setIfInBounds_toArray, List.set_cons_zero, List.set_cons_succ]
            refine wpAnyT_ready1 (i := 2) (o := ⟨_, _, _, _, _, _⟩) (by kernel_rfl) rfl (fun KC_ hK => ?_)
            go_simp
            go_at_call 45
            refine (L_isIn _ _ _ k _ (hu.keep hcur)).mono ?_
            rintro e w' ⟨rfl, rfl⟩
            rw [← HX.out]
            refine hK _ _ (fun _ => hS) ?_
            try simp only [Act.put, List.setIfInBounds_toArray, List.set_cons_zero, List.set_cons_succ]
            refine wpAnyT_take (i := 3) (oi := ⟨_, _, _, _, _, _⟩) (v := ?vr12_3) (by kernel_rfl) (by decide) rfl (by kernel_rfl) (by kernel_rfl) (by kernel_rfl) (fun _ _ _ h => h) (Or.inl ⟨by rfl, ?hyr12_3⟩) hS ?restr12_3
            case hyr12_3 =>
              intro w' hSw
              obtain ⟨s0, s1⟩ := hSw
              go_simp
              try with_reducible rfl
            try simp only [Act.put, List.setIfInBounds_toArray, List.set_cons_zero, List.set_cons_succ]
            refine wpAnyT_take (i := 4) (oi := ⟨_, _, _, _, _, _⟩) (v := ?vr12_4) (by kernel_rfl) (by decide) rfl (by kernel_rfl) (by kernel_rfl) (by kernel_rfl) (fun _ _ _ h => h) (Or.inl ⟨by first | rfl | (show (some _ == some _) = true; simp; done) | (show (some _ == some _) = true; simp; omega), ?hyr12_4⟩) hS ?restr12_4
            case hyr12_4 =>
              intro w' hSw
              obtain ⟨s0, s1⟩ := hSw
              go_simp
              try with_reducible rfl
            try simp only [Act.put, List.setIfInBounds_toArray, List.set_cons_zero, List.set_cons_succ]
            refine wpAnyT_take (i := 5) (oi := ⟨_, _, _, _, _, _⟩) (v := ?vr12_5) (by kernel_rfl) (by decide) rfl (by kernel_rfl) (by kernel_rfl) (by kernel_rfl) (fun _ _ _ h => h) (Or.inl ⟨by first | rfl | (show (some _ == some _) = true; simp; done) | (show (some _ == some _) = true; simp; omega), ?hyr12_5⟩) hS ?restr12_5
            case hyr12_5 =>
              intro w' hSw
              obtain ⟨s0, s1⟩ := hSw
              go_simp
              try with_reducible rfl
            try simp only [Act.put, List.setIfInBounds_toArray, List.set_cons_zero, List.set_cons_succ]
            refine wpAnyT_ready1 (i := 6) (o := ⟨_, _, _, _, _, _⟩) (by kernel_rfl) rfl (fun KC_ hK => ?_)
            try rw [if_pos (by first | rfl | (show (some _ == some _) = true; simp; done) | (show (some _ == some _) = true; simp; omega))]
            go_simp
            go_at_call 45
            refine (L_isIn _ _ _ k _ (hy.keep hcur)).mono ?_
            rintro e w' ⟨rfl, rfl⟩
            rw [← HY.out]
            refine hK _ _ (fun _ => hS) ?_
            try simp only [Act.put, List.setIfInBounds_toArray, List.set_cons_zero, List.set_cons_succ]
            refine wpAnyT_take (i := 7) (oi := ⟨_, _, _, _, _, _⟩) (v := ?vr12_7) (by kernel_rfl) (by decide) rfl (by kernel_rfl) (by kernel_rfl) (by kernel_rfl) (fun _ _ _ h => h) (Or.inl ⟨by rfl, ?hyr12_7⟩) hS ?restr12_7
            case hyr12_7 =>
              intro w' hSw
              obtain ⟨s0, s1⟩ := hSw
              go_simp
              try with_reducible rfl
            try simp only [Act.put, List.setIfInBounds_toArray, List.set_cons_zero, List.set_cons_succ]
            refine wpAnyT_take (i := 8) (oi := ⟨_, _, _, _, _, _⟩) (v := ?vr12_8) (by kernel_rfl) (by decide) rfl (by kernel_rfl) (by kernel_rfl) (by kernel_rfl) (fun _ _ _ h => h) (Or.inl ⟨by rfl, ?hyr12_8⟩) hS ?restr12_8
            case hyr12_8 =>
              intro w' hSw
              obtain ⟨s0, s1⟩ := hSw
              go_simp
              try with_reducible rfl
            try simp only [Act.put, List.setIfInBounds_toArray, List.set_cons_zero, List.set_cons_succ]
            refine wpAnyT_take (i := 9) (oi := ⟨_, _, _, _, _, _⟩) (v := ?vr12_9) (by kernel_rfl) (by decide) rfl (by kernel_rfl) (by kernel_rfl) (by kernel_rfl) (fun _ _ _ h => h) (Or.inl ⟨by first | rfl | (show (some _ == some _) = true; simp; done) | (show (some _ == some _) = true; simp; omega), ?hyr12_9⟩) hS ?restr12_9
            case hyr12_9 =>
              intro w' hSw
              obtain ⟨s0, s1⟩ := hSw
              go_simp
              try with_reducible rfl
            try simp only [Act.put, List.setIfInBounds_toArray, List.set_cons_zero, List.set_cons_succ]
            refine wpAnyT_take (i := 10) (oi := ⟨_, _, _, _, _, _⟩) (v := ?vr12_10) (by kernel_rfl) (by decide) rfl (by kernel_rfl) (by kernel_rfl) (by kernel_rfl) (fun _ _ _ h => h) (Or.inl ⟨by first | rfl | (show (some _ == some _) = true; simp; done) | (show (some _ == some _) = true; simp; omega), ?hyr12_10⟩) hS ?restr12_10
            case hyr12_10 =>
              intro w' hSw
              obtain ⟨s0, s1⟩ := hSw
              go_simp
              try with_reducible rfl
            try simp only [Act.put, List.setIfInBounds_toArray, List.set_cons_zero, List.set_cons_succ]
            refine wpAnyT_take (i := 11) (oi := ⟨_, _, _, _, _, _⟩) (v := ?vr12_11) (by kernel_rfl) (by decide) rfl (by kernel_rfl) (by kernel_rfl) (by kernel_rfl) (fun _ _ _ h => h) (Or.inl ⟨by first | rfl | (show (some _ == some _) = true; simp; done) | (show (some _ == some _) = true; simp; omega), ?hyr12_11⟩) hS ?restr12_11
            case hyr12_11 =>
              intro w' hSw
              obtain ⟨s0, s1⟩ := hSw
              go_simp
              try with_reducible rfl
            try simp only [Act.put, List.setIfInBounds_toArray, List.set_cons_zero, List.set_cons_succ]
            refine wpAnyT_take (i := 12) (oi := ⟨_, _, _, _, _, _⟩) (v := ?vr12_12) (by kernel_rfl) (by decide) rfl (by kernel_rfl) (by kernel_rfl) (by kernel_rfl) (fun _ _ _ h => h) (Or.inl ⟨by first | rfl | (show (some _ == some _) = true; simp; done) | (show (some _ == some _) = true; simp; omega), ?hyr12_12⟩) hS ?restr12_12
            case hyr12_12 =>
              intro w' hSw
              obtain ⟨s0, s1⟩ := hSw
              go_simp
              try with_reducible rfl
            try simp only [Act.put, List.setIfInBounds_toArray, List.set_cons_zero, List.set_cons_succ]
            refine wpAnyT_take (i := 13) (oi := ⟨_, _, _, _, _, _⟩) (v := ?vr12_13) (by kernel_rfl) (by decide) rfl (by kernel_rfl) (by kernel_rfl) (by kernel_rfl) (fun _ _ _ h => h) (Or.inl ⟨by first | rfl | (show (some _ == some _) = true; simp; done) | (show (some _ == some _) = true; simp; omega), ?hyr12_13⟩) hS ?restr12_13
            case hyr12_13 =>
              intro w' hSw
              obtain ⟨s0, s1⟩ := hSw
              go_simp
              try with_reducible rfl
            try simp only [Act.put, List.setIfInBounds_toArray, List.set_cons_zero, List.set_cons_succ]
            refine wpAnyT_take (i := 14) (oi := ⟨_, _, _, _, _, _⟩) (v := ?vr12_14) (by kernel_rfl) (by decide) rfl (by kernel_rfl) (by kernel_rfl) (by kernel_rfl) (fun _ _ _ h => h) (Or.inl ⟨by first | rfl | (show (some _ == some _) = true; simp; done) | (show (some _ == some _) = true; simp; omega), ?hyr12_14⟩) hS ?restr12_14
            case hyr12_14 =>
              intro w' hSw
              obtain ⟨s0, s1⟩ := hSw
              go_simp
              try with_reducible rfl
            try simp only [Act.put, List.setIfInBounds_toArray, List.set_cons_zero, List.set_cons_succ]
            refine wpAnyT_take (i := 15) (oi := ⟨_, _, _, _, _, _⟩) (v := ?vr12_15) (by kernel_rfl) (by decide) rfl (by kernel_rfl) (by kernel_rfl) (by kernel_rfl) (fun _ _ _ h => h) (Or.inl ⟨by first | rfl | (show (some _ == some _) = true; simp; done) | (show (some _ == some _) = true; simp; omega), ?hyr12_15⟩) hS ?restr12_15
            case hyr12_15 =>
              intro w' hSw
              obtain ⟨s0, s1⟩ := hSw
              go_simp
              try with_reducible rfl
            try simp only [Act.put, List.setIfInBounds_toArray, List.set_cons_zero, List.set_cons_succ]
            refine wpAnyT_take (i := 16) (oi := ⟨_, _, _, _, _, _⟩) (v := ?vr12_16) (by kernel_rfl) (by decide) rfl (by kernel_rfl) (by kernel_rfl) (by kernel_rfl) (fun _ _ _ h => h) (Or.inl ⟨by first | rfl | (show (some _ == some _) = true; simp; done) | (show (some _ == some _) = true; simp; omega), ?hyr12_16⟩) hS ?restr12_16
            case hyr12_16 =>
              intro w' hSw
              obtain ⟨s0, s1⟩ := hSw
              go_simp
              try with_reducible rfl
            try simp only [Act.put, List.setIfInBounds_toArray, List.set_cons_zero, List.set_cons_succ]
            refine wpAnyT_take (i := 17) (oi := ⟨_, _, _, _, _, _⟩) (v := ?vr12_17) (by kernel_rfl) (by decide) rfl (by kernel_rfl) (by kernel_rfl) (by kernel_rfl) (fun _ _ _ h => h) (Or.inl ⟨by first | rfl | (show (some _ == some _) = true; simp; done) | (show (some _ == some _) = true; simp; omega), ?hyr12_17⟩) hS ?restr12_17
            case hyr12_17 =>
              intro w' hSw
              obtain ⟨s0, s1⟩ := hSw
              go_simp
              try with_reducible rfl
            try simp only [Act.put, List.setIfInBounds_toArray, List.set_cons_zero, List.set_cons_succ]
            refine wpAnyT_take (i := 18) (oi := ⟨_, _, _, _, _, _⟩) (v := ?vr12_18) (by kernel_rfl) (by decide) rfl (by kernel_rfl) (by kernel_rfl) (by kernel_rfl) (fun _ _ _ h => h) (Or.inl ⟨by first | rfl | (show (some _ == some _) = true; simp; done) | (show (some _ == some _) = true; simp; omega), ?hyr12_18⟩) hS ?restr12_18
            case hyr12_18 =>
              intro w' hSw
              obtain ⟨s0, s1⟩ := hSw
              go_simp
              try with_reducible rfl
            try simp only [Act.put, List.setIfInBounds_toArray, List.set_cons_zero, List.set_cons_succ]
            refine wpAnyT_take (i := 25) (oi := ⟨_, _, _, _, _, _⟩) (v := ?vr12_25) (by kernel_rfl) (by decide) rfl (by kernel_rfl) (by kernel_rfl) (by kernel_rfl) (fun _ _ _ h => h) (Or.inl ⟨by first | rfl | (show (some _ == some _) = true; simp; done) | (show (some _ == some _) = true; simp; omega), ?hyr12_25⟩) hS ?restr12_25
            case hyr12_25 =>
              intro w' hSw
              obtain ⟨s0, s1⟩ := hSw
              go_simp
              try with_reducible rfl
            try simp only [Act.put, List.setIfInBounds_toArray, List.set_cons_zero, List.set_cons_succ]
            refine wpAnyT_take (i := 26) (oi := ⟨_, _, _, _, _, _⟩) (v := ?vr12_26) (by kernel_rfl) (by decide) rfl (by kernel_rfl) (by kernel_rfl) (by kernel_rfl) (fun _ _ _ h => h) (Or.inl ⟨by first | rfl | (show (some _ == some _) = true; simp; done) | (show (some _ == some _) = true; simp; omega), ?hyr12_26⟩) hS ?restr12_26
            case hyr12_26 =>
              intro w' hSw
              obtain ⟨s0, s1⟩ := hSw
              go_simp
              try with_reducible rfl
            try simp only [Act.put, List.setIfInBounds_toArray, List.set_cons_zero, List.set_cons_succ]
            refine wpAnyT_take (i := 27) (oi := ⟨_, _, _, _, _, _⟩) (v := ?vr12_27) (by kernel_rfl) (by decide) rfl (by kernel_rfl) (by kernel_rfl) (by kernel_rfl) (fun _ _ _ h => h) (Or.inl ⟨by first | rfl | (show (some _ == some _) = true; simp; done) | (show (some _ == some _) = true; simp; omega), ?hyr12_27⟩) hS ?restr12_27
            case hyr12_27 =>
              intro w' hSw
              obtain ⟨s0, s1⟩ := hSw
              go_simp
              try with_reducible rfl
            try simp only [Act.put, List.setIfInBounds_toArray, List.set_cons_zero, List.set_cons_succ]
            refine wpAnyT_ready1 (i := 19) (o := ⟨_, _, _, _, _, _⟩) (by kernel_rfl) rfl (fun KC_ hK => ?_)
            try rw [if_pos (by first | rfl | (show (some _ == some _) = true; simp; done) | (show (some _ == some _) = true; simp; omega))]
            go_simp
            go_at_call 45
            refine (L_isIn _ _ _ k _ (hu.keep hcur)).mono ?_
            rintro e w' ⟨rfl, rfl⟩
            rw [← HX.out]
            refine hK _ _ (fun _ => hS) ?_
            try simp only [Act.put, List.setIfInBounds_toArray, List.set_cons_zero, List.set_cons_succ]
            refine wpAnyT_take (i := 20) (oi := ⟨_, _, _, _, _, _⟩) (v := ?vr12_20) (by kernel_rfl) (by decide) rfl (by kernel_rfl) (by kernel_rfl) (by kernel_rfl) (fun _ _ _ h => h) (Or.inl ⟨by first | rfl | (show (some _ == some _) = true; simp; done) | (show (some _ == some _) = true; simp; omega), ?hyr12_20⟩) hS ?restr12_20
            case hyr12_20 =>
              intro w' hSw
              obtain ⟨s0, s1⟩ := hSw
              go_simp
              try with_reducible rfl
            try simp only [Act.put, List.setIfInBounds_toArray, List.set_cons_zero, List.set_cons_succ]
            refine wpAnyT_take (i := 21) (oi := ⟨_, _, _, _, _, _⟩) (v := undef) (by kernel_rfl) (by decide) rfl (by kernel_rfl) (by kernel_rfl) (by kernel_rfl) (fun _ _ _ h => h) (Or.inr ⟨by first | rfl | (show (some _ == some _) = false; simp; done) | (show (some _ == some _) = false; simp; omega), rfl⟩) hS ?restr12_21
            try simp only [Act.put, List.setIfInBounds_toArray, List.set_cons_zero, List.set_cons_succ]
            refine wpAnyT_take (i := 22) (oi := ⟨_, _, _, _, _, _⟩) (v := undef) (by kernel_rfl) (by decide) rfl (by kernel_rfl) (by kernel_rfl) (by kernel_rfl) (fun _ _ _ h => h) (Or.inr ⟨by first | rfl | (show (some _ == some _) = false; simp; done) | (show (some _ == some _) = false; simp; omega), rfl⟩) hS ?restr12_22
            try simp only [Act.put, List.setIfInBounds_toArray, List.set_cons_zero, List.set_cons_succ]
            refine wpAnyT_ready1 (i := 23) (o := ⟨_, _, _, _, _, _⟩) (by kernel_rfl) rfl (fun KC_ hK => ?_)
            go_simp
            refine hK _ _ (fun _ => hS) ?_
            try simp only [Act.put, List.setIfInBounds_toArray, List.set_cons_zero, List.set_cons_succ]
            refine wpAnyT_take (i := 24) (oi := ⟨_, _, _, _, _, _⟩) (v := ?vr12_24) (by kernel_rfl) (by decide) rfl (by kernel_rfl) (by kernel_rfl) (by kernel_rfl) (fun _ _ _ h => h) (Or.inl ⟨by first | rfl | (show (some _ == some _) = true; simp; done) | (show (some _ == some _) = true; simp; omega), ?hyr12_24⟩) hS ?restr12_24
            case hyr12_24 =>
              intro w' hSw
              obtain ⟨s0, s1⟩ := hSw
              go_simp
              try with_reducible rfl
            try simp only [Act.put, List.setIfInBounds_toArray, List.set_cons_zero, List.set_cons_succ]
            refine wpAnyT_ready1 (i := 28) (o := ⟨_, _, _, _, _, _⟩) (by kernel_rfl) rfl (fun KC_ hK => ?_)
            try rw [if_pos (by first | rfl | (show (some _ == some _) = true; simp; done) | (show (some _ == some _) = true; simp; omega))]
            go_simp
            go_at_call 75
            refine (I_LocalIn _ p _ kb k _ ⟨_, rfl, hP.keep hcur⟩).mono ?_
            rintro e w21 ⟨rfl, hb⟩
            rw [← G3.out]
            have hcur := bthen hcur hb
            clear hb
            have hS := And.intro (cell_later hcur cP) (cell_later hcur d0)
            refine hK _ _ (fun _ => hS) ?_
            try simp only [Act.put, List.setIfInBounds_toArray, List.set_cons_zero, List.set_cons_succ]
            refine wpAnyT_take (i := 29) (oi := ⟨_, _, _, _, _, _⟩) (v := ?vr12_29) (by kernel_rfl) (by decide) rfl (by kernel_rfl) (by kernel_rfl) (by kernel_rfl) (fun _ _ _ h => h) (Or.inl ⟨by first | rfl | (show (some _ == some _) = true; simp; done) | (show (some _ == some _) = true; simp; omega), ?hyr12_29⟩) hS ?restr12_29
            case hyr12_29 =>
              intro w' hSw
              obtain ⟨s0, s1⟩ := hSw
              go_simp
              try with_reducible rfl
            try simp only [Act.put, List.setIfInBounds_toArray, List.set_cons_zero, List.set_cons_succ]
            refine wpAnyT_take (i := 30) (oi := ⟨_, _, _, _, _, _⟩) (v := ?vr12_30) (by kernel_rfl) (by decide) rfl (by kernel_rfl) (by kernel_rfl) (by kernel_rfl) (fun _ _ _ h => h) (Or.inl ⟨by first | rfl | (show (some _ == some _) = true; simp; done) | (show (some _ == some _) = true; simp; omega), ?hyr12_30⟩) hS ?restr12_30
            case hyr12_30 =>
              intro w' hSw
              obtain ⟨s0, s1⟩ := hSw
              go_simp
              try with_reducible rfl
            try simp only [Act.put, List.setIfInBounds_toArray, List.set_cons_zero, List.set_cons_succ]
            refine wpAnyT_take (i := 31) (oi := ⟨_, _, _, _, _, _⟩) (v := ?vr12_31) (by kernel_rfl) (by decide) rfl (by kernel_rfl) (by kernel_rfl) (by kernel_rfl) (fun _ _ _ h => h) (Or.inl ⟨by rfl, ?hyr12_31⟩) hS ?restr12_31
            case hyr12_31 =>
              intro w' hSw
              obtain ⟨s0, s1⟩ := hSw
              go_simp
              try with_reducible rfl
            try simp only [Act.put, List.setIfInBounds_toArray, List.set_cons_zero, List.set_cons_succ]
            refine wpAnyT_done (by kernel_rfl) ?_ _
            have hb := hcur
            clear hcur hS
            replace cP := cell_later hb cP
            replace d0 := cell_later hb d0
            replace d1 := cell_later hb d1
            replace d2 := cell_later hb d2
            replace d3 := cell_later hb d3
            replace hP := hP.keep hb
            replace hu := hu.keep hb
            replace ht := ht.keep hb
            replace hy := hy.keep hb
            replace hpv := hpv.keep hb
            replace hbv := hbv.keep hb
            replace hB := bthen hB hb
            replace hBik := bthen hBik hb
            clear hb
            go_wp2
            go_roundw
            case rel => exact ⟨k + 1, by omega, by go_num, hBik⟩
            case measure => simp [intOf]; omega
          · skip
            cases g1
      have hkb : ((p.bk (kb : Int)).kind == 1) = false := by rw [beq_eq_false_iff_ne]; exact hk1
      generalize (p.bk (kb : Int)).kind = KD at *
      clear g2
      cases X
      · cases Y
        · skip
          go_wp2
          have hb := (below0 wr).drew
          replace cP := cell_later hb cP
          replace d0 := cell_later hb d0
          replace d1 := cell_later hb d1
          replace d2 := cell_later hb d2
          replace d3 := cell_later hb d3
          replace hP := hP.keep hb
          replace hu := hu.keep hb
          replace ht := ht.keep hb
          replace hy := hy.keep hb
          replace hpv := hpv.keep hb
          replace hbv := hbv.keep hb
          replace hB := bthen hB hb
          replace hBik := bthen hBik hb
          clear hb
          have hcur := below0 (wr).drew
          have hS := And.intro (cP) (d0)
          refine wp_region_T 32 (by kernel_rfl) (fun w' => w'.cell? ⟨PB, 0, none⟩ = some (.slice (some ⟨ga, 0, none⟩) p.length Cp) ∧ w'.cell? ⟨ga, kb * 4, none⟩ = some (.int .i64 KD)) ?_
          refine wpAnyT_take (i := 0) (oi := ⟨_, _, _, _, _, _⟩) (v := ?vr13_0) (by kernel_rfl) (by decide) rfl (by kernel_rfl) (by kernel_rfl) (by kernel_rfl) (fun _ _ _ h => h) (Or.inl ⟨by rfl, ?hyr13_0⟩) hS ?restr13_0
          case hyr13_0 =>
            intro w' hSw
            obtain ⟨s0, s1⟩ := hSw
            go_simp
            try with_reducible rfl
          try simp only [Act.put, List.setIfInBounds_toArray, List.set_cons_zero, List.set_cons_succ]
          refine wpAnyT_take (i := 1) (oi := ⟨_, _, _, _, _, _⟩) (v := ?vr13_1) (by kernel_rfl) (by decide) rfl (by kernel_rfl) (by kernel_rfl) (by kernel_rfl) (fun _ _ _ h => h) (Or.inl ⟨by rfl, ?hyr13_1⟩) hS ?restr13_1
          case hyr13_1 =>
            intro w' hSw
            obtain ⟨s0, s1⟩ := hSw
            go_simp
            try with_reducible rfl
          try simp only [Act.put, List.setIfInBounds_toArray, List.set_cons_zero, List.set_cons_succ]
          refine wpAnyT_ready1 (i := 2) (o := ⟨_, _, _, _, _, _⟩) (by kernel_rfl) rfl (fun KC_ hK => ?_)
          go_simp
          go_at_call 45
          refine (L_isIn _ _ _ k _ (hu.keep hcur)).mono ?_
          rintro e w' ⟨rfl, rfl⟩
          rw [← HX.out]
          refine hK _ _ (fun _ => hS) ?_
          try simp only [Act.put, List.setIfInBounds_toArray, List.set_cons_zero, List.set_cons_succ]
          refine wpAnyT_take (i := 3) (oi := ⟨_, _, _, _, _, _⟩) (v := ?vr13_3) (by kernel_rfl) (by decide) rfl (by kernel_rfl) (by kernel_rfl) (by kernel_rfl) (fun _ _ _ h => h) (Or.inl ⟨by rfl, ?hyr13_3⟩) hS ?restr13_3
          case hyr13_3 =>
            intro w' hSw
            obtain ⟨s0, s1⟩ := hSw
            go_simp
            try with_reducible rfl
          try simp only [Act.put, List.setIfInBounds_toArray, List.set_cons_zero, List.set_cons_succ]
          refine wpAnyT_take (i := 4) (oi := ⟨_, _, _, _, _, _⟩) (v := undef) (by kernel_rfl) (by decide) rfl (by kernel_rfl) (by kernel_rfl) (by kernel_rfl) (fun _ _ _ h => h) (Or.inr ⟨by first | rfl | (show (some _ == some _) = false; simp; done) | (show (some _ == some _) = false; simp; omega), rfl⟩) hS ?restr13_4
          try simp only [Act.put, List.setIfInBounds_toArray, List.set_cons_zero, List.set_cons_succ]
          refine wpAnyT_take (i := 5) (oi := ⟨_, _, _, _, _, _⟩) (v := undef) (by kernel_rfl) (by decide) rfl (by kernel_rfl) (by kernel_rfl) (by kernel_rfl) (fun _ _ _ h => h) (Or.inr ⟨by first | rfl | (show (some _ == some _) = false; simp; done) | (show (some _ == some _) = false; simp; omega), rfl⟩) hS ?restr13_5
          try simp only [Act.put, List.setIfInBounds_toArray, List.set_cons_zero, List.set_cons_succ]
          refine wpAnyT_ready1 (i := 6) (o := ⟨_, _, _, _, _, _⟩) (by kernel_rfl) rfl (fun KC_ hK => ?_)
          go_simp
          refine hK _ _ (fun _ => hS) ?_
          try simp only [Act.put, List.setIfInBounds_toArray, List.set_cons_zero, List.set_cons_succ]
          refine wpAnyT_take (i := 7) (oi := ⟨_, _, _, _, _, _⟩) (v := ?vr13_7) (by kernel_rfl) (by decide) rfl (by kernel_rfl) (by kernel_rfl) (by kernel_rfl) (fun _ _ _ h => h) (Or.inl ⟨by rfl, ?hyr13_7⟩) hS ?restr13_7
          case hyr13_7 =>
            intro w' hSw
            obtain ⟨s0, s1⟩ := hSw
            go_simp
            try with_reducible rfl
          try simp only [Act.put, List.setIfInBounds_toArray, List.set_cons_zero, List.set_cons_succ]
          refine wpAnyT_take (i := 8) (oi := ⟨_, _, _, _, _, _⟩) (v := ?vr13_8) (by kernel_rfl) (by decide) rfl (by kernel_rfl) (by kernel_rfl) (by kernel_rfl) (fun _ _ _ h => h) (Or.inl ⟨by rfl, ?hyr13_8⟩) hS ?restr13_8
          case hyr13_8 =>
            intro w' hSw
            obtain ⟨s0, s1⟩ := hSw
            go_simp
            try with_reducible rfl
          try simp only [Act.put, List.setIfInBounds_toArray, List.set_cons_zero, List.set_cons_succ]
          refine wpAnyT_take (i := 9) (oi := ⟨_, _, _, _, _, _⟩) (v := ?vr13_9) (by kernel_rfl) (by decide) rfl (by kernel_rfl) (by kernel_rfl) (by kernel_rfl) (fun _ _ _ h => h) (Or.inl ⟨by first | rfl | (show (some _ == some _) = true; simp; done) | (show (some _ == some _) = true; simp; omega), ?hyr13_9⟩) hS ?restr13_9
          case hyr13_9 =>
            intro w' hSw
            obtain ⟨s0, s1⟩ := hSw
            go_simp
            try with_reducible rfl
          try simp only [Act.put, List.setIfInBounds_toArray, List.set_cons_zero, List.set_cons_succ]
          refine wpAnyT_take (i := 10) (oi := ⟨_, _, _, _, _, _⟩) (v := ?vr13_10) (by kernel_rfl) (by decide) rfl (by kernel_rfl) (by kernel_rfl) (by kernel_rfl) (fun _ _ _ h => h) (Or.inl ⟨by first | rfl | (show (some _ == some _) = true; simp; done) | (show (some _ == some _) = true; simp; omega), ?hyr13_10⟩) hS ?restr13_10
          case hyr13_10 =>
            intro w' hSw
            obtain ⟨s0, s1⟩ := hSw
            go_simp
            try with_reducible rfl
          try simp only [Act.put, List.setIfInBounds_toArray, List.set_cons_zero, List.set_cons_succ]
          refine wpAnyT_take (i := 11) (oi := ⟨_, _, _, _, _, _⟩) (v := ?vr13_11) (by kernel_rfl) (by decide) rfl (by kernel_rfl) (by kernel_rfl) (by kernel_rfl) (fun _ _ _ h => h) (Or.inl ⟨by first | rfl | (show (some _ == some _) = true; simp; done) | (show (some _ == some _) = true; simp; omega), ?hyr13_11⟩) hS ?restr13_11
          case hyr13_11 =>
            intro w' hSw
            obtain ⟨s0, s1⟩ := hSw
            go_simp
            try with_reducible rfl
          try simp only [Act.put, List.setIfInBounds_toArray, List.set_cons_zero, List.set_cons_succ]
          refine wpAnyT_take (i := 12) (oi := ⟨_, _, _, _, _, _⟩) (v := ?vr13_12) (by kernel_rfl) (by decide) rfl (by kernel_rfl) (by kernel_rfl) (by kernel_rfl) (fun _ _ _ h => h) (Or.inl ⟨by first | rfl | (show (some _ == some _) = true; simp; done) | (show (some _ == some _) = true; simp; omega), ?hyr13_12⟩) hS ?restr13_12
          case hyr13_12 =>
            intro w' hSw
            obtain ⟨s0, s1⟩ := hSw
            go_simp
            try with_reducible rfl
          try simp only [Act.put, List.setIfInBounds_toArray, List.set_cons_zero, List.set_cons_succ]
          refine wpAnyT_take (i := 13) (oi := ⟨_, _, _, _, _, _⟩) (v := ?vr13_13) (by kernel_rfl) (by decide) rfl (by kernel_rfl) (by kernel_rfl) (by kernel_rfl) (fun _ _ _ h => h) (Or.inl ⟨by first | rfl | (show (some _ == some _) = true; simp; done) | (show (some _ == some _) = true; simp; omega), ?hyr13_13⟩) hS ?restr13_13
          case hyr13_13 =>
            intro w' hSw
            obtain ⟨s0, s1⟩ := hSw
            go_simp
            try with_reducible rfl
          try simp only [Act.put, List.setIfInBounds_toArray, List.set_cons_zero, List.set_cons_succ]
          refine wpAnyT_take (i := 14) (oi := ⟨_, _, _, _, _, _⟩) (v := ?vr13_14) (by kernel_rfl) (by decide) rfl (by kernel_rfl) (by kernel_rfl) (by kernel_rfl) (fun _ _ _ h => h) (Or.inl ⟨by first | rfl | (show (some _ == some _) = true; simp; done) | (show (some _ == some _) = true; simp; omega), ?hyr13_14⟩) hS ?restr13_14
          case hyr13_14 =>
            intro w' hSw
            obtain ⟨s0, s1⟩ := hSw
            go_simp
            try with_reducible rfl
          try simp only [Act.put, List.setIfInBounds_toArray, List.set_cons_zero, List.set_cons_succ]
          refine wpAnyT_take (i := 15) (oi := ⟨_, _, _, _, _, _⟩) (v := ?vr13_15) (by kernel_rfl) (by decide) rfl (by kernel_rfl) (by kernel_rfl) (by kernel_rfl) (fun _ _ _ h => h) (Or.inl ⟨by first | rfl | (show (some _ == some _) = true; simp; done) | (show (some _ == some _) = true; simp; omega), ?hyr13_15⟩) hS ?restr13_15
          case hyr13_15 =>
            intro w' hSw
            obtain ⟨s0, s1⟩ := hSw
            go_simp
            try with_reducible rfl
          try simp only [Act.put, List.setIfInBounds_toArray, List.set_cons_zero, List.set_cons_succ]
          refine wpAnyT_take (i := 16) (oi := ⟨_, _, _, _, _, _⟩) (v := ?vr13_16) (by kernel_rfl) (by decide) rfl (by kernel_rfl) (by kernel_rfl) (by kernel_rfl) (fun _ _ _ h => h) (Or.inl ⟨by first | rfl | (show (some _ == some _) = true; simp; done) | (show (some _ == some _) = true; simp; omega), ?hyr13_16⟩) hS ?restr13_16
          case hyr13_16 =>
            intro w' hSw
            obtain ⟨s0, s1⟩ := hSw
            go_simp
            try with_reducible rfl
          try simp only [Act.put, List.setIfInBounds_toArray, List.set_cons_zero, List.set_cons_succ]
          refine wpAnyT_take (i := 17) (oi := ⟨_, _, _, _, _, _⟩) (v := undef) (by kernel_rfl) (by decide) rfl (by kernel_rfl) (by kernel_rfl) (by kernel_rfl) (fun _ _ _ h => h) (Or.inr ⟨by first | rfl | (show (some _ == some _) = false; simp; done) | (show (some _ == some _) = false; simp; omega), rfl⟩) hS ?restr13_17
          try simp only [Act.put, List.setIfInBounds_toArray, List.set_cons_zero, List.set_cons_succ]
          refine wpAnyT_take (i := 18) (oi := ⟨_, _, _, _, _, _⟩) (v := undef) (by kernel_rfl) (by decide) rfl (by kernel_rfl) (by kernel_rfl) (by kernel_rfl) (fun _ _ _ h => h) (Or.inr ⟨by first | rfl | (show (some _ == some _) = false; simp; done) | (show (some _ == some _) = false; simp; omega), rfl⟩) hS ?restr13_18
          try simp only [Act.put, List.setIfInBounds_toArray, List.set_cons_zero, List.set_cons_succ]
          refine wpAnyT_take (i := 25) (oi := ⟨_, _, _, _, _, _⟩) (v := undef) (by kernel_rfl) (by decide) rfl (by kernel_rfl) (by kernel_rfl) (by kernel_rfl) (fun _ _ _ h => h) (Or.inr ⟨by first | rfl | (show (some _ == some _) = false; simp; done) | (show (some _ == some _) = false; simp; omega), rfl⟩) hS ?restr13_25
          try simp only [Act.put, List.setIfInBounds_toArray, List.set_cons_zero, List.set_cons_succ]
          refine wpAnyT_take (i := 26) (oi := ⟨_, _, _, _, _, _⟩) (v := undef) (by kernel_rfl) (by decide) rfl (by kernel_rfl) (by kernel_rfl) (by kernel_rfl) (fun _ _ _ h => h) (Or.inr ⟨by first | rfl | (show (some _ == some _) = false; simp; done) | (show (some _ == some _) = false; simp; omega), rfl⟩) hS ?restr13_26
          try simp only [Act.put, List.setIfInBounds_toArray, List.set_cons_zero, List.set_cons_succ]
          refine wpAnyT_take (i := 27) (oi := ⟨_, _, _, _, _, _⟩) (v := undef) (by kernel_rfl) (by decide) rfl (by kernel_rfl) (by kernel_rfl) (by kernel_rfl) (fun _ _ _ h => h) (Or.inr ⟨by first | rfl | (show (some _ == some _) = false; simp; done) | (show (some _ == some _) = false; simp; omega), rfl⟩) hS ?restr13_27
          try simp only [Act.put, List.setIfInBounds_toArray, List.set_cons_zero, List.set_cons_succ]
          refine wpAnyT_ready1 (i := 19) (o := ⟨_, _, _, _, _, _⟩) (by kernel_rfl) rfl (fun KC_ hK => ?_)
          go_simp
          refine hK _ _ (fun _ => hS) ?_
          try simp only [Act.put, List.setIfInBounds_toArray, List.set_cons_zero, List.set_cons_succ]
          refine wpAnyT_take (i := 20) (oi := ⟨_, _, _, _, _, _⟩) (v := undef) (by kernel_rfl) (by decide) rfl (by kernel_rfl) (by kernel_rfl) (by kernel_rfl) (fun _ _ _ h => h) (Or.inr ⟨by first | rfl | (show (some _ == some _) = false; simp; done) | (show (some _ == some _) = false; simp; omega), rfl⟩) hS ?restr13_20
          try simp only [Act.put, List.setIfInBounds_toArray, List.set_cons_zero, List.set_cons_succ]
          refine wpAnyT_take (i := 21) (oi := ⟨_, _, _, _, _, _⟩) (v := undef) (by kernel_rfl) (by decide) rfl (by kernel_rfl) (by kernel_rfl) (by kernel_rfl) (fun _ _ _ h => h) (Or.inr ⟨by first | rfl | (show (some _ == some _) = false; simp; done) | (show (some _ == some _) = false; simp; omega), rfl⟩) hS ?restr13_21
          try simp only [Act.put, List.setIfInBounds_toArray, List.set_cons_zero, List.set_cons_succ]
          refine wpAnyT_take (i := 22) (oi := ⟨_, _, _, _, _, _⟩) (v := undef) (by kernel_rfl) (by decide) rfl (by kernel_rfl) (by kernel_rfl) (by kernel_rfl) (fun _ _ _ h => h) (Or.inr ⟨by first | rfl | (show (some _ == some _) = false; simp; done) | (show (some _ == some _) = false; simp; omega), rfl⟩) hS ?restr13_22
          try simp only [Act.put, List.setIfInBounds_toArray, List.set_cons_zero, List.set_cons_succ]
          refine wpAnyT_ready1 (i := 23) (o := ⟨_, _, _, _, _, _⟩) (by kernel_rfl) rfl (fun KC_ hK => ?_)
          go_simp
          refine hK _ _ (fun _ => hS) ?_
          try simp only [Act.put, List.setIfInBounds_toArray, List.set_cons_zero, List.set_cons_succ]
          refine wpAnyT_take (i := 24) (oi := ⟨_, _, _, _, _, _⟩) (v := undef) (by kernel_rfl) (by decide) rfl (by kernel_rfl) (by kernel_rfl) (by kernel_rfl) (fun _ _ _ h => h) (Or.inr ⟨by first | rfl | (show (some _ == some _) = false; simp; done) | (show (some _ == some _) = false; simp; omega), rfl⟩) hS ?restr13_24
          try simp only [Act.put, List.setIfInBounds_toArray, List.set_cons_zero, List.set_cons_succ]
          refine wpAnyT_ready1 (i := 28) (o := ⟨_, _, _, _, _, _⟩) (by kernel_rfl) rfl (fun KC_ hK => ?_)
          go_simp
          refine hK _ _ (fun _ => hS) ?_
          try simp only [Act.put, List.setIfInBounds_toArray, List.set_cons_zero, List.set_cons_succ]
          refine wpAnyT_take (i := 29) (oi := ⟨_, _, _, _, _, _⟩) (v := undef) (by kernel_rfl) (by decide) rfl (by kernel_rfl) (by kernel_rfl) (by kernel_rfl) (fun _ _ _ h => h) (Or.inr ⟨by first | rfl | (show (some _ == some _) = false; simp; done) | (show (some _ == some _) = false; simp; omega), rfl⟩) hS ?restr13_29
          try simp only [Act.put, List.setIfInBounds_toArray, List.set_cons_zero, List.set_cons_succ]
          refine wpAnyT_take (i := 30) (oi := ⟨_, _, _, _, _, _⟩) (v := ?vr13_30) (by kernel_rfl) (by decide) rfl (by kernel_rfl) (by kernel_rfl) (by kernel_rfl) (fun _ _ _ h => h) (Or.inl ⟨by first | rfl | (show (some _ == some _) = true; simp; done) | (show (some _ == some _) = true; simp; omega), ?hyr13_30⟩) hS ?restr13_30
          case hyr13_30 =>
            intro w' hSw
            obtain ⟨s0, s1⟩ := hSw
            go_simp
            try with_reducible rfl
          try simp only [Act.put, List.setIfInBounds_toArray, List.set_cons_zero, List.set_cons_succ]
          refine wpAnyT_take (i := 31) (oi := ⟨_, _, _, _, _, _⟩) (v := ?vr13_31) (by kernel_rfl) (by decide) rfl (by kernel_rfl) (by kernel_rfl) (by kernel_rfl) (fun _ _ _ h => h) (Or.inl ⟨by rfl, ?hyr13_31⟩) hS ?restr13_31
          case hyr13_31 =>
            intro w' hSw
            obtain ⟨s0, s1⟩ := hSw
            go_simp
            try with_reducible rfl
          try simp only [Act.put, List.setIfInBounds_toArray, List.set_cons_zero, List.set_cons_succ]
          refine wpAnyT_done (by kernel_rfl) ?_ _
          have hb := hcur
          clear hcur hS
          replace cP := cell_later hb cP
          replace d0 := cell_later hb d0
          replace d1 := cell_later hb d1
          replace d2 := cell_later hb d2
          replace d3 := cell_later hb d3
          replace hP := hP.keep hb
          replace hu := hu.keep hb
          replace ht := ht.keep hb
          replace hy := hy.keep hb
          replace hpv := hpv.keep hb
          replace hbv := hbv.keep hb
          replace hB := bthen hB hb
          replace hBik := bthen hBik hb
          clear hb
          go_wp2
          go_roundw
          case rel => exact ⟨k + 1, by omega, by go_num, hBik⟩
          case measure => simp [intOf]; omega
        · skip
          go_wp2
          have hb := (below0 wr).drew
          replace cP := cell_later hb cP
          replace d0 := cell_later hb d0
          replace d1 := cell_later hb d1
          replace d2 := cell_later hb d2
          replace d3 := cell_later hb d3
          replace hP := hP.keep hb
          replace hu := hu.keep hb
          replace ht := ht.keep hb
          replace hy := hy.keep hb
          replace hpv := hpv.keep hb
          replace hbv := hbv.keep hb
          replace hB := bthen hB hb
          replace hBik := bthen hBik hb
          clear hb
          have hcur := below0 (wr).drew
          have hS := And.intro (cP) (d0)
          refine wp_region_T 32 (by kernel_rfl) (fun w' => w'.cell? ⟨PB, 0, none⟩ = some (.slice (some ⟨ga, 0, none⟩) p.length Cp) ∧ w'.cell? ⟨ga, kb * 4, none⟩ = some (.int .i64 KD)) ?_
          refine wpAnyT_take (i := 0) (oi := ⟨_, _, _, _, _, _⟩) (v := ?vr14_0) (by kernel_rfl) (by decide) rfl (by kernel_rfl) (by kernel_rfl) (by kernel_rfl) (fun _ _ _ h => h) (Or.inl ⟨by rfl, ?hyr14_0⟩) hS ?restr14_0
          case hyr14_0 =>
            intro w' hSw
            obtain ⟨s0, s1⟩ := hSw
            go_simp
            try with_reducible rfl
          try simp only [Act.put, List.setIfInBounds_toArray, List.set_cons_zero, List.set_cons_succ]
          refine wpAnyT_take (i := 1) (oi := ⟨_, _, _, _, _, _⟩) (v := ?vr14_1) (by kernel_rfl) (by decide) rfl (by kernel_rfl) (by kernel_rfl) (by kernel_rfl) (fun _ _ _ h => h) (Or.inl ⟨by rfl, ?hyr14_1⟩) hS ?restr14_1
          case hyr14_1 =>
            intro w' hSw
            obtain ⟨s0, s1⟩ := hSw
            go_simp
            try with_reducible rfl
          try simp only [Act.put, List.setIfInBounds_toArray, List.set_cons_zero, List.set_cons_succ]
          refine wpAnyT_ready1 (i := 2) (o := ⟨_, _, _, _, _, _⟩) (by kernel_rfl) rfl (fun KC_ hK => ?_)
          go_simp
          go_at_call 45
          refine (L_isIn _ _ _ k _ (hu.keep hcur)).mono ?_
          rintro e w' ⟨rfl, rfl⟩
          rw [← HX.out]
          refine hK _ _ (fun _ => hS) ?_
          try simp only [Act.put, List.setIfInBounds_toArray, List.set_cons_zero, List.set_cons_succ]
          refine wpAnyT_take (i := 3) (oi := ⟨_, _, _, _, _, _⟩) (v := ?vr14_3) (by kernel_rfl) (by decide) rfl (by kernel_rfl) (by kernel_rfl) (by kernel_rfl) (fun _ _ _ h => h) (Or.inl ⟨by rfl, ?hyr14_3⟩) hS ?restr14_3
          case hyr14_3 =>
            intro w' hSw
            obtain ⟨s0, s1⟩ := hSw
            go_simp
            try with_reducible rfl
          try simp only [Act.put, List.setIfInBounds_toArray, List.set_cons_zero, List.set_cons_succ]
          refine wpAnyT_take (i := 4) (oi := ⟨_, _, _, _, _, _⟩) (v := undef) (by kernel_rfl) (by decide) rfl (by kernel_rfl) (by kernel_rfl) (by kernel_rfl) (fun _ _ _ h => h) (Or.inr ⟨by first | rfl | (show (some _ == some _) = false; simp; done) | (show (some _ == some _) = false; simp; omega), rfl⟩) hS ?restr14_4
          try simp only [Act.put, List.setIfInBounds_toArray, List.set_cons_zero, List.set_cons_succ]
          refine wpAnyT_take (i := 5) (oi := ⟨_, _, _, _, _, _⟩) (v := undef) (by kernel_rfl) (by decide) rfl (by kernel_rfl) (by kernel_rfl) (by kernel_rfl) (fun _ _ _ h => h) (Or.inr ⟨by first | rfl | (show (some _ == some _) = false; simp; done) | (show (some _ == some _) = false; simp; omega), rfl⟩) hS ?restr14_5
          try simp only [Act.put, List.setIfInBounds_toArray, List.set_cons_zero, List.set_cons_succ]
          refine wpAnyT_ready1 (i := 6) (o := ⟨_, _, _, _, _, _⟩) (by kernel_rfl) rfl (fun KC_ hK => ?_)
          go_simp
          refine hK _ _ (fun _ => hS) ?_
          try simp only [Act.put, List.setIfInBounds_toArray, List.set_cons_zero, List.set_cons_succ]
          refine wpAnyT_take (i := 7) (oi := ⟨_, _, _, _, _, _⟩) (v := ?vr14_7) (by kernel_rfl) (by decide) rfl (by kernel_rfl) (by kernel_rfl) (by kernel_rfl) (fun _ _ _ h => h) (Or.inl ⟨by rfl, ?hyr14_7⟩) hS ?restr14_7
          case hyr14_7 =>
            intro w' hSw
            obtain ⟨s0, s1⟩ := hSw
            go_simp
            try with_reducible rfl
          try simp only [Act.put, List.setIfInBounds_toArray, List.set_cons_zero, List.set_cons_succ]
          refine wpAnyT_take (i := 8) (oi := ⟨_, _, _, _, _, _⟩) (v := ?vr14_8) (by kernel_rfl) (by decide) rfl (by kernel_rfl) (by kernel_rfl) (by kernel_rfl) (fun _ _ _ h => h) (Or.inl ⟨by rfl, ?hyr14_8⟩) hS ?restr14_8
          case hyr14_8 =>
            intro w' hSw
            obtain ⟨s0, s1⟩ := hSw
            go_simp
            try with_reducible rfl
          try simp only [Act.put, List.setIfInBounds_toArray, List.set_cons_zero, List.set_cons_succ]
          refine wpAnyT_take (i := 9) (oi := ⟨_, _, _, _, _, _⟩) (v := ?vr14_9) (by kernel_rfl) (by decide) rfl (by kernel_rfl) (by kernel_rfl) (by kernel_rfl) (fun _ _ _ h => h) (Or.inl ⟨by first | rfl | (show (some _ == some _) = true; simp; done) | (show (some _ == some _) = true; simp; omega), ?hyr14_9⟩) hS ?restr14_9
          case hyr14_9 =>
            intro w' hSw
            obtain ⟨s0, s1⟩ := hSw
            go_simp
            try with_reducible rfl
          try simp only [Act.put, List.setIfInBounds_toArray, List.set_cons_zero, List.set_cons_succ]
          refine wpAnyT_take (i := 10) (oi := ⟨_, _, _, _, _, _⟩) (v := ?vr14_10) (by kernel_rfl) (by decide) rfl (by kernel_rfl) (by kernel_rfl) (by kernel_rfl) (fun _ _ _ h => h) (Or.inl ⟨by first | rfl | (show (some _ == some _) = true; simp; done) | (show (some _ == some _) = true; simp; omega), ?hyr14_10⟩) hS ?restr14_10
          case hyr14_10 =>
            intro w' hSw
            obtain ⟨s0, s1⟩ := hSw
            go_simp
            try with_reducible rfl
          try simp only [Act.put, List.setIfInBounds_toArray, List.set_cons_zero, List.set_cons_succ]
          refine wpAnyT_take (i := 11) (oi := ⟨_, _, _, _, _, _⟩) (v := ?vr14_11) (by kernel_rfl) (by decide) rfl (by kernel_rfl) (by kernel_rfl) (by kernel_rfl) (fun _ _ _ h => h) (Or.inl ⟨by first | rfl | (show (some _ == some _) = true; simp; done) | (show (some _ == some _) = true; simp; omega), ?hyr14_11⟩) hS ?restr14_11
          case hyr14_11 =>
            intro w' hSw
            obtain ⟨s0, s1⟩ := hSw
            go_simp
            try with_reducible rfl
          try simp only [Act.put, List.setIfInBounds_toArray, List.set_cons_zero, List.set_cons_succ]
          refine wpAnyT_take (i := 12) (oi := ⟨_, _, _, _, _, _⟩) (v := ?vr14_12) (by kernel_rfl) (by decide) rfl (by kernel_rfl) (by kernel_rfl) (by kernel_rfl) (fun _ _ _ h => h) (Or.inl ⟨by first | rfl | (show (some _ == some _) = true; simp; done) | (show (some _ == some _) = true; simp; omega), ?hyr14_12⟩) hS ?restr14_12
          case hyr14_12 =>
            intro w' hSw
            obtain ⟨s0, s1⟩ := hSw
            go_simp
            try with_reducible rfl
          try simp only [Act.put, List.setIfInBounds_toArray, List.set_cons_zero, List.set_cons_succ]
          refine wpAnyT_take (i := 13) (oi := ⟨_, _, _, _, _, _⟩) (v := ?vr14_13) (by kernel_rfl) (by decide) rfl (by kernel_rfl) (by kernel_rfl) (by kernel_rfl) (fun _ _ _ h => h) (Or.inl ⟨by first | rfl | (show (some _ == some _) = true; simp; done) | (show (some _ == some _) = true; simp; omega), ?hyr14_13⟩) hS ?restr14_13
          case hyr14_13 =>
            intro w' hSw
            obtain ⟨s0, s1⟩ := hSw
            go_simp
            try with_reducible rfl
          try simp only [Act.put, List.setIfInBounds_toArray, List.set_cons_zero, List.set_cons_succ]
          refine wpAnyT_take (i := 14) (oi := ⟨_, _, _, _, _, _⟩) (v := ?vr14_14) (by kernel_rfl) (by decide) rfl (by kernel_rfl) (by kernel_rfl) (by kernel_rfl) (fun _ _ _ h => h) (Or.inl ⟨by first | rfl | (show (some _ == some _) = true; simp; done) | (show (some _ == some _) = true; simp; omega), ?hyr14_14⟩) hS ?restr14_14
          case hyr14_14 =>
            intro w' hSw
            obtain ⟨s0, s1⟩ := hSw
            go_simp
            try with_reducible rfl
          try simp only [Act.put, List.setIfInBounds_toArray, List.set_cons_zero, List.set_cons_succ]
          refine wpAnyT_take (i := 15) (oi := ⟨_, _, _, _, _, _⟩) (v := ?vr14_15) (by kernel_rfl) (by decide) rfl (by kernel_rfl) (by kernel_rfl) (by kernel_rfl) (fun _ _ _ h => h) (Or.inl ⟨by first | rfl | (show (some _ == some _) = true; simp; done) | (show (some _ == some _) = true; simp; omega), ?hyr14_15⟩) hS ?restr14_15
          case hyr14_15 =>
            intro w' hSw
            obtain ⟨s0, s1⟩ := hSw
            go_simp
            try with_reducible rfl
          try simp only [Act.put, List.setIfInBounds_toArray, List.set_cons_zero, List.set_cons_succ]
          refine wpAnyT_take (i := 16) (oi := ⟨_, _, _, _, _, _⟩) (v := ?vr14_16) (by kernel_rfl) (by decide) rfl (by kernel_rfl) (by kernel_rfl) (by kernel_rfl) (fun _ _ _ h => h) (Or.inl ⟨by first | rfl | (show (some _ == some _) = true; simp; done) | (show (some _ == some _) = true; simp; omega), ?hyr14_16⟩) hS ?restr14_16
          case hyr14_16 =>
            intro w' hSw
            obtain ⟨s0, s1⟩ := hSw
            go_simp
            try with_reducible rfl
          try simp only [Act.put, List.setIfInBounds_toArray, List.set_cons_zero, List.set_cons_succ]
          refine wpAnyT_take (i := 17) (oi := ⟨_, _, _, _, _, _⟩) (v := undef) (by kernel_rfl) (by decide) rfl (by kernel_rfl) (by kernel_rfl) (by kernel_rfl) (fun _ _ _ h => h) (Or.inr ⟨by first | rfl | (show (some _ == some _) = false; simp; done) | (show (some _ == some _) = false; simp; omega), rfl⟩) hS ?restr14_17
          try simp only [Act.put, List.setIfInBounds_toArray, List.set_cons_zero, List.set_cons_succ]
          refine wpAnyT_take (i := 18) (oi := ⟨_, _, _, _, _, _⟩) (v := undef) (by kernel_rfl) (by decide) rfl (by kernel_rfl) (by kernel_rfl) (by kernel_rfl) (fun _ _ _ h => h) (Or.inr ⟨by first | rfl | (show (some _ == some _) = false; simp; done) | (show (some _ == some _) = false; simp; omega), rfl⟩) hS ?restr14_18
          try simp only [Act.put, List.setIfInBounds_toArray, List.set_cons_zero, List.set_cons_succ]
          refine wpAnyT_take (i := 25) (oi := ⟨_, _, _, _, _, _⟩) (v := undef) (by kernel_rfl) (by decide) rfl (by kernel_rfl) (by kernel_rfl) (by kernel_rfl) (fun _ _ _ h => h) (Or.inr ⟨by first | rfl | (show (some _ == some _) = false; simp; done) | (show (some _ == some _) = false; simp; omega), rfl⟩) hS ?restr14_25
          try simp only [Act.put, List.setIfInBounds_toArray, List.set_cons_zero, List.set_cons_succ]
          refine wpAnyT_take (i := 26) (oi := ⟨_, _, _, _, _, _⟩) (v := undef) (by kernel_rfl) (by decide) rfl (by kernel_rfl) (by kernel_rfl) (by kernel_rfl) (fun _ _ _ h => h) (Or.inr ⟨by first | rfl | (show (some _ == some _) = false; simp; done) | (show (some _ == some _) = false; simp; omega), rfl⟩) hS ?restr14_26
          try simp only [Act.put, List.setIfInBounds_toArray, List.set_cons_zero, List.set_cons_succ]
          refine wpAnyT_take (i := 27) (oi := ⟨_, _, _, _, _, _⟩) (v := undef) (by kernel_rfl) (by decide) rfl (by kernel_rfl) (by kernel_rfl) (by kernel_rfl) (fun _ _ _ h => h) (Or.inr ⟨by first | rfl | (show (some _ == some _) = false; simp; done) | (show (some _ == some _) = false; simp; omega), rfl⟩) hS ?restr14_27
          try simp only [Act.put, List.setIfInBounds_toArray, List.set_cons_zero, List.set_cons_succ]
          refine wpAnyT_ready1 (i := 19) (o := ⟨_, _, _, _, _, _⟩) (by kernel_rfl) rfl (fun KC_ hK => ?_)
          go_simp
          refine hK _ _ (fun _ => hS) ?_
          try simp only [Act.put, List.setIfInBounds_toArray, List.set_cons_zero, List.set_cons_succ]
          refine wpAnyT_take (i := 20) (oi := ⟨_, _, _, _, _, _⟩) (v := undef) (by kernel_rfl) (by decide) rfl (by kernel_rfl) (by kernel_rfl) (by kernel_rfl) (fun _ _ _ h => h) (Or.inr ⟨by first | rfl | (show (some _ == some _) = false; simp; done) | (show (some _ == some _) = false; simp; omega), rfl⟩) hS ?restr14_20
          try simp only [Act.put, List.setIfInBounds_toArray, List.set_cons_zero, List.set_cons_succ]
          refine wpAnyT_take (i := 21) (oi := ⟨_, _, _, _, _, _⟩) (v := undef) (by kernel_rfl) (by decide) rfl (by kernel_rfl) (by kernel_rfl) (by kernel_rfl) (fun _ _ _ h => h) (Or.inr ⟨by first | rfl | (show (some _ == some _) = false; simp; done) | (show (some _ == some _) = false; simp; omega), rfl⟩) hS ?restr14_21
          try simp only [Act.put, List.setIfInBounds_toArray, List.set_cons_zero, List.set_cons_succ]
          refine wpAnyT_take (i := 22) (oi := ⟨_, _, _, _, _, _⟩) (v := undef) (by kernel_rfl) (by decide) rfl (by kernel_rfl) (by kernel_rfl) (by kernel_rfl) (fun _ _ _ h => h) (Or.inr ⟨by first | rfl | (show (some _ == some _) = false; simp; done) | (show (some _ == some _) = false; simp; omega), rfl⟩) hS ?restr14_22
          try simp only [Act.put, List.setIfInBounds_toArray, List.set_cons_zero, List.set_cons_succ]
          refine wpAnyT_ready1 (i := 23) (o := ⟨_, _, _, _, _, _⟩) (by kernel_rfl) rfl (fun KC_ hK => ?_)
          go_simp
          refine hK _ _ (fun _ => hS) ?_
          try simp only [Act.put, List.setIfInBounds_toArray, List.set_cons_zero, List.set_cons_succ]
          refine wpAnyT_take (i := 24) (oi := ⟨_, _, _, _, _, _⟩) (v := undef) (by kernel_rfl) (by decide) rfl (by kernel_rfl) (by kernel_rfl) (by kernel_rfl) (fun _ _ _ h => h) (Or.inr ⟨by first | rfl | (show (some _ == some _) = false; simp; done) | (show (some _ == some _) = false; simp; omega), rfl⟩) hS ?restr14_24
          try simp only [Act.put, List.setIfInBounds_toArray, List.set_cons_zero, List.set_cons_succ]
          refine wpAnyT_ready1 (i := 28) (o := ⟨_, _, _, _, _, _⟩) (by kernel_rfl) rfl (fun KC_ hK => ?_)
          go_simp
          refine hK _ _ (fun _ => hS) ?_
          try simp only [Act.put, List.setIfInBounds_toArray, List.set_cons_zero, List.set_cons_succ]
          refine wpAnyT_take (i := 29) (oi := ⟨_, _, _, _, _, _⟩) (v := undef) (by kernel_rfl) (by decide) rfl (by kernel_rfl) (by kernel_rfl) (by kernel_rfl) (fun _ _ _ h => h) (Or.inr ⟨by first | rfl | (show (some _ == some _) = false; simp; done) | (show (some _ == some _) = false; simp; omega), rfl⟩) hS ?restr14_29
          try simp only [Act.put, List.setIfInBounds_toArray, List.set_cons_zero, List.set_cons_succ]
          refine wpAnyT_take (i := 30) (oi := ⟨_, _, _, _, _, _⟩) (v := ?vr14_30) (by kernel_rfl) (by decide) rfl (by kernel_rfl) (by kernel_rfl) (by kernel_rfl) (fun _ _ _ h => h) (Or.inl ⟨by first | rfl | (show (some _ == some _) = true; simp; done) | (show (some _ == some _) = true; simp; omega), ?hyr14_30⟩) hS ?restr14_30
          case hyr14_30 =>
            intro w' hSw
            obtain ⟨s0, s1⟩ := hSw
            go_simp
            try with_reducible rfl
          try simp only [Act.put, List.setIfInBounds_toArray, List.set_cons_zero, List.set_cons_succ]
          refine wpAnyT_take (i := 31) (oi := ⟨_, _, _, _, _, _⟩) (v := ?vr14_31) (by kernel_rfl) (by decide) rfl (by kernel_rfl) (by kernel_rfl) (by kernel_rfl) (fun _ _ _ h => h) (Or.inl ⟨by rfl, ?hyr14_31⟩) hS ?restr14_31
          case hyr14_31 =>
            intro w' hSw
            obtain ⟨s0, s1⟩ := hSw
            go_simp
            try with_reducible rfl
          try simp only [Act.put, List.setIfInBounds_toArray, List.set_cons_zero, List.set_cons_succ]
          refine wpAnyT_done (by kernel_rfl) ?_ _
          have hb := hcur
          clear hcur hS
          replace cP := cell_later hb cP
          replace d0 := cell_later hb d0
          replace d1 := cell_later hb d1
          replace d2 := cell_later hb d2
          replace d3 := cell_later hb d3
          replace hP := hP.keep hb
          replace hu := hu.keep hb
          replace ht := ht.keep hb
          replace hy := hy.keep hb
          replace hpv := hpv.keep hb
          replace hbv := hbv.keep hb
          replace hB := bthen hB hb
          replace hBik := bthen hBik hb
          clear hb
          go_wp2
          go_roundw
          case rel => exact ⟨k + 1, by omega, by go_num, hBik⟩
          case measure => simp [intOf]; omega
      · cases Y
        · skip
          go_wp2
          have hb := (below0 wr).drew
          replace cP := cell_later hb cP
          replace d0 := cell_later hb d0
          replace d1 := cell_later hb d1
          replace d2 := cell_later hb d2
          replace d3 := cell_later hb d3
          replace hP := hP.keep hb
          replace hu := hu.keep hb
          replace ht := ht.keep hb
          replace hy := hy.keep hb
          replace hpv := hpv.keep hb
          replace hbv := hbv.keep hb
          replace hB := bthen hB hb
          replace hBik := bthen hBik hb
          clear hb
          have hcur := below0 (wr).drew
          have hS := And.intro (cP) (d0)
          refine wp_region_T 32 (by kernel_rfl) (fun w' => w'.cell? ⟨PB, 0, none⟩ = some (.slice (some ⟨ga, 0, none⟩) p.length Cp) ∧ w'.cell? ⟨ga, kb * 4, none⟩ = some (.int .i64 KD)) ?_
          refine wpAnyT_take (i := 0) (oi := ⟨_, _, _, _, _, _⟩) (v := ?vr15_0) (by kernel_rfl) (by decide) rfl (by kernel_rfl) (by kernel_rfl) (by kernel_rfl) (fun _ _ _ h => h) (Or.inl ⟨by rfl, ?hyr15_0⟩) hS ?restr15_0
          case hyr15_0 =>
            intro w' hSw
            obtain ⟨s0, s1⟩ := hSw
            go_simp
            try with_reducible rfl
          try simp only [Act.put, List.setIfInBounds_toArray, List.set_cons_zero, List.set_cons_succ]
          refine wpAnyT_take (i := 1) (oi := ⟨_, _, _, _, _, _⟩) (v := ?vr15_1) (by kernel_rfl) (by decide) rfl (by kernel_rfl) (by kernel_rfl) (by kernel_rfl) (fun _ _ _ h => h) (Or.inl ⟨by rfl, ?hyr15_1⟩) hS ?restr15_1
          case hyr15_1 =>
            intro w' hSw
            obtain ⟨s0, s1⟩ := hSw
            go_simp
            try with_reducible rfl
          try simp only [Act.put, List.setIfInBounds_toArray, List.set_cons_zero, List.set_cons_succ]
          refine wpAnyT_ready1 (i := 2) (o := ⟨_, _, _, _, _, _⟩) (by kernel_rfl) rfl (fun KC_ hK => ?_)
          go_simp
          go_at_call 45
          refine (L_isIn _ _ _ k _ (hu.keep hcur)).mono ?_
          rintro e w' ⟨rfl, rfl⟩
          rw [← HX.out]
          refine hK _ _ (fun _ => hS) ?_
          try simp only [Act.put, List.setIfInBounds_toArray, List.set_cons_zero, List.set_cons_succ]
          refine wpAnyT_take (i := 3) (oi := ⟨_, _, _, _, _, _⟩) (v := ?vr15_3) (by kernel_rfl) (by decide) rfl (by kernel_rfl) (by kernel_rfl) (by kernel_rfl) (fun _ _ _ h => h) (Or.inl ⟨by rfl, ?hyr15_3⟩) hS ?restr15_3
          case hyr15_3 =>
            intro w' hSw
            obtain ⟨s0, s1⟩ := hSw
            go_simp
            try with_reducible rfl
          try simp only [Act.put, List.setIfInBounds_toArray, List.set_cons_zero, List.set_cons_succ]
          refine wpAnyT_take (i := 4) (oi := ⟨_, _, _, _, _, _⟩) (v := ?vr15_4) (by kernel_rfl) (by decide) rfl (by kernel_rfl) (by kernel_rfl) (by kernel_rfl) (fun _ _ _ h => h) (Or.inl ⟨by first | rfl | (show (some _ == some _) = true; simp; done) | (show (some _ == some _) = true; simp; omega), ?hyr15_4⟩) hS ?restr15_4
          case hyr15_4 =>
            intro w' hSw
            obtain ⟨s0, s1⟩ := hSw
            go_simp
            try with_reducible rfl
          try simp only [Act.put, List.setIfInBounds_toArray, List.set_cons_zero, List.set_cons_succ]
          refine wpAnyT_take (i := 5) (oi := ⟨_, _, _, _, _, _⟩) (v := ?vr15_5) (by kernel_rfl) (by decide) rfl (by kernel_rfl) (by kernel_rfl) (by kernel_rfl) (fun _ _ _ h => h) (Or.inl ⟨by first | rfl | (show (some _ == some _) = true; simp; done) | (show (some _ == some _) = true; simp; omega), ?hyr15_5⟩) hS ?restr15_5
          case hyr15_5 =>
            intro w' hSw
            obtain ⟨s0, s1⟩ := hSw
            go_simp
            try with_reducible rfl
          try simp only [Act.put, List.setIfInBounds_toArray, List.set_cons_zero, List.set_cons_succ]
          refine wpAnyT_ready1 (i := 6) (o := ⟨_, _, _, _, _, _⟩) (by kernel_rfl) rfl (fun KC_ hK => ?_)
          try rw [if_pos (by first | rfl | (show (some _ == some _) = true; simp; done) | (show (some _ == some _) = true; simp; omega))]
          go_simp
          go_at_call 45
          refine (L_isIn _ _ _ k _ (hy.keep hcur)).mono ?_
          rintro e w' ⟨rfl, rfl⟩
          rw [← HY.out]
          refine hK _ _ (fun _ => hS) ?_
          try simp only [Act.put, List.setIfInBounds_toArray, List.set_cons_zero, List.set_cons_succ]
          refine wpAnyT_take (i := 7) (oi := ⟨_, _, _, _, _, _⟩) (v := ?vr15_7) (by kernel_rfl) (by decide) rfl (by kernel_rfl) (by kernel_rfl) (by kernel_rfl) (fun _ _ _ h => h) (Or.inl ⟨by rfl, ?hyr15_7⟩) hS ?restr15_7
          case hyr15_7 =>
            intro w' hSw
            obtain ⟨s0, s1⟩ := hSw
            go_simp
            try with_reducible rfl
          try simp only [Act.put, List.setIfInBounds_toArray, List.set_cons_zero, List.set_cons_succ]
          refine wpAnyT_take (i := 8) (oi := ⟨_, _, _, _, _, _⟩) (v := ?vr15_8) (by kernel_rfl) (by decide) rfl (by kernel_rfl) (by kernel_rfl) (by kernel_rfl) (fun _ _ _ h => h) (Or.inl ⟨by rfl, ?hyr15_8⟩) hS ?restr15_8
          case hyr15_8 =>
            intro w' hSw
            obtain ⟨s0, s1⟩ := hSw
            go_simp
            try with_reducible rfl
          try simp only [Act.put, List.setIfInBounds_toArray, List.set_cons_zero, List.set_cons_succ]
          refine wpAnyT_take (i := 9) (oi := ⟨_, _, _, _, _, _⟩) (v := ?vr15_9) (by kernel_rfl) (by decide) rfl (by kernel_rfl) (by kernel_rfl) (by kernel_rfl) (fun _ _ _ h => h) (Or.inl ⟨by first | rfl | (show (some _ == some _) = true; simp; done) | (show (some _ == some _) = true; simp; omega), ?hyr15_9⟩) hS ?restr15_9
          case hyr15_9 =>
            intro w' hSw
            obtain ⟨s0, s1⟩ := hSw
            go_simp
            try with_reducible rfl
          try simp only [Act.put, List.setIfInBounds_toArray, List.set_cons_zero, List.set_cons_succ]
          refine wpAnyT_take (i := 10) (oi := ⟨_, _, _, _, _, _⟩) (v := ?vr15_10) (by kernel_rfl) (by decide) rfl (by kernel_rfl) (by kernel_rfl) (by kernel_rfl) (fun _ _ _ h => h) (Or.inl ⟨by first | rfl | (show (some _ == some _) = true; simp; done) | (show (some _ == some _) = true; simp; omega), ?hyr15_10⟩) hS ?restr15_10
          case hyr15_10 =>
            intro w' hSw
            obtain ⟨s0, s1⟩ := hSw
            go_simp
            try with_reducible rfl
          try simp only [Act.put, List.setIfInBounds_toArray, List.set_cons_zero, List.set_cons_succ]
          refine wpAnyT_take (i := 11) (oi := ⟨_, _, _, _, _, _⟩) (v := ?vr15_11) (by kernel_rfl) (by decide) rfl (by kernel_rfl) (by kernel_rfl) (by kernel_rfl) (fun _ _ _ h => h) (Or.inl ⟨by first | rfl | (show (some _ == some _) = true; simp; done) | (show (some _ == some _) = true; simp; omega), ?hyr15_11⟩) hS ?restr15_11
          case hyr15_11 =>
            intro w' hSw
            obtain ⟨s0, s1⟩ := hSw
            go_simp
            try with_reducible rfl
          try simp only [Act.put, List.setIfInBounds_toArray, List.set_cons_zero, List.set_cons_succ]
          refine wpAnyT_take (i := 12) (oi := ⟨_, _, _, _, _, _⟩) (v := ?vr15_12) (by kernel_rfl) (by decide) rfl (by kernel_rfl) (by kernel_rfl) (by kernel_rfl) (fun _ _ _ h => h) (Or.inl ⟨by first | rfl | (show (some _ == some _) = true; simp; done) | (show (some _ == some _) = true; simp; omega), ?hyr15_12⟩) hS ?restr15_12
          case hyr15_12 =>
            intro w' hSw
            obtain ⟨s0, s1⟩ := hSw
            go_simp
            try with_reducible rfl
          try simp only [Act.put, List.setIfInBounds_toArray, List.set_cons_zero, List.set_cons_succ]
          refine wpAnyT_take (i := 13) (oi := ⟨_, _, _, _, _, _⟩) (v := ?vr15_13) (by kernel_rfl) (by decide) rfl (by kernel_rfl) (by kernel_rfl) (by kernel_rfl) (fun _ _ _ h => h) (Or.inl ⟨by first | rfl | (show (some _ == some _) = true; simp; done) | (show (some _ == some _) = true; simp; omega), ?hyr15_13⟩) hS ?restr15_13
          case hyr15_13 =>
            intro w' hSw
            obtain ⟨s0, s1⟩ := hSw
            go_simp
            try with_reducible rfl
          try simp only [Act.put, List.setIfInBounds_toArray, List.set_cons_zero, List.set_cons_succ]
          refine wpAnyT_take (i := 14) (oi := ⟨_, _, _, _, _, _⟩) (v := ?vr15_14) (by kernel_rfl) (by decide) rfl (by kernel_rfl) (by kernel_rfl) (by kernel_rfl) (fun _ _ _ h => h) (Or.inl ⟨by first | rfl | (show (some _ == some _) = true; simp; done) | (show (some _ == some _) = true; simp; omega), ?hyr15_14⟩) hS ?restr15_14
          case hyr15_14 =>
            intro w' hSw
            obtain ⟨s0, s1⟩ := hSw
            go_simp
            try with_reducible rfl
          try simp only [Act.put, List.setIfInBounds_toArray, List.set_cons_zero, List.set_cons_succ]
          refine wpAnyT_take (i := 15) (oi := ⟨_, _, _, _, _, _⟩) (v := ?vr15_15) (by kernel_rfl) (by decide) rfl (by kernel_rfl) (by kernel_rfl) (by kernel_rfl) (fun _ _ _ h => h) (Or.inl ⟨by first | rfl | (show (some _ == some _) = true; simp; done) | (show (some _ == some _) = true; simp; omega), ?hyr15_15⟩) hS ?restr15_15
          case hyr15_15 =>
            intro w' hSw
            obtain ⟨s0, s1⟩ := hSw
            go_simp
            try with_reducible rfl
          try simp only [Act.put, List.setIfInBounds_toArray, List.set_cons_zero, List.set_cons_succ]
          refine wpAnyT_take (i := 16) (oi := ⟨_, _, _, _, _, _⟩) (v := ?vr15_16) (by kernel_rfl) (by decide) rfl (by kernel_rfl) (by kernel_rfl) (by kernel_rfl) (fun _ _ _ h => h) (Or.inl ⟨by first | rfl | (show (some _ == some _) = true; simp; done) | (show (some _ == some _) = true; simp; omega), ?hyr15_16⟩) hS ?restr15_16
          case hyr15_16 =>
            intro w' hSw
            obtain ⟨s0, s1⟩ := hSw
            go_simp
            try with_reducible rfl
          try simp only [Act.put, List.setIfInBounds_toArray, List.set_cons_zero, List.set_cons_succ]
          refine wpAnyT_take (i := 17) (oi := ⟨_, _, _, _, _, _⟩) (v := undef) (by kernel_rfl) (by decide) rfl (by kernel_rfl) (by kernel_rfl) (by kernel_rfl) (fun _ _ _ h => h) (Or.inr ⟨by first | rfl | (show (some _ == some _) = false; simp; done) | (show (some _ == some _) = false; simp; omega), rfl⟩) hS ?restr15_17
          try simp only [Act.put, List.setIfInBounds_toArray, List.set_cons_zero, List.set_cons_succ]
          refine wpAnyT_take (i := 18) (oi := ⟨_, _, _, _, _, _⟩) (v := undef) (by kernel_rfl) (by decide) rfl (by kernel_rfl) (by kernel_rfl) (by kernel_rfl) (fun _ _ _ h => h) (Or.inr ⟨by first | rfl | (show (some _ == some _) = false; simp; done) | (show (some _ == some _) = false; simp; omega), rfl⟩) hS ?restr15_18
          try simp only [Act.put, List.setIfInBounds_toArray, List.set_cons_zero, List.set_cons_succ]
          refine wpAnyT_take (i := 25) (oi := ⟨_, _, _, _, _, _⟩) (v := undef) (by kernel_rfl) (by decide) rfl (by kernel_rfl) (by kernel_rfl) (by kernel_rfl) (fun _ _ _ h => h) (Or.inr ⟨by first | rfl | (show (some _ == some _) = false; simp; done) | (show (some _ == some _) = false; simp; omega), rfl⟩) hS ?restr15_25
          try simp only [Act.put, List.setIfInBounds_toArray, List.set_cons_zero, List.set_cons_succ]
          refine wpAnyT_take (i := 26) (oi := ⟨_, _, _, _, _, _⟩) (v := undef) (by kernel_rfl) (by decide) rfl (by kernel_rfl) (by kernel_rfl) (by kernel_rfl) (fun _ _ _ h => h) (Or.inr ⟨by first | rfl | (show (some _ == some _) = false; simp; done) | (show (some _ == some _) = false; simp; omega), rfl⟩) hS ?restr15_26
          try simp only [Act.put, List.setIfInBounds_toArray, List.set_cons_zero, List.set_cons_succ]
          refine wpAnyT_take (i := 27) (oi := ⟨_, _, _, _, _, _⟩) (v := undef) (by kernel_rfl) (by decide) rfl (by kernel_rfl) (by kernel_rfl) (by kernel_rfl) (fun _ _ _ h => h) (Or.inr ⟨by first | rfl | (show (some _ == some _) = false; simp; done) | (show (some _ == some _) = false; simp; omega), rfl⟩) hS ?restr15_27
          try simp only [Act.put, List.setIfInBounds_toArray, List.set_cons_zero, List.set_cons_succ]
          refine wpAnyT_ready1 (i := 19) (o := ⟨_, _, _, _, _, _⟩) (by kernel_rfl) rfl (fun KC_ hK => ?_)
          go_simp
          refine hK _ _ (fun _ => hS) ?_
          try simp only [Act.put, List.setIfInBounds_toArray, List.set_cons_zero, List.set_cons_succ]
          refine wpAnyT_take (i := 20) (oi := ⟨_, _, _, _, _, _⟩) (v := undef) (by kernel_rfl) (by decide) rfl (by kernel_rfl) (by kernel_rfl) (by kernel_rfl) (fun _ _ _ h => h) (Or.inr ⟨by first | rfl | (show (some _ == some _) = false; simp; done) | (show (some _ == some _) = false; simp; omega), rfl⟩) hS ?restr15_20
          try simp only [Act.put, List.setIfInBounds_toArray, List.set_cons_zero, List.set_cons_succ]
          refine wpAnyT_take (i := 21) (oi := ⟨_, _, _, _, _, _⟩) (v := undef) (by kernel_rfl) (by decide) rfl (by kernel_rfl) (by kernel_rfl) (by kernel_rfl) (fun _ _ _ h => h) (Or.inr ⟨by first | rfl | (show (some _ == some _) = false; simp; done) | (show (some _ == some _) = false; simp; omega), rfl⟩) hS ?restr15_21
          try simp only [Act.put, List.setIfInBounds_toArray, List.set_cons_zero, List.set_cons_succ]
          refine wpAnyT_take (i := 22) (oi := ⟨_, _, _, _, _, _⟩) (v := undef) (by kernel_rfl) (by decide) rfl (by kernel_rfl) (by kernel_rfl) (by kernel_rfl) (fun _ _ _ h => h) (Or.inr ⟨by first | rfl | (show (some _ == some _) = false; simp; done) | (show (some _ == some _) = false; simp; omega), rfl⟩) hS ?restr15_22
          try simp only [Act.put, List.setIfInBounds_toArray, List.set_cons_zero, List.set_cons_succ]
          refine wpAnyT_ready1 (i := 23) (o := ⟨_, _, _, _, _, _⟩) (by kernel_rfl) rfl (fun KC_ hK => ?_)
          go_simp
          refine hK _ _ (fun _ => hS) ?_
          try simp only [Act.put, List.setIfInBounds_toArray, List.set_cons_zero, List.set_cons_succ]
          refine wpAnyT_take (i := 24) (oi := ⟨_, _, _, _, _, _⟩) (v := undef) (by kernel_rfl) (by decide) rfl (by kernel_rfl) (by kernel_rfl) (by kernel_rfl) (fun _ _ _ h => h) (Or.inr ⟨by first | rfl | (show (some _ == some _) = false; simp; done) | (show (some _ == some _) = false; simp; omega), rfl⟩) hS ?restr15_24
          try simp only [Act.put, List.setIfInBounds_toArray, List.set_cons_zero, List.set_cons_succ]
          refine wpAnyT_ready1 (i := 28) (o := ⟨_, _, _, _, _, _⟩) (by kernel_rfl) rfl (fun KC_ hK => ?_)
          go_simp
          refine hK _ _ (fun _ => hS) ?_
          try simp only [Act.put, List.setIfInBounds_toArray, List.set_cons_zero, List.set_cons_succ]
          refine wpAnyT_take (i := 29) (oi := ⟨_, _, _, _, _, _⟩) (v := undef) (by kernel_rfl) (by decide) rfl (by kernel_rfl) (by kernel_rfl) (by kernel_rfl) (fun _ _ _ h => h) (Or.inr ⟨by first | rfl | (show (some _ == some _) = false; simp; done) | (show (some _ == some _) = false; simp; omega), rfl⟩) hS ?restr15_29
          try simp only [Act.put, List.setIfInBounds_toArray, List.set_cons_zero, List.set_cons_succ]
          refine wpAnyT_take (i := 30) (oi := ⟨_, _, _, _, _, _⟩) (v := ?vr15_30) (by kernel_rfl) (by decide) rfl (by kernel_rfl) (by kernel_rfl) (by kernel_rfl) (fun _ _ _ h => h) (Or.inl ⟨by first | rfl | (show (some _ == some _) = true; simp; done) | (show (some _ == some _) = true; simp; omega), ?hyr15_30⟩) hS ?restr15_30
          case hyr15_30 =>
            intro w' hSw
            obtain ⟨s0, s1⟩ := hSw
            go_simp
            try with_reducible rfl
          try simp only [Act.put, List.setIfInBounds_toArray, List.set_cons_zero, List.set_cons_succ]
          refine wpAnyT_take (i := 31) (oi := ⟨_, _, _, _, _, _⟩) (v := ?vr15_31) (by kernel_rfl) (by decide) rfl (by kernel_rfl) (by kernel_rfl) (by kernel_rfl) (fun _ _ _ h => h) (Or.inl ⟨by rfl, ?hyr15_31⟩) hS ?restr15_31
          case hyr15_31 =>
            intro w' hSw
            obtain ⟨s0, s1⟩ := hSw
            go_simp
            try with_reducible rfl
          try simp only [Act.put, List.setIfInBounds_toArray, List.set_cons_zero, List.set_cons_succ]
          refine wpAnyT_done (by kernel_rfl) ?_ _
          have hb := hcur
          clear hcur hS
          replace cP := cell_later hb cP
          replace d0 := cell_later hb d0
          replace d1 := cell_later hb d1
          replace d2 := cell_later hb d2
          replace d3 := cell_later hb d3
          replace hP := hP.keep hb
          replace hu := hu.keep hb
          replace ht := ht.keep hb
          replace hy := hy.keep hb
          replace hpv := hpv.keep hb
          replace hbv := hbv.keep hb
          replace hB := bthen hB hb
          replace hBik := bthen hBik hb
          clear hb
          go_wp2
          go_roundw
          case rel => exact ⟨k + 1, by omega, by go_num, hBik⟩
          case measure => simp [intOf]; omega
        · skip
          cases g1
    obtain rfl : k = 8 := by omega
    have hle : ¬ (((8 : Nat) : Int) ≤ 7) := by omega
    by_cases hk1 : (p.bk (kb : Int)).kind = 1
    · rw [hk1] at d0
      clear hk1
      go_wp2_with fail
      refine (L_ascends _ _ _ _ hu HASC.out).mono ?_
      rintro e w22 ⟨rfl, hb⟩
      replace cP := cell_later hb cP
      replace d0 := cell_later hb d0
      replace d1 := cell_later hb d1
      replace d2 := cell_later hb d2
      replace d3 := cell_later hb d3
      replace hP := hP.keep hb
      replace hu := hu.keep hb
      replace ht := ht.keep hb
      replace hy := hy.keep hb
      replace hpv := hpv.keep hb
      replace hbv := hbv.keep hb
      replace hB := bthen hB hb
      clear hb
      go_wp2
      go_ret
      exact ⟨rfl, hB⟩
    have hkb : ((p.bk (kb : Int)).kind == 1) = false := by rw [beq_eq_false_iff_ne]; exact hk1
    have hz : (((rFasts p kb).length : Int) == 0) = true := by rw [HNONE.out hk1]; rfl
    go_wp2_with fail
    refine (L_ascends _ _ _ _ hu HASC.out).mono ?_
    rintro e w23 ⟨rfl, hb⟩
    replace cP := cell_later hb cP
    replace d0 := cell_later hb d0
    replace d1 := cell_later hb d1
    replace d2 := cell_later hb d2
    replace d3 := cell_later hb d3
    replace hP := hP.keep hb
    replace hu := hu.keep hb
    replace ht := ht.keep hb
    replace hy := hy.keep hb
    replace hpv := hpv.keep hb
    replace hbv := hbv.keep hb
    replace hB := bthen hB hb
    clear hb
    go_wp2
    go_ret
    exact ⟨rfl, hB⟩

theorem own : ownKnob Try.prog.godebug = none := by kernel_rfl
theorem laidOut : laidOutB Try.prog = true := by kernel_rfl

set_option maxRecDepth 100000 in
theorem lifted (os : Os) (started : os.Started) (H : Type) (enc : TypeId × Value → H) :
    ReturnsInHanded {} Try.checked os 23 .any (Rows.fnFastsOfSpec.pre6 enc Try.prog Try.f23 Rows.fnFastsOfRow.domain false) (Rows.fnFastsOfSpec.post enc Try.prog Try.f23 false true false false) := by
  refine returnsInHanded_of_change (C := Try.checked) own started (by kernel_rfl) Try.func23
    (ChangeSpec.witness6 (enc := enc) (C := Try.checked) false ⟨#[], #[.slice none 0 0], []⟩ 8 (by kernel_rfl) (by kernel_rfl) (by kernel_rfl) (by kernel_rfl)) ?_
  intro W base args ds gs before hval0 hW hcnd _
  have hval : ∀ (j : Nat) t v, Try.f23.params[j]? = some t → args[j]? = some v → Value.okWide Try.prog W .any base t v := hval0
  have hW' := hW
  obtain ⟨p, q, hA0, hV, rfl, hfz, hnd⟩ := hW
  have hA : DataW.TrodAll enc Try.prog W 0 (fun _ => true) true Try.f23.params.toList args.toList ds p := hA0
  rw [Try.params23] at hA hval
  obtain ⟨v0, d0, rfl, rfl, h0⟩ := trodAll_one hA
  obtain ⟨rfl, rfl⟩ := trodVars_none hV
  clear hA0 hval0
  simp only [List.append_nil] at hW'
  have hlt : ∀ x ∈ p, x.block < W.heap.size := fun x hx => hW'.lt x hx
  obtain ⟨q0, hq0⟩ := open_obytes (hval 0 22 v0 rfl rfl) h0
  refine (walk v0 q0 W hq0).mono fun e W' ⟨he, hb⟩ => ?_
  subst he
  exact ⟨_, rfl, post_of_below (pa := _) (pv := []) hW' (fun _ _ _ => (trodAll_cons_mk (shut_bool Try.underlying4 _) trodAll_mk0)) (fun sp hsp => (trodAll_cons_mk (WideElems.Trod_stays laidOut (by kernel_rfl) (of_decide_eq_true (by kernel_rfl)) h0 (fun x hx => hb.same (hlt x (hx))) (fun x hx => hsp x (hx))) trodAll_mk0)) (fun _ _ => rfl) (by simp)
    hb (ok_one (by kernel_rfl) rfl (okWide_bool_mk Try.underlying4 _))⟩

theorem closed : joinedFacts Try.pinned.checked.prog 23 Try.f23 Rows.fnFastsOfSpec Rows.fnFastsOfRow = true := by
  show joinedFacts Try.prog 23 Try.f23 Rows.fnFastsOfSpec Rows.fnFastsOfRow = true
  unfold joinedFacts
  rw [may_enter, lifts_not, make_cut]
  kernel_rfl

theorem over : Rows.fnFastsOfRow.holds Try.pinned (OpenSpec.ofChange Rows.fnFastsOfSpec) :=
  OpenClaim.holds_of_wide 23 Try.f23 rfl rfl rfl rfl rfl rfl rfl ⟨rfl, rfl, rfl, rfl, rfl⟩ rfl rfl rfl rfl rfl (by kernel_rfl) Try.func23 closed
    (of_decide_eq_true (by kernel_rfl)) (by unfold Func.isWrapper; first | (rw [if_pos (by decide +kernel)]; kernel_rfl) | (rw [if_neg (by decide +kernel)]; exact ⟨rfl, rfl⟩))
    (fun os started H enc _ => lifted os started H enc)

theorem proved : Rows.FnFastsOfSaid := over
#print axioms proved
end Go.Proofs.Ytklikpcfmmpocaa.fastsOf
