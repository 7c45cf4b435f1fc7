/-
  The law FnCellsOf: for every input it answers true and leaves its argument as it was. No condition.
-/
import Derived.Test.YtklikpcfmmpocaaFrame
import Derived.Test.YtklikpcfmmpocaaFacts
import Derived.Test.YtklikpcfmmpocaaDwA
import Derived.Test.YtklikpcfmmpocaaDwD
import Derived.Test.YtklikpcfmmpocaaImpl13
import Derived.Test.YtklikpcfmmpocaaImpl12
import Derived.Test.YtklikpcfmmpocaaImpl9
import Derived.Test.YtklikpcfmmpocaaDwM
namespace Go.Proofs.Ytklikpcfmmpocaa.cellsOf
open Go.ChangeShapes Go.WideShapes Go.ChangeAt Go.RowKit
set_option linter.unusedVariables false

set_option maxRecDepth 100000 in
set_option maxHeartbeats 1000000 in
theorem walk (v : Value) (l : List Int) (w : World) (hv : OBytes w v l) :
    Calls Try.prog 25 #[v] w fun e w' => e = .returned (.bool true) ∧ Below w.heap.size w w' := by
  have HV := Lib.hid hv
  obtain ⟨⟨A, C, b', o, rfl, hn, hc, _, _⟩, _⟩ := hv
  unfold maxLen at hc
  by_cases hbig : 1048576 < l.length
  · go_enter Try.func25, Try.ntmps25
    go_wp2
    go_ret
    exact ⟨rfl, Below.refl _ _⟩
  have hl : l.length ≤ 1048576 := by omega
  go_enter Try.func25, Try.ntmps25
  go_wp2_with fail
  refine (S_DrawCellsOf _ l _ HV.out hl).mono ?_
  rintro e w1 ⟨sl, xs, p, b, rfl, hrow, hp, hB⟩
  clear HV hbig hl hc hn
  obtain ⟨ga, Cp, rfl, _, hCp, _, _, _, _⟩ := PRowX.rd hrow (by omega)
  unfold maxLen at hCp
  obtain ⟨PB, hPB⟩ : ∃ PB : Nat, PB = w1.heap.size := ⟨_, rfl⟩
  obtain ⟨W, hW⟩ : ∃ W : World, W = w1.alloc (.cells #[.slice (some ⟨ga, 0, none⟩) p.length Cp] 30) := ⟨_, rfl⟩
  have hB : Below w.heap.size w W := by rw [hW]; exact bal hB _
  have hP : Blks W w.heap.size (.slice (some ⟨ga, 0, none⟩) p.length Cp) p := by rw [hW]; exact (PRowX.blks hrow).keep al1
  have cP : W.cell? ⟨PB, 0, none⟩ = some (.slice (some ⟨ga, 0, none⟩) p.length Cp) := by rw [hW, hPB]; simp [go_sem]
  have HPB := Lib.hid hPB
  have HW := Lib.hid hW
  clear hPB hW hrow
  go_wp2_with fail
  rw [← HPB.out, ← HW.out]
  clear HPB HW
  refine (I_CellsOf _ p _ b _ ⟨_, rfl, hP⟩).mono ?_
  rintro e w2 ⟨u, rfl, hu, hb⟩
  replace cP := cell_later hb cP
  replace hP := hP.keep hb
  replace hB := bthen hB hb
  clear hb
  obtain ⟨uA, uC, rfl⟩ := hu.form
  go_wp2_with fail
  refine (S_CellsOf _ p _ b _ ⟨_, rfl, hP⟩).mono ?_
  rintro e w3 ⟨t, rfl, ht, hb⟩
  replace cP := cell_later hb cP
  replace hP := hP.keep hb
  replace hu := hu.keep hb
  replace hB := bthen hB hb
  clear hb
  by_cases h0 : (rCells p b).length = 0
  · skip
    have hz : (((rCells p b).length : Int) == 0) = true := by rw [h0]; rfl
    clear h0
    go_wp2_with fail
    refine (L_equalInts _ _ _ _ _ _ _ hu ht).mono ?_
    rintro e w4 ⟨rfl, hb⟩
    rw [beq_self_eq_true]
    replace cP := cell_later hb cP
    replace hP := hP.keep hb
    replace hu := hu.keep hb
    replace ht := ht.keep hb
    replace hB := bthen hB hb
    clear hb
    go_wp2_with fail
    refine (S_CellsOf _ p _ b _ ⟨_, rfl, hP⟩).mono ?_
    rintro e w5 ⟨t2, rfl, ht2, hb⟩
    replace cP := cell_later hb cP
    replace hP := hP.keep hb
    replace hu := hu.keep hb
    replace ht := ht.keep hb
    replace hB := bthen hB hb
    clear hb
    go_wp2_with fail
    refine (L_equalInts _ _ _ _ _ _ _ hu ht2).mono ?_
    rintro e w6 ⟨rfl, hb⟩
    rw [beq_self_eq_true]
    replace cP := cell_later hb cP
    replace hP := hP.keep hb
    replace hu := hu.keep hb
    replace ht := ht.keep hb
    replace ht2 := ht2.keep hb
    replace hB := bthen hB hb
    clear hb
    go_wp2
    go_ret
    exact ⟨rfl, hB⟩
  have hz : (((rCells p b).length : Int) == 0) = false := by rw [beq_eq_false_iff_ne]; omega
  have hne : rCells p b ≠ [] := fun h => h0 (by rw [h]; rfl)
  go_wp2_with fail
  refine (L_equalInts _ _ _ _ _ _ _ hu ht).mono ?_
  rintro e w7 ⟨rfl, hb⟩
  rw [beq_self_eq_true]
  replace cP := cell_later hb cP
  replace hP := hP.keep hb
  replace hu := hu.keep hb
  replace ht := ht.keep hb
  replace hB := bthen hB hb
  clear hb
  obtain ⟨hb2, hb1, hk1, hall⟩ := cells_law hne
  have hb0 : 0 ≤ b := by omega
  have HALL := Lib.hid hall
  have HASC := Lib.hid (rCells_asc p b)
  clear hall hne
  have hlen := rKids_len p b
  have hlen2 := rCells_len p b
  go_wp2_with fail
  refine (I_ChildrenOf _ p _ b _ ⟨_, rfl, hP⟩).mono ?_
  rintro e w8 ⟨y, rfl, hy, hb⟩
  replace cP := cell_later hb cP
  replace hP := hP.keep hb
  replace hu := hu.keep hb
  replace ht := ht.keep hb
  replace hB := bthen hB hb
  clear hb
  obtain ⟨yA, yC, rfl⟩ := hy.form
  obtain ⟨kb, rfl⟩ := Int.eq_ofNat_of_zero_le hb0
  have ebk : p.bk (kb : Int) = p.getD kb default := by show p.getD (kb : Int).toNat default = _; rw [Int.toNat_natCast]
  obtain ⟨A', C', g', e', _, _, hA', _, hcell, _⟩ := hP.rd
  obtain rfl := hA' (by omega)
  obtain ⟨rfl, rfl⟩ : ga = g' ∧ Cp = C' := by simpa using e'
  obtain ⟨pv, bv, d0, d1, d2, d3, hpv, hbv⟩ := hcell kb (by omega)
  rw [← ebk] at d0 d1 hpv hbv
  clear hcell e' hA' ebk
  rw [hk1] at d0
  clear hk1
  obtain ⟨yA', yC', yg, ye, _, yc, yh, yl, ycell, _⟩ := hy.rd
  simp only [Value.slice.injEq] at ye
  obtain ⟨rfl, _, rfl⟩ := ye
  unfold maxLen at yc
  have Hyc := Lib.hid ycell
  clear ycell
  obtain ⟨uA', uC', ug, ue, _, uc, uh, ul, ucell, _⟩ := hu.rd
  simp only [Value.slice.injEq] at ue
  obtain ⟨rfl, _, rfl⟩ := ue
  unfold maxLen at uc
  have Huc := Lib.hid ucell
  clear ucell
  go_wp2
  go_loopw [7] (fun i wi => ∃ k : Nat, k ≤ (rCells p kb).length ∧ i = .int .i64 k ∧ Below w8.heap.size w8 wi) (fun i _ => (rCells p kb).length - (intOf i).toNat)
  case atStart => exact ⟨0, Nat.zero_le _, rfl, below0 _⟩
  case round =>
    obtain ⟨k, hk, rfl, hb⟩ := hrel
    have hBik := hb
    replace cP := cell_later hb cP
    replace d0 := cell_later hb d0
    replace d1 := cell_later hb d1
    replace d2 := cell_later hb d2
    replace d3 := cell_later hb d3
    replace hP := hP.keep hb
    replace hu := hu.keep hb
    replace ht := ht.keep hb
    replace hy := hy.keep hb
    replace hpv := hpv.keep hb
    replace hbv := hbv.keep hb
    replace hB := bthen hB hb
    clear hb
    by_cases hltk : k < (rCells p kb).length
    · skip
      have c1 := cell_later hBik (Huc.out k hltk)
      obtain rfl := uh (by omega)
      have hmm : (rCells p kb).getD k 0 ∈ rCells p kb := by rw [show (rCells p kb).getD k 0 = (rCells p kb)[k] by simp [List.getD, hltk]]; exact List.getElem_mem _
      generalize hEQX : (rCells p kb).getD k 0 = X at *
      have HX := Lib.hid hmm
      have HEQX := Lib.hid hEQX
      have hkk0 : (0 : Int) ≤ (k : Int) := by omega
      have hkk1 : (k : Int) < ((rCells p kb).length : Int) := by omega
      clear hmm hEQX
      obtain ⟨hloc, hex⟩ := HALL.out X HX.out
      have HLOC := Lib.hid hloc
      have HEX := Lib.hid hex
      clear hloc hex
      go_wp2
      go_loopw [8, 9] (fun m i wi => ∃ j : Nat, j ≤ (rKids p kb).length ∧ i = .int .i64 j ∧ Below wr.heap.size wr wi ∧ m = .bool (metTo p (rKids p kb) X j)) (fun _ i _ => (rKids p kb).length - (intOf i).toNat)
      case atStart => exact ⟨0, Nat.zero_le _, rfl, below0 _, rfl⟩
      case round =>
        obtain ⟨j, hj, rfl, hb, rfl⟩ := hrel
        have hBij := hb
        replace cP := cell_later hb cP
        replace d0 := cell_later hb d0
        replace d1 := cell_later hb d1
        replace d2 := cell_later hb d2
        replace d3 := cell_later hb d3
        replace c1 := cell_later hb c1
        replace hP := hP.keep hb
        replace hu := hu.keep hb
        replace ht := ht.keep hb
        replace hy := hy.keep hb
        replace hpv := hpv.keep hb
        replace hbv := hbv.keep hb
        replace hB := bthen hB hb
        replace hBik := bthen hBik hb
        clear hb
        by_cases hltj : j < (rKids p kb).length
        · skip
          have c2 := cell_later hBik (Hyc.out j hltj)
          obtain rfl := yh (by omega)
          have hmm : (rKids p kb).getD j 0 ∈ rKids p kb := by rw [show (rKids p kb).getD j 0 = (rKids p kb)[j] by simp [List.getD, hltj]]; exact List.getElem_mem _
          generalize hEQK : (rKids p kb).getD j 0 = K at *
          have HK := Lib.hid hmm
          have HEQK := Lib.hid hEQK
          have hjj0 : (0 : Int) ≤ (j : Int) := by omega
          have hjj1 : (j : Int) < ((rKids p kb).length : Int) := by omega
          clear hmm hEQK
          have hsu := metTo_succ p (rKids p kb) X j hltj
          rw [HEQK.out] at hsu
          have HSU := Lib.hid hsu
          clear hsu
          cases hme : metTo p (rKids p kb) X j
          · have HME := Lib.hid hme
            clear hme
            obtain ⟨Y, hY⟩ : ∃ Y : Bool, Y = hasF (rFrees p K) X := ⟨_, rfl⟩
            have HY := Lib.hid hY
            clear hY
            go_wp2
            have hb := (below0 wr).drew
            replace cP := cell_later hb cP
            replace d0 := cell_later hb d0
            replace d1 := cell_later hb d1
            replace d2 := cell_later hb d2
            replace d3 := cell_later hb d3
            replace c1 := cell_later hb c1
            replace c2 := cell_later hb c2
            replace hP := hP.keep hb
            replace hu := hu.keep hb
            replace ht := ht.keep hb
            replace hy := hy.keep hb
            replace hpv := hpv.keep hb
            replace hbv := hbv.keep hb
            replace hB := bthen hB hb
            replace hBik := bthen hBik hb
            replace hBij := bthen hBij hb
            clear hb
            have hcur := below0 (wr).drew
            have hS := And.intro (cP) (And.intro (c2) (c1))
            refine wp_region_T 15 (by kernel_rfl) (fun w' => w'.cell? ⟨PB, 0, none⟩ = some (.slice (some ⟨ga, 0, none⟩) p.length Cp) ∧ w'.cell? ⟨yg, j, none⟩ = some (.int .i64 K) ∧ w'.cell? ⟨ug, k, none⟩ = some (.int .i64 X)) ?_
            refine wpAnyT_take (i := 0) (oi := ⟨_, _, _, _, _, _⟩) (v := ?vr4_0) (by kernel_rfl) (by decide) rfl (by kernel_rfl) (by kernel_rfl) (by kernel_rfl) (fun _ _ _ h => h) (Or.inl ⟨by rfl, ?hyr4_0⟩) hS ?restr4_0
            case hyr4_0 =>
              intro w' hSw
              obtain ⟨s0, s1, s2⟩ := hSw
              go_simp
              try with_reducible rfl
            try simp only [Act.put, List.setIfInBounds_toArray, List.set_cons_zero, List.set_cons_succ]
            refine wpAnyT_take (i := 1) (oi := ⟨_, _, _, _, _, _⟩) (v := ?vr4_1) (by kernel_rfl) (by decide) rfl (by kernel_rfl) (by kernel_rfl) (by kernel_rfl) (fun _ _ _ h => h) (Or.inl ⟨by rfl, ?hyr4_1⟩) hS ?restr4_1
            case hyr4_1 =>
              intro w' hSw
              obtain ⟨s0, s1, s2⟩ := hSw
              go_simp
              try with_reducible rfl
            try simp only [Act.put, List.setIfInBounds_toArray, List.set_cons_zero, List.set_cons_succ]
            refine wpAnyT_take (i := 2) (oi := ⟨_, _, _, _, _, _⟩) (v := ?vr4_2) (by kernel_rfl) (by decide) rfl (by kernel_rfl) (by kernel_rfl) (by kernel_rfl) (fun _ _ _ h => h) (Or.inl ⟨by first | rfl | (show (some _ == some _) = true; simp; done) | (show (some _ == some _) = true; simp; omega), ?hyr4_2⟩) hS ?restr4_2
            case hyr4_2 =>
              intro w' hSw
              obtain ⟨s0, s1, s2⟩ := hSw
              go_simp
              try with_reducible rfl
            try simp only [Act.put, List.setIfInBounds_toArray, List.set_cons_zero, List.set_cons_succ]
            refine wpAnyT_take (i := 3) (oi := ⟨_, _, _, _, _, _⟩) (v := ?vr4_3) (by kernel_rfl) (by decide) rfl (by kernel_rfl) (by kernel_rfl) (by kernel_rfl) (fun _ _ _ h => h) (Or.inl ⟨by first | rfl | (show (some _ == some _) = true; simp; done) | (show (some _ == some _) = true; simp; omega), ?hyr4_3⟩) hS ?restr4_3
            case hyr4_3 =>
              intro w' hSw
              obtain ⟨s0, s1, s2⟩ := hSw
              go_simp
              try with_reducible rfl
            try simp only [Act.put, List.setIfInBounds_toArray, List.set_cons_zero, List.set_cons_succ]
            refine wpAnyT_take (i := 4) (oi := ⟨_, _, _, _, _, _⟩) (v := ?vr4_4) (by kernel_rfl) (by decide) rfl (by kernel_rfl) (by kernel_rfl) (by kernel_rfl) (fun _ _ _ h => h) (Or.inl ⟨by first | rfl | (show (some _ == some _) = true; simp; done) | (show (some _ == some _) = true; simp; omega), ?hyr4_4⟩) hS ?restr4_4
            case hyr4_4 =>
              intro w' hSw
              obtain ⟨s0, s1, s2⟩ := hSw
              go_simp
              try with_reducible rfl
            try simp only [Act.put, List.setIfInBounds_toArray, List.set_cons_zero, List.set_cons_succ]
            refine wpAnyT_take (i := 5) (oi := ⟨_, _, _, _, _, _⟩) (v := ?vr4_5) (by kernel_rfl) (by decide) rfl (by kernel_rfl) (by kernel_rfl) (by kernel_rfl) (fun _ _ _ h => h) (Or.inl ⟨by first | rfl | (show (some _ == some _) = true; simp; done) | (show (some _ == some _) = true; simp; omega), ?hyr4_5⟩) hS ?restr4_5
            case hyr4_5 =>
              intro w' hSw
              obtain ⟨s0, s1, s2⟩ := hSw
              go_simp
              try with_reducible rfl
            try simp only [Act.put, List.setIfInBounds_toArray, List.set_cons_zero, List.set_cons_succ]
            refine wpAnyT_take (i := 6) (oi := ⟨_, _, _, _, _, _⟩) (v := ?vr4_6) (by kernel_rfl) (by decide) rfl (by kernel_rfl) (by kernel_rfl) (by kernel_rfl) (fun _ _ _ h => h) (Or.inl ⟨by first | rfl | (show (some _ == some _) = true; simp; done) | (show (some _ == some _) = true; simp; omega), ?hyr4_6⟩) hS ?restr4_6
            case hyr4_6 =>
              intro w' hSw
              obtain ⟨s0, s1, s2⟩ := hSw
              go_simp
              try with_reducible rfl
            try simp only [Act.put, List.setIfInBounds_toArray, List.set_cons_zero, List.set_cons_succ]
            refine wpAnyT_take (i := 8) (oi := ⟨_, _, _, _, _, _⟩) (v := ?vr4_8) (by kernel_rfl) (by decide) rfl (by kernel_rfl) (by kernel_rfl) (by kernel_rfl) (fun _ _ _ h => h) (Or.inl ⟨by first | rfl | (show (some _ == some _) = true; simp; done) | (show (some _ == some _) = true; simp; omega), ?hyr4_8⟩) hS ?restr4_8
            case hyr4_8 =>
              intro w' hSw
              obtain ⟨s0, s1, s2⟩ := hSw
              go_simp
              try with_reducible rfl
            try simp only [Act.put, List.setIfInBounds_toArray, List.set_cons_zero, List.set_cons_succ]
            refine wpAnyT_take (i := 9) (oi := ⟨_, _, _, _, _, _⟩) (v := ?vr4_9) (by kernel_rfl) (by decide) rfl (by kernel_rfl) (by kernel_rfl) (by kernel_rfl) (fun _ _ _ h => h) (Or.inl ⟨by first | rfl | (show (some _ == some _) = true; simp; done) | (show (some _ == some _) = true; simp; omega), ?hyr4_9⟩) hS ?restr4_9
            case hyr4_9 =>
              intro w' hSw
              obtain ⟨s0, s1, s2⟩ := hSw
              go_simp
              try with_reducible rfl
            try simp only [Act.put, List.setIfInBounds_toArray, List.set_cons_zero, List.set_cons_succ]
            refine wpAnyT_take (i := 10) (oi := ⟨_, _, _, _, _, _⟩) (v := ?vr4_10) (by kernel_rfl) (by decide) rfl (by kernel_rfl) (by kernel_rfl) (by kernel_rfl) (fun _ _ _ h => h) (Or.inl ⟨by first | rfl | (show (some _ == some _) = true; simp; done) | (show (some _ == some _) = true; simp; omega), ?hyr4_10⟩) hS ?restr4_10
            case hyr4_10 =>
              intro w' hSw
              obtain ⟨s0, s1, s2⟩ := hSw
              go_simp
              try with_reducible rfl
            try simp only [Act.put, List.setIfInBounds_toArray, List.set_cons_zero, List.set_cons_succ]
            refine wpAnyT_take (i := 11) (oi := ⟨_, _, _, _, _, _⟩) (v := ?vr4_11) (by kernel_rfl) (by decide) rfl (by kernel_rfl) (by kernel_rfl) (by kernel_rfl) (fun _ _ _ h => h) (Or.inl ⟨by first | rfl | (show (some _ == some _) = true; simp; done) | (show (some _ == some _) = true; simp; omega), ?hyr4_11⟩) hS ?restr4_11
            case hyr4_11 =>
              intro w' hSw
              obtain ⟨s0, s1, s2⟩ := hSw
              go_simp
              try with_reducible rfl
            try simp only [Act.put, List.setIfInBounds_toArray, List.set_cons_zero, List.set_cons_succ]
            refine wpAnyT_ready1 (i := 7) (o := ⟨_, _, _, _, _, _⟩) (by kernel_rfl) rfl (fun KC_ hK => ?_)
            try rw [if_pos (by first | rfl | (show (some _ == some _) = true; simp; done) | (show (some _ == some _) = true; simp; omega))]
            go_simp
            go_at_call 108
            refine (I_FreesOf _ p _ K _ ⟨_, rfl, hP.keep hcur⟩).mono ?_
            rintro e w9 ⟨ya, rfl, hya, hb⟩
            have hcur := bthen hcur hb
            clear hb
            have hS := And.intro (cell_later hcur cP) (And.intro (cell_later hcur c2) (cell_later hcur c1))
            refine hK _ _ (fun _ => hS) ?_
            try simp only [Act.put, List.setIfInBounds_toArray, List.set_cons_zero, List.set_cons_succ]
            refine wpAnyT_ready1 (i := 12) (o := ⟨_, _, _, _, _, _⟩) (by kernel_rfl) rfl (fun KC_ hK => ?_)
            try rw [if_pos (by first | rfl | (show (some _ == some _) = true; simp; done) | (show (some _ == some _) = true; simp; omega))]
            go_simp
            go_at_call 45
            refine (L_isIn ya _ _ X _ hya).mono ?_
            rintro e w' ⟨rfl, rfl⟩
            rw [← HY.out]
            refine hK _ _ (fun _ => hS) ?_
            try simp only [Act.put, List.setIfInBounds_toArray, List.set_cons_zero, List.set_cons_succ]
            refine wpAnyT_take (i := 13) (oi := ⟨_, _, _, _, _, _⟩) (v := ?vr4_13) (by kernel_rfl) (by decide) rfl (by kernel_rfl) (by kernel_rfl) (by kernel_rfl) (fun _ _ _ h => h) (Or.inl ⟨by rfl, ?hyr4_13⟩) hS ?restr4_13
            case hyr4_13 =>
              intro w' hSw
              obtain ⟨s0, s1, s2⟩ := hSw
              go_simp
              try with_reducible rfl
            try simp only [Act.put, List.setIfInBounds_toArray, List.set_cons_zero, List.set_cons_succ]
            refine wpAnyT_take (i := 14) (oi := ⟨_, _, _, _, _, _⟩) (v := ?vr4_14) (by kernel_rfl) (by decide) rfl (by kernel_rfl) (by kernel_rfl) (by kernel_rfl) (fun _ _ _ h => h) (Or.inl ⟨by rfl, ?hyr4_14⟩) hS ?restr4_14
            case hyr4_14 =>
              intro w' hSw
              obtain ⟨s0, s1, s2⟩ := hSw
              go_simp
              try with_reducible rfl
            try simp only [Act.put, List.setIfInBounds_toArray, List.set_cons_zero, List.set_cons_succ]
            refine wpAnyT_done (by kernel_rfl) ?_ _
            have hb := hcur
            clear hcur hS
            replace cP := cell_later hb cP
            replace d0 := cell_later hb d0
            replace d1 := cell_later hb d1
            replace d2 := cell_later hb d2
            replace d3 := cell_later hb d3
            replace c1 := cell_later hb c1
            replace c2 := cell_later hb c2
            replace hP := hP.keep hb
            replace hu := hu.keep hb
            replace ht := ht.keep hb
            replace hy := hy.keep hb
            replace hpv := hpv.keep hb
            replace hbv := hbv.keep hb
            replace hB := bthen hB hb
            replace hBik := bthen hBik hb
            replace hBij := bthen hBij hb
            clear hb
            go_wp2
            go_roundw
            case rel => exact ⟨j + 1, by omega, by go_num, hBij, by rw [HSU.out, HME.out, HY.out]; rfl⟩
            case measure => simp [intOf]; omega
          have HME := Lib.hid hme
          clear hme
          go_wp2
          have hb := (below0 wr).drew
          replace cP := cell_later hb cP
          replace d0 := cell_later hb d0
          replace d1 := cell_later hb d1
          replace d2 := cell_later hb d2
          replace d3 := cell_later hb d3
          replace c1 := cell_later hb c1
          replace c2 := cell_later hb c2
          replace hP := hP.keep hb
          replace hu := hu.keep hb
          replace ht := ht.keep hb
          replace hy := hy.keep hb
          replace hpv := hpv.keep hb
          replace hbv := hbv.keep hb
          replace hB := bthen hB hb
          replace hBik := bthen hBik hb
          replace hBij := bthen hBij hb
          clear hb
          have hcur := below0 (wr).drew
          have hS := And.intro (cP) (And.intro (c2) (c1))
          refine wp_region_T 15 (by kernel_rfl) (fun w' => w'.cell? ⟨PB, 0, none⟩ = some (.slice (some ⟨ga, 0, none⟩) p.length Cp) ∧ w'.cell? ⟨yg, j, none⟩ = some (.int .i64 K) ∧ w'.cell? ⟨ug, k, none⟩ = some (.int .i64 X)) ?_
          refine wpAnyT_take (i := 0) (oi := ⟨_, _, _, _, _, _⟩) (v := ?vr5_0) (by kernel_rfl) (by decide) rfl (by kernel_rfl) (by kernel_rfl) (by kernel_rfl) (fun _ _ _ h => h) (Or.inl ⟨by rfl, ?hyr5_0⟩) hS ?restr5_0
          case hyr5_0 =>
            intro w' hSw
            obtain ⟨s0, s1, s2⟩ := hSw
            go_simp
            try with_reducible rfl
          try simp only [Act.put, List.setIfInBounds_toArray, List.set_cons_zero, List.set_cons_succ]
          refine wpAnyT_take (i := 1) (oi := ⟨_, _, _, _, _, _⟩) (v := ?vr5_1) (by kernel_rfl) (by decide) rfl (by kernel_rfl) (by kernel_rfl) (by kernel_rfl) (fun _ _ _ h => h) (Or.inl ⟨by rfl, ?hyr5_1⟩) hS ?restr5_1
          case hyr5_1 =>
            intro w' hSw
            obtain ⟨s0, s1, s2⟩ := hSw
            go_simp
            try with_reducible rfl
          try simp only [Act.put, List.setIfInBounds_toArray, List.set_cons_zero, List.set_cons_succ]
          refine wpAnyT_take (i := 2) (oi := ⟨_, _, _, _, _, _⟩) (v := undef) (by kernel_rfl) (by decide) rfl (by kernel_rfl) (by kernel_rfl) (by kernel_rfl) (fun _ _ _ h => h) (Or.inr ⟨by first | rfl | (show (some _ == some _) = false; simp; done) | (show (some _ == some _) = false; simp; omega), rfl⟩) hS ?restr5_2
          try simp only [Act.put, List.setIfInBounds_toArray, List.set_cons_zero, List.set_cons_succ]
          refine wpAnyT_take (i := 3) (oi := ⟨_, _, _, _, _, _⟩) (v := undef) (by kernel_rfl) (by decide) rfl (by kernel_rfl) (by kernel_rfl) (by kernel_rfl) (fun _ _ _ h => h) (Or.inr ⟨by first | rfl | (show (some _ == some _) = false; simp; done) | (show (some _ == some _) = false; simp; omega), rfl⟩) hS ?restr5_3
          try simp only [Act.put, List.setIfInBounds_toArray, List.set_cons_zero, List.set_cons_succ]
          refine wpAnyT_take (i := 4) (oi := ⟨_, _, _, _, _, _⟩) (v := undef) (by kernel_rfl) (by decide) rfl (by kernel_rfl) (by kernel_rfl) (by kernel_rfl) (fun _ _ _ h => h) (Or.inr ⟨by first | rfl | (show (some _ == some _) = false; simp; done) | (show (some _ == some _) = false; simp; omega), rfl⟩) hS ?restr5_4
          try simp only [Act.put, List.setIfInBounds_toArray, List.set_cons_zero, List.set_cons_succ]
          refine wpAnyT_take (i := 5) (oi := ⟨_, _, _, _, _, _⟩) (v := undef) (by kernel_rfl) (by decide) rfl (by kernel_rfl) (by kernel_rfl) (by kernel_rfl) (fun _ _ _ h => h) (Or.inr ⟨by first | rfl | (show (some _ == some _) = false; simp; done) | (show (some _ == some _) = false; simp; omega), rfl⟩) hS ?restr5_5
          try simp only [Act.put, List.setIfInBounds_toArray, List.set_cons_zero, List.set_cons_succ]
          refine wpAnyT_take (i := 6) (oi := ⟨_, _, _, _, _, _⟩) (v := undef) (by kernel_rfl) (by decide) rfl (by kernel_rfl) (by kernel_rfl) (by kernel_rfl) (fun _ _ _ h => h) (Or.inr ⟨by first | rfl | (show (some _ == some _) = false; simp; done) | (show (some _ == some _) = false; simp; omega), rfl⟩) hS ?restr5_6
          try simp only [Act.put, List.setIfInBounds_toArray, List.set_cons_zero, List.set_cons_succ]
          refine wpAnyT_take (i := 8) (oi := ⟨_, _, _, _, _, _⟩) (v := undef) (by kernel_rfl) (by decide) rfl (by kernel_rfl) (by kernel_rfl) (by kernel_rfl) (fun _ _ _ h => h) (Or.inr ⟨by first | rfl | (show (some _ == some _) = false; simp; done) | (show (some _ == some _) = false; simp; omega), rfl⟩) hS ?restr5_8
          try simp only [Act.put, List.setIfInBounds_toArray, List.set_cons_zero, List.set_cons_succ]
          refine wpAnyT_take (i := 9) (oi := ⟨_, _, _, _, _, _⟩) (v := undef) (by kernel_rfl) (by decide) rfl (by kernel_rfl) (by kernel_rfl) (by kernel_rfl) (fun _ _ _ h => h) (Or.inr ⟨by first | rfl | (show (some _ == some _) = false; simp; done) | (show (some _ == some _) = false; simp; omega), rfl⟩) hS ?restr5_9
          try simp only [Act.put, List.setIfInBounds_toArray, List.set_cons_zero, List.set_cons_succ]
          refine wpAnyT_take (i := 10) (oi := ⟨_, _, _, _, _, _⟩) (v := undef) (by kernel_rfl) (by decide) rfl (by kernel_rfl) (by kernel_rfl) (by kernel_rfl) (fun _ _ _ h => h) (Or.inr ⟨by first | rfl | (show (some _ == some _) = false; simp; done) | (show (some _ == some _) = false; simp; omega), rfl⟩) hS ?restr5_10
          try simp only [Act.put, List.setIfInBounds_toArray, List.set_cons_zero, List.set_cons_succ]
          refine wpAnyT_take (i := 11) (oi := ⟨_, _, _, _, _, _⟩) (v := undef) (by kernel_rfl) (by decide) rfl (by kernel_rfl) (by kernel_rfl) (by kernel_rfl) (fun _ _ _ h => h) (Or.inr ⟨by first | rfl | (show (some _ == some _) = false; simp; done) | (show (some _ == some _) = false; simp; omega), rfl⟩) hS ?restr5_11
          try simp only [Act.put, List.setIfInBounds_toArray, List.set_cons_zero, List.set_cons_succ]
          refine wpAnyT_ready1 (i := 7) (o := ⟨_, _, _, _, _, _⟩) (by kernel_rfl) rfl (fun KC_ hK => ?_)
          go_simp
          refine hK _ _ (fun _ => hS) ?_
          try simp only [Act.put, List.setIfInBounds_toArray, List.set_cons_zero, List.set_cons_succ]
          refine wpAnyT_ready1 (i := 12) (o := ⟨_, _, _, _, _, _⟩) (by kernel_rfl) rfl (fun KC_ hK => ?_)
          go_simp
          refine hK _ _ (fun _ => hS) ?_
          try simp only [Act.put, List.setIfInBounds_toArray, List.set_cons_zero, List.set_cons_succ]
          refine wpAnyT_take (i := 13) (oi := ⟨_, _, _, _, _, _⟩) (v := ?vr5_13) (by kernel_rfl) (by decide) rfl (by kernel_rfl) (by kernel_rfl) (by kernel_rfl) (fun _ _ _ h => h) (Or.inl ⟨by rfl, ?hyr5_13⟩) hS ?restr5_13
          case hyr5_13 =>
            intro w' hSw
            obtain ⟨s0, s1, s2⟩ := hSw
            go_simp
            try with_reducible rfl
          try simp only [Act.put, List.setIfInBounds_toArray, List.set_cons_zero, List.set_cons_succ]
          refine wpAnyT_take (i := 14) (oi := ⟨_, _, _, _, _, _⟩) (v := ?vr5_14) (by kernel_rfl) (by decide) rfl (by kernel_rfl) (by kernel_rfl) (by kernel_rfl) (fun _ _ _ h => h) (Or.inl ⟨by rfl, ?hyr5_14⟩) hS ?restr5_14
          case hyr5_14 =>
            intro w' hSw
            obtain ⟨s0, s1, s2⟩ := hSw
            go_simp
            try with_reducible rfl
          try simp only [Act.put, List.setIfInBounds_toArray, List.set_cons_zero, List.set_cons_succ]
          refine wpAnyT_done (by kernel_rfl) ?_ _
          have hb := hcur
          clear hcur hS
          replace cP := cell_later hb cP
          replace d0 := cell_later hb d0
          replace d1 := cell_later hb d1
          replace d2 := cell_later hb d2
          replace d3 := cell_later hb d3
          replace c1 := cell_later hb c1
          replace c2 := cell_later hb c2
          replace hP := hP.keep hb
          replace hu := hu.keep hb
          replace ht := ht.keep hb
          replace hy := hy.keep hb
          replace hpv := hpv.keep hb
          replace hbv := hbv.keep hb
          replace hB := bthen hB hb
          replace hBik := bthen hBik hb
          replace hBij := bthen hBij hb
          clear hb
          go_wp2
          go_roundw
          case rel => exact ⟨j + 1, by omega, by go_num, hBij, by rw [HSU.out, HME.out]; rfl⟩
          case measure => simp [intOf]; omega
        obtain rfl : j = (rKids p kb).length := by omega
        have hme : metTo p (rKids p kb) X (rKids p kb).length = true := metTo_all HEX.out
        rw [hme]
        go_wp2
        have hb := (below0 wr).drew
        replace cP := cell_later hb cP
        replace d0 := cell_later hb d0
        replace d1 := cell_later hb d1
        replace d2 := cell_later hb d2
        replace d3 := cell_later hb d3
        replace c1 := cell_later hb c1
        replace hP := hP.keep hb
        replace hu := hu.keep hb
        replace ht := ht.keep hb
        replace hy := hy.keep hb
        replace hpv := hpv.keep hb
        replace hbv := hbv.keep hb
        replace hB := bthen hB hb
        replace hBik := bthen hBik hb
        clear hb
        have hcur := below0 (wr).drew
        have hS := And.intro (cP) (c1)
        refine wp_region_T 12 (by kernel_rfl) (fun w' => w'.cell? ⟨PB, 0, none⟩ = some (.slice (some ⟨ga, 0, none⟩) p.length Cp) ∧ w'.cell? ⟨ug, k, none⟩ = some (.int .i64 X)) ?_
        refine wpAnyT_take (i := 0) (oi := ⟨_, _, _, _, _, _⟩) (v := ?vr6_0) (by kernel_rfl) (by decide) rfl (by kernel_rfl) (by kernel_rfl) (by kernel_rfl) (fun _ _ _ h => h) (Or.inl ⟨by rfl, ?hyr6_0⟩) hS ?restr6_0
        case hyr6_0 =>
          intro w' hSw
          obtain ⟨s0, s1⟩ := hSw
          go_simp
          try with_reducible rfl
        try simp only [Act.put, List.setIfInBounds_toArray, List.set_cons_zero, List.set_cons_succ]
        refine wpAnyT_take (i := 1) (oi := ⟨_, _, _, _, _, _⟩) (v := ?vr6_1) (by kernel_rfl) (by decide) rfl (by kernel_rfl) (by kernel_rfl) (by kernel_rfl) (fun _ _ _ h => h) (Or.inl ⟨by rfl, ?hyr6_1⟩) hS ?restr6_1
        case hyr6_1 =>
          intro w' hSw
          obtain ⟨s0, s1⟩ := hSw
          go_simp
          try with_reducible rfl
        try simp only [Act.put, List.setIfInBounds_toArray, List.set_cons_zero, List.set_cons_succ]
        refine wpAnyT_take (i := 2) (oi := ⟨_, _, _, _, _, _⟩) (v := ?vr6_2) (by kernel_rfl) (by decide) rfl (by kernel_rfl) (by kernel_rfl) (by kernel_rfl) (fun _ _ _ h => h) (Or.inl ⟨by rfl, ?hyr6_2⟩) hS ?restr6_2
        case hyr6_2 =>
          intro w' hSw
          obtain ⟨s0, s1⟩ := hSw
          go_simp
          try with_reducible rfl
        try simp only [Act.put, List.setIfInBounds_toArray, List.set_cons_zero, List.set_cons_succ]
        refine wpAnyT_take (i := 3) (oi := ⟨_, _, _, _, _, _⟩) (v := ?vr6_3) (by kernel_rfl) (by decide) rfl (by kernel_rfl) (by kernel_rfl) (by kernel_rfl) (fun _ _ _ h => h) (Or.inl ⟨by first | rfl | (show (some _ == some _) = true; simp; done) | (show (some _ == some _) = true; simp; omega), ?hyr6_3⟩) hS ?restr6_3
        case hyr6_3 =>
          intro w' hSw
          obtain ⟨s0, s1⟩ := hSw
          go_simp
          try with_reducible rfl
        try simp only [Act.put, List.setIfInBounds_toArray, List.set_cons_zero, List.set_cons_succ]
        refine wpAnyT_take (i := 4) (oi := ⟨_, _, _, _, _, _⟩) (v := ?vr6_4) (by kernel_rfl) (by decide) rfl (by kernel_rfl) (by kernel_rfl) (by kernel_rfl) (fun _ _ _ h => h) (Or.inl ⟨by first | rfl | (show (some _ == some _) = true; simp; done) | (show (some _ == some _) = true; simp; omega), ?hyr6_4⟩) hS ?restr6_4
        case hyr6_4 =>
          intro w' hSw
          obtain ⟨s0, s1⟩ := hSw
          go_simp
          try with_reducible rfl
        try simp only [Act.put, List.setIfInBounds_toArray, List.set_cons_zero, List.set_cons_succ]
        refine wpAnyT_take (i := 5) (oi := ⟨_, _, _, _, _, _⟩) (v := ?vr6_5) (by kernel_rfl) (by decide) rfl (by kernel_rfl) (by kernel_rfl) (by kernel_rfl) (fun _ _ _ h => h) (Or.inl ⟨by first | rfl | (show (some _ == some _) = true; simp; done) | (show (some _ == some _) = true; simp; omega), ?hyr6_5⟩) hS ?restr6_5
        case hyr6_5 =>
          intro w' hSw
          obtain ⟨s0, s1⟩ := hSw
          go_simp
          try with_reducible rfl
        try simp only [Act.put, List.setIfInBounds_toArray, List.set_cons_zero, List.set_cons_succ]
        refine wpAnyT_take (i := 6) (oi := ⟨_, _, _, _, _, _⟩) (v := ?vr6_6) (by kernel_rfl) (by decide) rfl (by kernel_rfl) (by kernel_rfl) (by kernel_rfl) (fun _ _ _ h => h) (Or.inl ⟨by first | rfl | (show (some _ == some _) = true; simp; done) | (show (some _ == some _) = true; simp; omega), ?hyr6_6⟩) hS ?restr6_6
        case hyr6_6 =>
          intro w' hSw
          obtain ⟨s0, s1⟩ := hSw
          go_simp
          try with_reducible rfl
        try simp only [Act.put, List.setIfInBounds_toArray, List.set_cons_zero, List.set_cons_succ]
        refine wpAnyT_take (i := 7) (oi := ⟨_, _, _, _, _, _⟩) (v := ?vr6_7) (by kernel_rfl) (by decide) rfl (by kernel_rfl) (by kernel_rfl) (by kernel_rfl) (fun _ _ _ h => h) (Or.inl ⟨by first | rfl | (show (some _ == some _) = true; simp; done) | (show (some _ == some _) = true; simp; omega), ?hyr6_7⟩) hS ?restr6_7
        case hyr6_7 =>
          intro w' hSw
          obtain ⟨s0, s1⟩ := hSw
          go_simp
          try with_reducible rfl
        try simp only [Act.put, List.setIfInBounds_toArray, List.set_cons_zero, List.set_cons_succ]
        refine wpAnyT_take (i := 8) (oi := ⟨_, _, _, _, _, _⟩) (v := ?vr6_8) (by kernel_rfl) (by decide) rfl (by kernel_rfl) (by kernel_rfl) (by kernel_rfl) (fun _ _ _ h => h) (Or.inl ⟨by first | rfl | (show (some _ == some _) = true; simp; done) | (show (some _ == some _) = true; simp; omega), ?hyr6_8⟩) hS ?restr6_8
        case hyr6_8 =>
          intro w' hSw
          obtain ⟨s0, s1⟩ := hSw
          go_simp
          try with_reducible rfl
        try simp only [Act.put, List.setIfInBounds_toArray, List.set_cons_zero, List.set_cons_succ]
        refine wpAnyT_ready1 (i := 9) (o := ⟨_, _, _, _, _, _⟩) (by kernel_rfl) rfl (fun KC_ hK => ?_)
        try rw [if_pos (by first | rfl | (show (some _ == some _) = true; simp; done) | (show (some _ == some _) = true; simp; omega))]
        go_simp
        go_at_call 75
        refine (I_LocalIn _ p _ kb X _ ⟨_, rfl, hP.keep hcur⟩).mono ?_
        rintro e w10 ⟨rfl, hb⟩
        rw [HLOC.out]
        have hcur := bthen hcur hb
        clear hb
        have hS := And.intro (cell_later hcur cP) (cell_later hcur c1)
        refine hK _ _ (fun _ => hS) ?_
        try simp only [Act.put, List.setIfInBounds_toArray, List.set_cons_zero, List.set_cons_succ]
        refine wpAnyT_take (i := 10) (oi := ⟨_, _, _, _, _, _⟩) (v := ?vr6_10) (by kernel_rfl) (by decide) rfl (by kernel_rfl) (by kernel_rfl) (by kernel_rfl) (fun _ _ _ h => h) (Or.inl ⟨by first | rfl | (show (some _ == some _) = true; simp; done) | (show (some _ == some _) = true; simp; omega), ?hyr6_10⟩) hS ?restr6_10
        case hyr6_10 =>
          intro w' hSw
          obtain ⟨s0, s1⟩ := hSw
          go_simp
          try with_reducible rfl
        try simp only [Act.put, List.setIfInBounds_toArray, List.set_cons_zero, List.set_cons_succ]
        refine wpAnyT_take (i := 11) (oi := ⟨_, _, _, _, _, _⟩) (v := ?vr6_11) (by kernel_rfl) (by decide) rfl (by kernel_rfl) (by kernel_rfl) (by kernel_rfl) (fun _ _ _ h => h) (Or.inl ⟨by rfl, ?hyr6_11⟩) hS ?restr6_11
        case hyr6_11 =>
          intro w' hSw
          obtain ⟨s0, s1⟩ := hSw
          go_simp
          try with_reducible rfl
        try simp only [Act.put, List.setIfInBounds_toArray, List.set_cons_zero, List.set_cons_succ]
        refine wpAnyT_done (by kernel_rfl) ?_ _
        have hb := hcur
        clear hcur hS
        replace cP := cell_later hb cP
        replace d0 := cell_later hb d0
        replace d1 := cell_later hb d1
        replace d2 := cell_later hb d2
        replace d3 := cell_later hb d3
        replace c1 := cell_later hb c1
        replace hP := hP.keep hb
        replace hu := hu.keep hb
        replace ht := ht.keep hb
        replace hy := hy.keep hb
        replace hpv := hpv.keep hb
        replace hbv := hbv.keep hb
        replace hB := bthen hB hb
        replace hBik := bthen hBik hb
        clear hb
        go_wp2
        go_roundw
        case rel => exact ⟨k + 1, by omega, by go_num, hBik⟩
        case measure => simp [intOf]; omega
    obtain rfl : k = (rCells p kb).length := by omega
    go_wp2_with fail
    refine (L_ascends _ _ _ _ hu HASC.out).mono ?_
    rintro e w11 ⟨rfl, hb⟩
    replace cP := cell_later hb cP
    replace d0 := cell_later hb d0
    replace d1 := cell_later hb d1
    replace d2 := cell_later hb d2
    replace d3 := cell_later hb d3
    replace hP := hP.keep hb
    replace hu := hu.keep hb
    replace ht := ht.keep hb
    replace hy := hy.keep hb
    replace hpv := hpv.keep hb
    replace hbv := hbv.keep hb
    replace hB := bthen hB hb
    clear hb
    go_wp2
    go_ret
    exact ⟨rfl, hB⟩

theorem own : ownKnob Try.prog.godebug = none := by kernel_rfl
theorem laidOut : laidOutB Try.prog = true := by kernel_rfl

set_option maxRecDepth 100000 in
theorem lifted (os : Os) (started : os.Started) (H : Type) (enc : TypeId × Value → H) :
    ReturnsInHanded {} Try.checked os 25 .any (Rows.fnCellsOfSpec.pre6 enc Try.prog Try.f25 Rows.fnCellsOfRow.domain false) (Rows.fnCellsOfSpec.post enc Try.prog Try.f25 false true false false) := by
  refine returnsInHanded_of_change (C := Try.checked) own started (by kernel_rfl) Try.func25
    (ChangeSpec.witness6 (enc := enc) (C := Try.checked) false ⟨#[], #[.slice none 0 0], []⟩ 8 (by kernel_rfl) (by kernel_rfl) (by kernel_rfl) (by kernel_rfl)) ?_
  intro W base args ds gs before hval0 hW hcnd _
  have hval : ∀ (j : Nat) t v, Try.f25.params[j]? = some t → args[j]? = some v → Value.okWide Try.prog W .any base t v := hval0
  have hW' := hW
  obtain ⟨p, q, hA0, hV, rfl, hfz, hnd⟩ := hW
  have hA : DataW.TrodAll enc Try.prog W 0 (fun _ => true) true Try.f25.params.toList args.toList ds p := hA0
  rw [Try.params25] at hA hval
  obtain ⟨v0, d0, rfl, rfl, h0⟩ := trodAll_one hA
  obtain ⟨rfl, rfl⟩ := trodVars_none hV
  clear hA0 hval0
  simp only [List.append_nil] at hW'
  have hlt : ∀ x ∈ p, x.block < W.heap.size := fun x hx => hW'.lt x hx
  obtain ⟨q0, hq0⟩ := open_obytes (hval 0 22 v0 rfl rfl) h0
  refine (walk v0 q0 W hq0).mono fun e W' ⟨he, hb⟩ => ?_
  subst he
  exact ⟨_, rfl, post_of_below (pa := _) (pv := []) hW' (fun _ _ _ => (trodAll_cons_mk (shut_bool Try.underlying4 _) trodAll_mk0)) (fun sp hsp => (trodAll_cons_mk (WideElems.Trod_stays laidOut (by kernel_rfl) (of_decide_eq_true (by kernel_rfl)) h0 (fun x hx => hb.same (hlt x (hx))) (fun x hx => hsp x (hx))) trodAll_mk0)) (fun _ _ => rfl) (by simp)
    hb (ok_one (by kernel_rfl) rfl (okWide_bool_mk Try.underlying4 _))⟩

theorem closed : joinedFacts Try.pinned.checked.prog 25 Try.f25 Rows.fnCellsOfSpec Rows.fnCellsOfRow = true := by
  show joinedFacts Try.prog 25 Try.f25 Rows.fnCellsOfSpec Rows.fnCellsOfRow = true
  unfold joinedFacts
  rw [may_enter, lifts_not, make_cut]
  kernel_rfl

theorem over : Rows.fnCellsOfRow.holds Try.pinned (OpenSpec.ofChange Rows.fnCellsOfSpec) :=
  OpenClaim.holds_of_wide 25 Try.f25 rfl rfl rfl rfl rfl rfl rfl ⟨rfl, rfl, rfl, rfl, rfl⟩ rfl rfl rfl rfl rfl (by kernel_rfl) Try.func25 closed
    (of_decide_eq_true (by kernel_rfl)) (by unfold Func.isWrapper; first | (rw [if_pos (by decide +kernel)]; kernel_rfl) | (rw [if_neg (by decide +kernel)]; exact ⟨rfl, rfl⟩))
    (fun os started H enc _ => lifted os started H enc)

theorem proved : Rows.FnCellsOfSaid := over
#print axioms proved
end Go.Proofs.Ytklikpcfmmpocaa.cellsOf
