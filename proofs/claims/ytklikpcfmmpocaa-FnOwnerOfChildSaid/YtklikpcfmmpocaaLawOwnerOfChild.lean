/-
  The law FnOwnerOfChild: for every input it answers true and leaves its argument as it was. No condition.
-/
import Derived.Test.YtklikpcfmmpocaaFrame
import Derived.Test.YtklikpcfmmpocaaFacts
import Derived.Test.YtklikpcfmmpocaaDwA
import Derived.Test.YtklikpcfmmpocaaDwD
import Derived.Test.YtklikpcfmmpocaaImpl9
import Derived.Test.YtklikpcfmmpocaaDwM
namespace Go.Proofs.Ytklikpcfmmpocaa.ownerOfChild
open Go.ChangeShapes Go.WideShapes Go.ChangeAt Go.RowKit
set_option linter.unusedVariables false

set_option maxRecDepth 100000 in
set_option maxHeartbeats 1000000 in
theorem walk (v : Value) (l : List Int) (w : World) (hv : OBytes w v l) :
    Calls Try.prog 16 #[v] w fun e w' => e = .returned (.bool true) ∧ Below w.heap.size w w' := by
  have HV := Lib.hid hv
  obtain ⟨⟨A, C, b', o, rfl, hn, hc, _, _⟩, _⟩ := hv
  unfold maxLen at hc
  by_cases hbig : 1048576 < l.length
  · go_enter Try.func16, Try.ntmps16
    go_wp2
    go_ret
    exact ⟨rfl, Below.refl _ _⟩
  have hl : l.length ≤ 1048576 := by omega
  go_enter Try.func16, Try.ntmps16
  go_wp2_with fail
  refine (S_DrawOwnerOf _ l _ HV.out hl).mono ?_
  rintro e w1 ⟨sl, xs, p, b, x, rfl, hrow, hp, hB⟩
  clear HV hbig hl hc hn
  obtain ⟨ga, Cp, rfl, _, hCp, _, _, _, _⟩ := PRowX.rd hrow (by omega)
  unfold maxLen at hCp
  obtain ⟨PB, hPB⟩ : ∃ PB : Nat, PB = w1.heap.size := ⟨_, rfl⟩
  obtain ⟨W, hW⟩ : ∃ W : World, W = w1.alloc (.cells #[.slice (some ⟨ga, 0, none⟩) p.length Cp] 30) := ⟨_, rfl⟩
  have hB : Below w.heap.size w W := by rw [hW]; exact bal hB _
  have hP : Blks W w.heap.size (.slice (some ⟨ga, 0, none⟩) p.length Cp) p := by rw [hW]; exact (PRowX.blks hrow).keep al1
  have cP : W.cell? ⟨PB, 0, none⟩ = some (.slice (some ⟨ga, 0, none⟩) p.length Cp) := by rw [hW, hPB]; simp [go_sem]
  have HPB := Lib.hid hPB
  have HW := Lib.hid hW
  clear hPB hW hrow
  obtain ⟨R, hR⟩ : ∃ R : Int, R = rOwner p b x := ⟨_, rfl⟩
  have HR := Lib.hid hR
  clear hR
  have hne : (R != R) = false := by simp
  go_wp2_with fail
  rw [← HPB.out, ← HW.out]
  clear HPB HW
  refine (I_OwnerOf _ p _ b x _ ⟨_, rfl, hP⟩).mono ?_
  rintro e w2 ⟨rfl, hb⟩
  rw [← HR.out]
  replace cP := cell_later hb cP
  replace hP := hP.keep hb
  replace hB := bthen hB hb
  clear hb
  by_cases h2 : R = -2
  · subst h2
    go_wp2_with fail
    refine (S_OwnerOf _ p _ b x _ ⟨_, rfl, hP⟩).mono ?_
    rintro e w3 ⟨rfl, hb⟩
    rw [← HR.out]
    replace cP := cell_later hb cP
    replace hP := hP.keep hb
    replace hB := bthen hB hb
    clear hb
    go_wp2_with fail
    refine (S_OwnerOf _ p _ b x _ ⟨_, rfl, hP⟩).mono ?_
    rintro e w4 ⟨rfl, hb⟩
    rw [← HR.out]
    replace cP := cell_later hb cP
    replace hP := hP.keep hb
    replace hB := bthen hB hb
    clear hb
    go_wp2
    go_ret
    exact ⟨rfl, hB⟩
  have hq2 : (R == -2) = false := by rw [beq_eq_false_iff_ne]; exact h2
  have HN := Lib.hid (show rOwner p b x ≠ -2 by rw [← HR.out]; exact h2)
  obtain ⟨hvb, _, _⟩ := owner_valid HN.out
  obtain ⟨_, hb0, hb1⟩ := validB_iff.1 hvb
  have hr0 : ¬ b < 0 := by omega
  have hr1 : ¬ b ≥ (p.length : Int) := by omega
  clear hvb h2
  obtain ⟨kb, rfl⟩ := Int.eq_ofNat_of_zero_le hb0
  have ebk : p.bk (kb : Int) = p.getD kb default := by show p.getD (kb : Int).toNat default = _; rw [Int.toNat_natCast]
  obtain ⟨A', C', g', e', _, _, hA', _, hcell, _⟩ := hP.rd
  obtain rfl := hA' (by omega)
  obtain ⟨rfl, rfl⟩ : ga = g' ∧ Cp = C' := by simpa using e'
  obtain ⟨pv, bv, d0, d1, d2, d3, hpv, hbv⟩ := hcell kb (by omega)
  rw [← ebk] at d0 d1 hpv hbv
  clear hcell e' hA' ebk
  by_cases hk1 : (p.bk (kb : Int)).kind = 1
  case neg =>
    have hkb : ((p.bk (kb : Int)).kind != 1) = true := by rw [bne_iff_ne]; exact hk1
    go_wp2_with fail
    refine (S_OwnerOf _ p _ kb x _ ⟨_, rfl, hP⟩).mono ?_
    rintro e w5 ⟨rfl, hb⟩
    rw [← HR.out]
    replace cP := cell_later hb cP
    replace d0 := cell_later hb d0
    replace d1 := cell_later hb d1
    replace d2 := cell_later hb d2
    replace d3 := cell_later hb d3
    replace hP := hP.keep hb
    replace hpv := hpv.keep hb
    replace hbv := hbv.keep hb
    replace hB := bthen hB hb
    clear hb
    go_wp2_with fail
    refine (S_OwnerOf _ p _ kb x _ ⟨_, rfl, hP⟩).mono ?_
    rintro e w6 ⟨rfl, hb⟩
    rw [← HR.out]
    replace cP := cell_later hb cP
    replace d0 := cell_later hb d0
    replace d1 := cell_later hb d1
    replace d2 := cell_later hb d2
    replace d3 := cell_later hb d3
    replace hP := hP.keep hb
    replace hpv := hpv.keep hb
    replace hbv := hbv.keep hb
    replace hB := bthen hB hb
    clear hb
    go_wp2
    go_ret
    exact ⟨rfl, hB⟩
  have HK1 := Lib.hid hk1
  rw [hk1] at d0
  clear hk1
  go_wp2_with fail
  refine (S_OwnerOf _ p _ kb x _ ⟨_, rfl, hP⟩).mono ?_
  rintro e w7 ⟨rfl, hb⟩
  rw [← HR.out]
  replace cP := cell_later hb cP
  replace d0 := cell_later hb d0
  replace d1 := cell_later hb d1
  replace d2 := cell_later hb d2
  replace d3 := cell_later hb d3
  replace hP := hP.keep hb
  replace hpv := hpv.keep hb
  replace hbv := hbv.keep hb
  replace hB := bthen hB hb
  clear hb
  have hlen := rKids_len p kb
  go_wp2_with fail
  refine (I_ChildrenOf _ p _ kb _ ⟨_, rfl, hP⟩).mono ?_
  rintro e w8 ⟨y, rfl, hy, hb⟩
  replace cP := cell_later hb cP
  replace d0 := cell_later hb d0
  replace d1 := cell_later hb d1
  replace d2 := cell_later hb d2
  replace d3 := cell_later hb d3
  replace hP := hP.keep hb
  replace hpv := hpv.keep hb
  replace hbv := hbv.keep hb
  replace hB := bthen hB hb
  clear hb
  obtain ⟨yA, yC, yg, ye, _, yc, yh, yl, ycell, _⟩ := hy.rd
  unfold maxLen at yc
  have Hyc := Lib.hid ycell
  clear ycell
  subst ye
  go_wp2
  go_loopw [8] (fun i wi => ∃ k : Nat, k ≤ (rKids p kb).length ∧ i = .int .i64 k ∧ Below w8.heap.size w8 wi) (fun i _ => (rKids p kb).length - (intOf i).toNat)
  case atStart => exact ⟨0, Nat.zero_le _, rfl, below0 _⟩
  case round =>
    obtain ⟨k, hk, rfl, hb⟩ := hrel
    have hBik := hb
    replace cP := cell_later hb cP
    replace d0 := cell_later hb d0
    replace d1 := cell_later hb d1
    replace d2 := cell_later hb d2
    replace d3 := cell_later hb d3
    replace hP := hP.keep hb
    replace hpv := hpv.keep hb
    replace hbv := hbv.keep hb
    replace hy := hy.keep hb
    replace hB := bthen hB hb
    clear hb
    by_cases hltk : k < (rKids p kb).length
    · skip
      have c1 := cell_later hBik (Hyc.out k hltk)
      obtain rfl := yh (by omega)
      have hkid : (rKids p kb).getD k 0 ∈ rKids p kb := by rw [show (rKids p kb).getD k 0 = (rKids p kb)[k] by simp [List.getD, hltk]]; exact List.getElem_mem _
      generalize (rKids p kb).getD k 0 = K at *
      have HKID := Lib.hid hkid
      clear hkid
      have hkk0 : (0 : Int) ≤ (k : Int) := by omega
      have hkk1 : (k : Int) < ((rKids p kb).length : Int) := by omega
      cases hbd : hasF (rBound p K) x
      case true =>
        have HBD := Lib.hid hbd
        clear hbd
        go_wp2
        have hb := (below0 wr).drew
        replace cP := cell_later hb cP
        replace d0 := cell_later hb d0
        replace d1 := cell_later hb d1
        replace d2 := cell_later hb d2
        replace d3 := cell_later hb d3
        replace c1 := cell_later hb c1
        replace hP := hP.keep hb
        replace hpv := hpv.keep hb
        replace hbv := hbv.keep hb
        replace hy := hy.keep hb
        replace hB := bthen hB hb
        replace hBik := bthen hBik hb
        clear hb
        have hcur := below0 (wr).drew
        have hS := And.intro (cP) (c1)
        refine wp_region_T 18 (by kernel_rfl) (fun w' => w'.cell? ⟨PB, 0, none⟩ = some (.slice (some ⟨ga, 0, none⟩) p.length Cp) ∧ w'.cell? ⟨yg, k, none⟩ = some (.int .i64 K)) ?_
        refine wpAnyT_take (i := 0) (oi := ⟨_, _, _, _, _, _⟩) (v := ?vr1_0) (by kernel_rfl) (by decide) rfl (by kernel_rfl) (by kernel_rfl) (by kernel_rfl) (fun _ _ _ h => h) (Or.inl ⟨by rfl, ?hyr1_0⟩) hS ?restr1_0
        case hyr1_0 =>
          intro w' hSw
          obtain ⟨s0, s1⟩ := hSw
          go_simp
          try with_reducible rfl
        try simp only [Act.put, List.setIfInBounds_toArray, List.set_cons_zero, List.set_cons_succ]
        refine wpAnyT_take (i := 1) (oi := ⟨_, _, _, _, _, _⟩) (v := ?vr1_1) (by kernel_rfl) (by decide) rfl (by kernel_rfl) (by kernel_rfl) (by kernel_rfl) (fun _ _ _ h => h) (Or.inl ⟨by rfl, ?hyr1_1⟩) hS ?restr1_1
        case hyr1_1 =>
          intro w' hSw
          obtain ⟨s0, s1⟩ := hSw
          go_simp
          try with_reducible rfl
        try simp only [Act.put, List.setIfInBounds_toArray, List.set_cons_zero, List.set_cons_succ]
        refine wpAnyT_take (i := 2) (oi := ⟨_, _, _, _, _, _⟩) (v := ?vr1_2) (by kernel_rfl) (by decide) rfl (by kernel_rfl) (by kernel_rfl) (by kernel_rfl) (fun _ _ _ h => h) (Or.inl ⟨by rfl, ?hyr1_2⟩) hS ?restr1_2
        case hyr1_2 =>
          intro w' hSw
          obtain ⟨s0, s1⟩ := hSw
          go_simp
          try with_reducible rfl
        try simp only [Act.put, List.setIfInBounds_toArray, List.set_cons_zero, List.set_cons_succ]
        refine wpAnyT_take (i := 3) (oi := ⟨_, _, _, _, _, _⟩) (v := ?vr1_3) (by kernel_rfl) (by decide) rfl (by kernel_rfl) (by kernel_rfl) (by kernel_rfl) (fun _ _ _ h => h) (Or.inl ⟨by rfl, ?hyr1_3⟩) hS ?restr1_3
        case hyr1_3 =>
          intro w' hSw
          obtain ⟨s0, s1⟩ := hSw
          go_simp
          try with_reducible rfl
        try simp only [Act.put, List.setIfInBounds_toArray, List.set_cons_zero, List.set_cons_succ]
        refine wpAnyT_take (i := 4) (oi := ⟨_, _, _, _, _, _⟩) (v := ?vr1_4) (by kernel_rfl) (by decide) rfl (by kernel_rfl) (by kernel_rfl) (by kernel_rfl) (fun _ _ _ h => h) (Or.inl ⟨by rfl, ?hyr1_4⟩) hS ?restr1_4
        case hyr1_4 =>
          intro w' hSw
          obtain ⟨s0, s1⟩ := hSw
          go_simp
          try with_reducible rfl
        try simp only [Act.put, List.setIfInBounds_toArray, List.set_cons_zero, List.set_cons_succ]
        refine wpAnyT_take (i := 6) (oi := ⟨_, _, _, _, _, _⟩) (v := ?vr1_6) (by kernel_rfl) (by decide) rfl (by kernel_rfl) (by kernel_rfl) (by kernel_rfl) (fun _ _ _ h => h) (Or.inl ⟨by rfl, ?hyr1_6⟩) hS ?restr1_6
        case hyr1_6 =>
          intro w' hSw
          obtain ⟨s0, s1⟩ := hSw
          go_simp
          try with_reducible rfl
        try simp only [Act.put, List.setIfInBounds_toArray, List.set_cons_zero, List.set_cons_succ]
        refine wpAnyT_ready1 (i := 5) (o := ⟨_, _, _, _, _, _⟩) (by kernel_rfl) rfl (fun KC_ hK => ?_)
        go_simp
        go_at_call 51
        refine (I_BoundIn _ p _ K _ ⟨_, rfl, hP.keep hcur⟩).mono ?_
        rintro e w9 ⟨ya, rfl, hya, hb⟩
        have hcur := bthen hcur hb
        clear hb
        have hS := And.intro (cell_later hcur cP) (cell_later hcur c1)
        refine hK _ _ (fun _ => hS) ?_
        try simp only [Act.put, List.setIfInBounds_toArray, List.set_cons_zero, List.set_cons_succ]
        refine wpAnyT_ready1 (i := 7) (o := ⟨_, _, _, _, _, _⟩) (by kernel_rfl) rfl (fun KC_ hK => ?_)
        go_simp
        go_at_call 45
        refine (L_isIn ya _ _ x _ hya).mono ?_
        rintro e w' ⟨rfl, rfl⟩
        rw [HBD.out]
        refine hK _ _ (fun _ => hS) ?_
        try simp only [Act.put, List.setIfInBounds_toArray, List.set_cons_zero, List.set_cons_succ]
        refine wpAnyT_take (i := 8) (oi := ⟨_, _, _, _, _, _⟩) (v := ?vr1_8) (by kernel_rfl) (by decide) rfl (by kernel_rfl) (by kernel_rfl) (by kernel_rfl) (fun _ _ _ h => h) (Or.inl ⟨by rfl, ?hyr1_8⟩) hS ?restr1_8
        case hyr1_8 =>
          intro w' hSw
          obtain ⟨s0, s1⟩ := hSw
          go_simp
          try with_reducible rfl
        try simp only [Act.put, List.setIfInBounds_toArray, List.set_cons_zero, List.set_cons_succ]
        refine wpAnyT_take (i := 9) (oi := ⟨_, _, _, _, _, _⟩) (v := undef) (by kernel_rfl) (by decide) rfl (by kernel_rfl) (by kernel_rfl) (by kernel_rfl) (fun _ _ _ h => h) (Or.inr ⟨by first | rfl | (show (some _ == some _) = false; simp; done) | (show (some _ == some _) = false; simp; omega), rfl⟩) hS ?restr1_9
        try simp only [Act.put, List.setIfInBounds_toArray, List.set_cons_zero, List.set_cons_succ]
        refine wpAnyT_take (i := 10) (oi := ⟨_, _, _, _, _, _⟩) (v := undef) (by kernel_rfl) (by decide) rfl (by kernel_rfl) (by kernel_rfl) (by kernel_rfl) (fun _ _ _ h => h) (Or.inr ⟨by first | rfl | (show (some _ == some _) = false; simp; done) | (show (some _ == some _) = false; simp; omega), rfl⟩) hS ?restr1_10
        try simp only [Act.put, List.setIfInBounds_toArray, List.set_cons_zero, List.set_cons_succ]
        refine wpAnyT_take (i := 11) (oi := ⟨_, _, _, _, _, _⟩) (v := undef) (by kernel_rfl) (by decide) rfl (by kernel_rfl) (by kernel_rfl) (by kernel_rfl) (fun _ _ _ h => h) (Or.inr ⟨by first | rfl | (show (some _ == some _) = false; simp; done) | (show (some _ == some _) = false; simp; omega), rfl⟩) hS ?restr1_11
        try simp only [Act.put, List.setIfInBounds_toArray, List.set_cons_zero, List.set_cons_succ]
        refine wpAnyT_take (i := 12) (oi := ⟨_, _, _, _, _, _⟩) (v := undef) (by kernel_rfl) (by decide) rfl (by kernel_rfl) (by kernel_rfl) (by kernel_rfl) (fun _ _ _ h => h) (Or.inr ⟨by first | rfl | (show (some _ == some _) = false; simp; done) | (show (some _ == some _) = false; simp; omega), rfl⟩) hS ?restr1_12
        try simp only [Act.put, List.setIfInBounds_toArray, List.set_cons_zero, List.set_cons_succ]
        refine wpAnyT_take (i := 13) (oi := ⟨_, _, _, _, _, _⟩) (v := undef) (by kernel_rfl) (by decide) rfl (by kernel_rfl) (by kernel_rfl) (by kernel_rfl) (fun _ _ _ h => h) (Or.inr ⟨by first | rfl | (show (some _ == some _) = false; simp; done) | (show (some _ == some _) = false; simp; omega), rfl⟩) hS ?restr1_13
        try simp only [Act.put, List.setIfInBounds_toArray, List.set_cons_zero, List.set_cons_succ]
        refine wpAnyT_take (i := 15) (oi := ⟨_, _, _, _, _, _⟩) (v := undef) (by kernel_rfl) (by decide) rfl (by kernel_rfl) (by kernel_rfl) (by kernel_rfl) (fun _ _ _ h => h) (Or.inr ⟨by first | rfl | (show (some _ == some _) = false; simp; done) | (show (some _ == some _) = false; simp; omega), rfl⟩) hS ?restr1_15
        try simp only [Act.put, List.setIfInBounds_toArray, List.set_cons_zero, List.set_cons_succ]
        refine wpAnyT_ready1 (i := 14) (o := ⟨_, _, _, _, _, _⟩) (by kernel_rfl) rfl (fun KC_ hK => ?_)
        go_simp
        refine hK _ _ (fun _ => hS) ?_
        try simp only [Act.put, List.setIfInBounds_toArray, List.set_cons_zero, List.set_cons_succ]
        refine wpAnyT_ready1 (i := 16) (o := ⟨_, _, _, _, _, _⟩) (by kernel_rfl) rfl (fun KC_ hK => ?_)
        go_simp
        refine hK _ _ (fun _ => hS) ?_
        try simp only [Act.put, List.setIfInBounds_toArray, List.set_cons_zero, List.set_cons_succ]
        refine wpAnyT_take (i := 17) (oi := ⟨_, _, _, _, _, _⟩) (v := ?vr1_17) (by kernel_rfl) (by decide) rfl (by kernel_rfl) (by kernel_rfl) (by kernel_rfl) (fun _ _ _ h => h) (Or.inl ⟨by rfl, ?hyr1_17⟩) hS ?restr1_17
        case hyr1_17 =>
          intro w' hSw
          obtain ⟨s0, s1⟩ := hSw
          go_simp
          try with_reducible rfl
        try simp only [Act.put, List.setIfInBounds_toArray, List.set_cons_zero, List.set_cons_succ]
        refine wpAnyT_done (by kernel_rfl) ?_ _
        have hb := hcur
        clear hcur hS
        replace cP := cell_later hb cP
        replace d0 := cell_later hb d0
        replace d1 := cell_later hb d1
        replace d2 := cell_later hb d2
        replace d3 := cell_later hb d3
        replace c1 := cell_later hb c1
        replace hP := hP.keep hb
        replace hpv := hpv.keep hb
        replace hbv := hbv.keep hb
        replace hy := hy.keep hb
        replace hB := bthen hB hb
        replace hBik := bthen hBik hb
        clear hb
        go_wp2
        go_roundw
        case rel => exact ⟨k + 1, by omega, by go_num, hBik⟩
        case measure => simp [intOf]; omega
      have HBD := Lib.hid hbd
      clear hbd
      cases hgd : hasF (rDecl p K 9) x
      case true =>
        have HGD := Lib.hid hgd
        clear hgd
        go_wp2
        have hb := (below0 wr).drew
        replace cP := cell_later hb cP
        replace d0 := cell_later hb d0
        replace d1 := cell_later hb d1
        replace d2 := cell_later hb d2
        replace d3 := cell_later hb d3
        replace c1 := cell_later hb c1
        replace hP := hP.keep hb
        replace hpv := hpv.keep hb
        replace hbv := hbv.keep hb
        replace hy := hy.keep hb
        replace hB := bthen hB hb
        replace hBik := bthen hBik hb
        clear hb
        have hcur := below0 (wr).drew
        have hS := And.intro (cP) (c1)
        refine wp_region_T 18 (by kernel_rfl) (fun w' => w'.cell? ⟨PB, 0, none⟩ = some (.slice (some ⟨ga, 0, none⟩) p.length Cp) ∧ w'.cell? ⟨yg, k, none⟩ = some (.int .i64 K)) ?_
        refine wpAnyT_take (i := 0) (oi := ⟨_, _, _, _, _, _⟩) (v := ?vr2_0) (by kernel_rfl) (by decide) rfl (by kernel_rfl) (by kernel_rfl) (by kernel_rfl) (fun _ _ _ h => h) (Or.inl ⟨by rfl, ?hyr2_0⟩) hS ?restr2_0
        case hyr2_0 =>
          intro w' hSw
          obtain ⟨s0, s1⟩ := hSw
          go_simp
          try with_reducible rfl
        try simp only [Act.put, List.setIfInBounds_toArray, List.set_cons_zero, List.set_cons_succ]
        refine wpAnyT_take (i := 1) (oi := ⟨_, _, _, _, _, _⟩) (v := ?vr2_1) (by kernel_rfl) (by decide) rfl (by kernel_rfl) (by kernel_rfl) (by kernel_rfl) (fun _ _ _ h => h) (Or.inl ⟨by rfl, ?hyr2_1⟩) hS ?restr2_1
        case hyr2_1 =>
          intro w' hSw
          obtain ⟨s0, s1⟩ := hSw
          go_simp
          try with_reducible rfl
        try simp only [Act.put, List.setIfInBounds_toArray, List.set_cons_zero, List.set_cons_succ]
        refine wpAnyT_take (i := 2) (oi := ⟨_, _, _, _, _, _⟩) (v := ?vr2_2) (by kernel_rfl) (by decide) rfl (by kernel_rfl) (by kernel_rfl) (by kernel_rfl) (fun _ _ _ h => h) (Or.inl ⟨by rfl, ?hyr2_2⟩) hS ?restr2_2
        case hyr2_2 =>
          intro w' hSw
          obtain ⟨s0, s1⟩ := hSw
          go_simp
          try with_reducible rfl
        try simp only [Act.put, List.setIfInBounds_toArray, List.set_cons_zero, List.set_cons_succ]
        refine wpAnyT_take (i := 3) (oi := ⟨_, _, _, _, _, _⟩) (v := ?vr2_3) (by kernel_rfl) (by decide) rfl (by kernel_rfl) (by kernel_rfl) (by kernel_rfl) (fun _ _ _ h => h) (Or.inl ⟨by rfl, ?hyr2_3⟩) hS ?restr2_3
        case hyr2_3 =>
          intro w' hSw
          obtain ⟨s0, s1⟩ := hSw
          go_simp
          try with_reducible rfl
        try simp only [Act.put, List.setIfInBounds_toArray, List.set_cons_zero, List.set_cons_succ]
        refine wpAnyT_take (i := 4) (oi := ⟨_, _, _, _, _, _⟩) (v := ?vr2_4) (by kernel_rfl) (by decide) rfl (by kernel_rfl) (by kernel_rfl) (by kernel_rfl) (fun _ _ _ h => h) (Or.inl ⟨by rfl, ?hyr2_4⟩) hS ?restr2_4
        case hyr2_4 =>
          intro w' hSw
          obtain ⟨s0, s1⟩ := hSw
          go_simp
          try with_reducible rfl
        try simp only [Act.put, List.setIfInBounds_toArray, List.set_cons_zero, List.set_cons_succ]
        refine wpAnyT_take (i := 6) (oi := ⟨_, _, _, _, _, _⟩) (v := ?vr2_6) (by kernel_rfl) (by decide) rfl (by kernel_rfl) (by kernel_rfl) (by kernel_rfl) (fun _ _ _ h => h) (Or.inl ⟨by rfl, ?hyr2_6⟩) hS ?restr2_6
        case hyr2_6 =>
          intro w' hSw
          obtain ⟨s0, s1⟩ := hSw
          go_simp
          try with_reducible rfl
        try simp only [Act.put, List.setIfInBounds_toArray, List.set_cons_zero, List.set_cons_succ]
        refine wpAnyT_ready1 (i := 5) (o := ⟨_, _, _, _, _, _⟩) (by kernel_rfl) rfl (fun KC_ hK => ?_)
        go_simp
        go_at_call 51
        refine (I_BoundIn _ p _ K _ ⟨_, rfl, hP.keep hcur⟩).mono ?_
        rintro e w10 ⟨ya, rfl, hya, hb⟩
        have hcur := bthen hcur hb
        clear hb
        have hS := And.intro (cell_later hcur cP) (cell_later hcur c1)
        refine hK _ _ (fun _ => hS) ?_
        try simp only [Act.put, List.setIfInBounds_toArray, List.set_cons_zero, List.set_cons_succ]
        refine wpAnyT_ready1 (i := 7) (o := ⟨_, _, _, _, _, _⟩) (by kernel_rfl) rfl (fun KC_ hK => ?_)
        go_simp
        go_at_call 45
        refine (L_isIn ya _ _ x _ hya).mono ?_
        rintro e w' ⟨rfl, rfl⟩
        rw [HBD.out]
        refine hK _ _ (fun _ => hS) ?_
        try simp only [Act.put, List.setIfInBounds_toArray, List.set_cons_zero, List.set_cons_succ]
        refine wpAnyT_take (i := 8) (oi := ⟨_, _, _, _, _, _⟩) (v := ?vr2_8) (by kernel_rfl) (by decide) rfl (by kernel_rfl) (by kernel_rfl) (by kernel_rfl) (fun _ _ _ h => h) (Or.inl ⟨by rfl, ?hyr2_8⟩) hS ?restr2_8
        case hyr2_8 =>
          intro w' hSw
          obtain ⟨s0, s1⟩ := hSw
          go_simp
          try with_reducible rfl
        try simp only [Act.put, List.setIfInBounds_toArray, List.set_cons_zero, List.set_cons_succ]
        refine wpAnyT_take (i := 9) (oi := ⟨_, _, _, _, _, _⟩) (v := ?vr2_9) (by kernel_rfl) (by decide) rfl (by kernel_rfl) (by kernel_rfl) (by kernel_rfl) (fun _ _ _ h => h) (Or.inl ⟨by first | rfl | (show (some _ == some _) = true; simp; done) | (show (some _ == some _) = true; simp; omega), ?hyr2_9⟩) hS ?restr2_9
        case hyr2_9 =>
          intro w' hSw
          obtain ⟨s0, s1⟩ := hSw
          go_simp
          try with_reducible rfl
        try simp only [Act.put, List.setIfInBounds_toArray, List.set_cons_zero, List.set_cons_succ]
        refine wpAnyT_take (i := 10) (oi := ⟨_, _, _, _, _, _⟩) (v := ?vr2_10) (by kernel_rfl) (by decide) rfl (by kernel_rfl) (by kernel_rfl) (by kernel_rfl) (fun _ _ _ h => h) (Or.inl ⟨by first | rfl | (show (some _ == some _) = true; simp; done) | (show (some _ == some _) = true; simp; omega), ?hyr2_10⟩) hS ?restr2_10
        case hyr2_10 =>
          intro w' hSw
          obtain ⟨s0, s1⟩ := hSw
          go_simp
          try with_reducible rfl
        try simp only [Act.put, List.setIfInBounds_toArray, List.set_cons_zero, List.set_cons_succ]
        refine wpAnyT_take (i := 11) (oi := ⟨_, _, _, _, _, _⟩) (v := ?vr2_11) (by kernel_rfl) (by decide) rfl (by kernel_rfl) (by kernel_rfl) (by kernel_rfl) (fun _ _ _ h => h) (Or.inl ⟨by first | rfl | (show (some _ == some _) = true; simp; done) | (show (some _ == some _) = true; simp; omega), ?hyr2_11⟩) hS ?restr2_11
        case hyr2_11 =>
          intro w' hSw
          obtain ⟨s0, s1⟩ := hSw
          go_simp
          try with_reducible rfl
        try simp only [Act.put, List.setIfInBounds_toArray, List.set_cons_zero, List.set_cons_succ]
        refine wpAnyT_take (i := 12) (oi := ⟨_, _, _, _, _, _⟩) (v := ?vr2_12) (by kernel_rfl) (by decide) rfl (by kernel_rfl) (by kernel_rfl) (by kernel_rfl) (fun _ _ _ h => h) (Or.inl ⟨by first | rfl | (show (some _ == some _) = true; simp; done) | (show (some _ == some _) = true; simp; omega), ?hyr2_12⟩) hS ?restr2_12
        case hyr2_12 =>
          intro w' hSw
          obtain ⟨s0, s1⟩ := hSw
          go_simp
          try with_reducible rfl
        try simp only [Act.put, List.setIfInBounds_toArray, List.set_cons_zero, List.set_cons_succ]
        refine wpAnyT_take (i := 13) (oi := ⟨_, _, _, _, _, _⟩) (v := ?vr2_13) (by kernel_rfl) (by decide) rfl (by kernel_rfl) (by kernel_rfl) (by kernel_rfl) (fun _ _ _ h => h) (Or.inl ⟨by first | rfl | (show (some _ == some _) = true; simp; done) | (show (some _ == some _) = true; simp; omega), ?hyr2_13⟩) hS ?restr2_13
        case hyr2_13 =>
          intro w' hSw
          obtain ⟨s0, s1⟩ := hSw
          go_simp
          try with_reducible rfl
        try simp only [Act.put, List.setIfInBounds_toArray, List.set_cons_zero, List.set_cons_succ]
        refine wpAnyT_take (i := 15) (oi := ⟨_, _, _, _, _, _⟩) (v := ?vr2_15) (by kernel_rfl) (by decide) rfl (by kernel_rfl) (by kernel_rfl) (by kernel_rfl) (fun _ _ _ h => h) (Or.inl ⟨by first | rfl | (show (some _ == some _) = true; simp; done) | (show (some _ == some _) = true; simp; omega), ?hyr2_15⟩) hS ?restr2_15
        case hyr2_15 =>
          intro w' hSw
          obtain ⟨s0, s1⟩ := hSw
          go_simp
          try with_reducible rfl
        try simp only [Act.put, List.setIfInBounds_toArray, List.set_cons_zero, List.set_cons_succ]
        refine wpAnyT_ready1 (i := 14) (o := ⟨_, _, _, _, _, _⟩) (by kernel_rfl) rfl (fun KC_ hK => ?_)
        try rw [if_pos (by first | rfl | (show (some _ == some _) = true; simp; done) | (show (some _ == some _) = true; simp; omega))]
        go_simp
        go_at_call 48
        refine (I_DeclaredIn _ p _ K 9 _ ⟨_, rfl, hP.keep hcur⟩).mono ?_
        rintro e w11 ⟨yb, rfl, hyb, hb⟩
        have hcur := bthen hcur hb
        clear hb
        have hS := And.intro (cell_later hcur cP) (cell_later hcur c1)
        refine hK _ _ (fun _ => hS) ?_
        try simp only [Act.put, List.setIfInBounds_toArray, List.set_cons_zero, List.set_cons_succ]
        refine wpAnyT_ready1 (i := 16) (o := ⟨_, _, _, _, _, _⟩) (by kernel_rfl) rfl (fun KC_ hK => ?_)
        try rw [if_pos (by first | rfl | (show (some _ == some _) = true; simp; done) | (show (some _ == some _) = true; simp; omega))]
        go_simp
        go_at_call 45
        refine (L_isIn yb _ _ x _ hyb).mono ?_
        rintro e w' ⟨rfl, rfl⟩
        rw [HGD.out]
        refine hK _ _ (fun _ => hS) ?_
        try simp only [Act.put, List.setIfInBounds_toArray, List.set_cons_zero, List.set_cons_succ]
        refine wpAnyT_take (i := 17) (oi := ⟨_, _, _, _, _, _⟩) (v := ?vr2_17) (by kernel_rfl) (by decide) rfl (by kernel_rfl) (by kernel_rfl) (by kernel_rfl) (fun _ _ _ h => h) (Or.inl ⟨by rfl, ?hyr2_17⟩) hS ?restr2_17
        case hyr2_17 =>
          intro w' hSw
          obtain ⟨s0, s1⟩ := hSw
          go_simp
          try with_reducible rfl
        try simp only [Act.put, List.setIfInBounds_toArray, List.set_cons_zero, List.set_cons_succ]
        refine wpAnyT_done (by kernel_rfl) ?_ _
        have hb := hcur
        clear hcur hS
        replace cP := cell_later hb cP
        replace d0 := cell_later hb d0
        replace d1 := cell_later hb d1
        replace d2 := cell_later hb d2
        replace d3 := cell_later hb d3
        replace c1 := cell_later hb c1
        replace hP := hP.keep hb
        replace hpv := hpv.keep hb
        replace hbv := hbv.keep hb
        replace hy := hy.keep hb
        replace hB := bthen hB hb
        replace hBik := bthen hBik hb
        clear hb
        go_wp2
        go_roundw
        case rel => exact ⟨k + 1, by omega, by go_num, hBik⟩
        case measure => simp [intOf]; omega
      have HGD := Lib.hid hgd
      clear hgd
      have hkr : rOwner p K x = R := (child_law HN.out HK1.out HKID.out HBD.out HGD.out).trans HR.out.symm
      have HKR := Lib.hid hkr
      clear hkr
      go_wp2
      have hb := (below0 wr).drew
      replace cP := cell_later hb cP
      replace d0 := cell_later hb d0
      replace d1 := cell_later hb d1
      replace d2 := cell_later hb d2
      replace d3 := cell_later hb d3
      replace c1 := cell_later hb c1
      replace hP := hP.keep hb
      replace hpv := hpv.keep hb
      replace hbv := hbv.keep hb
      replace hy := hy.keep hb
      replace hB := bthen hB hb
      replace hBik := bthen hBik hb
      clear hb
      have hcur := below0 (wr).drew
      have hS := And.intro (cP) (c1)
      refine wp_region_T 18 (by kernel_rfl) (fun w' => w'.cell? ⟨PB, 0, none⟩ = some (.slice (some ⟨ga, 0, none⟩) p.length Cp) ∧ w'.cell? ⟨yg, k, none⟩ = some (.int .i64 K)) ?_
      refine wpAnyT_take (i := 0) (oi := ⟨_, _, _, _, _, _⟩) (v := ?vr3_0) (by kernel_rfl) (by decide) rfl (by kernel_rfl) (by kernel_rfl) (by kernel_rfl) (fun _ _ _ h => h) (Or.inl ⟨by rfl, ?hyr3_0⟩) hS ?restr3_0
      case hyr3_0 =>
        intro w' hSw
        obtain ⟨s0, s1⟩ := hSw
        go_simp
        try with_reducible rfl
      try simp only [Act.put, List.setIfInBounds_toArray, List.set_cons_zero, List.set_cons_succ]
      refine wpAnyT_take (i := 1) (oi := ⟨_, _, _, _, _, _⟩) (v := ?vr3_1) (by kernel_rfl) (by decide) rfl (by kernel_rfl) (by kernel_rfl) (by kernel_rfl) (fun _ _ _ h => h) (Or.inl ⟨by rfl, ?hyr3_1⟩) hS ?restr3_1
      case hyr3_1 =>
        intro w' hSw
        obtain ⟨s0, s1⟩ := hSw
        go_simp
        try with_reducible rfl
      try simp only [Act.put, List.setIfInBounds_toArray, List.set_cons_zero, List.set_cons_succ]
      refine wpAnyT_take (i := 2) (oi := ⟨_, _, _, _, _, _⟩) (v := ?vr3_2) (by kernel_rfl) (by decide) rfl (by kernel_rfl) (by kernel_rfl) (by kernel_rfl) (fun _ _ _ h => h) (Or.inl ⟨by rfl, ?hyr3_2⟩) hS ?restr3_2
      case hyr3_2 =>
        intro w' hSw
        obtain ⟨s0, s1⟩ := hSw
        go_simp
        try with_reducible rfl
      try simp only [Act.put, List.setIfInBounds_toArray, List.set_cons_zero, List.set_cons_succ]
      refine wpAnyT_take (i := 3) (oi := ⟨_, _, _, _, _, _⟩) (v := ?vr3_3) (by kernel_rfl) (by decide) rfl (by kernel_rfl) (by kernel_rfl) (by kernel_rfl) (fun _ _ _ h => h) (Or.inl ⟨by rfl, ?hyr3_3⟩) hS ?restr3_3
      case hyr3_3 =>
        intro w' hSw
        obtain ⟨s0, s1⟩ := hSw
        go_simp
        try with_reducible rfl
      try simp only [Act.put, List.setIfInBounds_toArray, List.set_cons_zero, List.set_cons_succ]
      refine wpAnyT_take (i := 4) (oi := ⟨_, _, _, _, _, _⟩) (v := ?vr3_4) (by kernel_rfl) (by decide) rfl (by kernel_rfl) (by kernel_rfl) (by kernel_rfl) (fun _ _ _ h => h) (Or.inl ⟨by rfl, ?hyr3_4⟩) hS ?restr3_4
      case hyr3_4 =>
        intro w' hSw
        obtain ⟨s0, s1⟩ := hSw
        go_simp
        try with_reducible rfl
      try simp only [Act.put, List.setIfInBounds_toArray, List.set_cons_zero, List.set_cons_succ]
      refine wpAnyT_take (i := 6) (oi := ⟨_, _, _, _, _, _⟩) (v := ?vr3_6) (by kernel_rfl) (by decide) rfl (by kernel_rfl) (by kernel_rfl) (by kernel_rfl) (fun _ _ _ h => h) (Or.inl ⟨by rfl, ?hyr3_6⟩) hS ?restr3_6
      case hyr3_6 =>
        intro w' hSw
        obtain ⟨s0, s1⟩ := hSw
        go_simp
        try with_reducible rfl
      try simp only [Act.put, List.setIfInBounds_toArray, List.set_cons_zero, List.set_cons_succ]
      refine wpAnyT_ready1 (i := 5) (o := ⟨_, _, _, _, _, _⟩) (by kernel_rfl) rfl (fun KC_ hK => ?_)
      go_simp
      go_at_call 51
      refine (I_BoundIn _ p _ K _ ⟨_, rfl, hP.keep hcur⟩).mono ?_
      rintro e w12 ⟨ya, rfl, hya, hb⟩
      have hcur := bthen hcur hb
      clear hb
      have hS := And.intro (cell_later hcur cP) (cell_later hcur c1)
      refine hK _ _ (fun _ => hS) ?_
      try simp only [Act.put, List.setIfInBounds_toArray, List.set_cons_zero, List.set_cons_succ]
      refine wpAnyT_ready1 (i := 7) (o := ⟨_, _, _, _, _, _⟩) (by kernel_rfl) rfl (fun KC_ hK => ?_)
      go_simp
      go_at_call 45
      refine (L_isIn ya _ _ x _ hya).mono ?_
      rintro e w' ⟨rfl, rfl⟩
      rw [HBD.out]
      refine hK _ _ (fun _ => hS) ?_
      try simp only [Act.put, List.setIfInBounds_toArray, List.set_cons_zero, List.set_cons_succ]
      refine wpAnyT_take (i := 8) (oi := ⟨_, _, _, _, _, _⟩) (v := ?vr3_8) (by kernel_rfl) (by decide) rfl (by kernel_rfl) (by kernel_rfl) (by kernel_rfl) (fun _ _ _ h => h) (Or.inl ⟨by rfl, ?hyr3_8⟩) hS ?restr3_8
      case hyr3_8 =>
        intro w' hSw
        obtain ⟨s0, s1⟩ := hSw
        go_simp
        try with_reducible rfl
      try simp only [Act.put, List.setIfInBounds_toArray, List.set_cons_zero, List.set_cons_succ]
      refine wpAnyT_take (i := 9) (oi := ⟨_, _, _, _, _, _⟩) (v := ?vr3_9) (by kernel_rfl) (by decide) rfl (by kernel_rfl) (by kernel_rfl) (by kernel_rfl) (fun _ _ _ h => h) (Or.inl ⟨by first | rfl | (show (some _ == some _) = true; simp; done) | (show (some _ == some _) = true; simp; omega), ?hyr3_9⟩) hS ?restr3_9
      case hyr3_9 =>
        intro w' hSw
        obtain ⟨s0, s1⟩ := hSw
        go_simp
        try with_reducible rfl
      try simp only [Act.put, List.setIfInBounds_toArray, List.set_cons_zero, List.set_cons_succ]
      refine wpAnyT_take (i := 10) (oi := ⟨_, _, _, _, _, _⟩) (v := ?vr3_10) (by kernel_rfl) (by decide) rfl (by kernel_rfl) (by kernel_rfl) (by kernel_rfl) (fun _ _ _ h => h) (Or.inl ⟨by first | rfl | (show (some _ == some _) = true; simp; done) | (show (some _ == some _) = true; simp; omega), ?hyr3_10⟩) hS ?restr3_10
      case hyr3_10 =>
        intro w' hSw
        obtain ⟨s0, s1⟩ := hSw
        go_simp
        try with_reducible rfl
      try simp only [Act.put, List.setIfInBounds_toArray, List.set_cons_zero, List.set_cons_succ]
      refine wpAnyT_take (i := 11) (oi := ⟨_, _, _, _, _, _⟩) (v := ?vr3_11) (by kernel_rfl) (by decide) rfl (by kernel_rfl) (by kernel_rfl) (by kernel_rfl) (fun _ _ _ h => h) (Or.inl ⟨by first | rfl | (show (some _ == some _) = true; simp; done) | (show (some _ == some _) = true; simp; omega), ?hyr3_11⟩) hS ?restr3_11
      case hyr3_11 =>
        intro w' hSw
        obtain ⟨s0, s1⟩ := hSw
        go_simp
        try with_reducible rfl
      try simp only [Act.put, List.setIfInBounds_toArray, List.set_cons_zero, List.set_cons_succ]
      refine wpAnyT_take (i := 12) (oi := ⟨_, _, _, _, _, _⟩) (v := ?vr3_12) (by kernel_rfl) (by decide) rfl (by kernel_rfl) (by kernel_rfl) (by kernel_rfl) (fun _ _ _ h => h) (Or.inl ⟨by first | rfl | (show (some _ == some _) = true; simp; done) | (show (some _ == some _) = true; simp; omega), ?hyr3_12⟩) hS ?restr3_12
      case hyr3_12 =>
        intro w' hSw
        obtain ⟨s0, s1⟩ := hSw
        go_simp
        try with_reducible rfl
      try simp only [Act.put, List.setIfInBounds_toArray, List.set_cons_zero, List.set_cons_succ]
      refine wpAnyT_take (i := 13) (oi := ⟨_, _, _, _, _, _⟩) (v := ?vr3_13) (by kernel_rfl) (by decide) rfl (by kernel_rfl) (by kernel_rfl) (by kernel_rfl) (fun _ _ _ h => h) (Or.inl ⟨by first | rfl | (show (some _ == some _) = true; simp; done) | (show (some _ == some _) = true; simp; omega), ?hyr3_13⟩) hS ?restr3_13
      case hyr3_13 =>
        intro w' hSw
        obtain ⟨s0, s1⟩ := hSw
        go_simp
        try with_reducible rfl
      try simp only [Act.put, List.setIfInBounds_toArray, List.set_cons_zero, List.set_cons_succ]
      refine wpAnyT_take (i := 15) (oi := ⟨_, _, _, _, _, _⟩) (v := ?vr3_15) (by kernel_rfl) (by decide) rfl (by kernel_rfl) (by kernel_rfl) (by kernel_rfl) (fun _ _ _ h => h) (Or.inl ⟨by first | rfl | (show (some _ == some _) = true; simp; done) | (show (some _ == some _) = true; simp; omega), ?hyr3_15⟩) hS ?restr3_15
      case hyr3_15 =>
        intro w' hSw
        obtain ⟨s0, s1⟩ := hSw
        go_simp
        try with_reducible rfl
      try simp only [Act.put, List.setIfInBounds_toArray, List.set_cons_zero, List.set_cons_succ]
      refine wpAnyT_ready1 (i := 14) (o := ⟨_, _, _, _, _, _⟩) (by kernel_rfl) rfl (fun KC_ hK => ?_)
      try rw [if_pos (by first | rfl | (show (some _ == some _) = true; simp; done) | (show (some _ == some _) = true; simp; omega))]
      go_simp
      go_at_call 48
      refine (I_DeclaredIn _ p _ K 9 _ ⟨_, rfl, hP.keep hcur⟩).mono ?_
      rintro e w13 ⟨yb, rfl, hyb, hb⟩
      have hcur := bthen hcur hb
      clear hb
      have hS := And.intro (cell_later hcur cP) (cell_later hcur c1)
      refine hK _ _ (fun _ => hS) ?_
      try simp only [Act.put, List.setIfInBounds_toArray, List.set_cons_zero, List.set_cons_succ]
      refine wpAnyT_ready1 (i := 16) (o := ⟨_, _, _, _, _, _⟩) (by kernel_rfl) rfl (fun KC_ hK => ?_)
      try rw [if_pos (by first | rfl | (show (some _ == some _) = true; simp; done) | (show (some _ == some _) = true; simp; omega))]
      go_simp
      go_at_call 45
      refine (L_isIn yb _ _ x _ hyb).mono ?_
      rintro e w' ⟨rfl, rfl⟩
      rw [HGD.out]
      refine hK _ _ (fun _ => hS) ?_
      try simp only [Act.put, List.setIfInBounds_toArray, List.set_cons_zero, List.set_cons_succ]
      refine wpAnyT_take (i := 17) (oi := ⟨_, _, _, _, _, _⟩) (v := ?vr3_17) (by kernel_rfl) (by decide) rfl (by kernel_rfl) (by kernel_rfl) (by kernel_rfl) (fun _ _ _ h => h) (Or.inl ⟨by rfl, ?hyr3_17⟩) hS ?restr3_17
      case hyr3_17 =>
        intro w' hSw
        obtain ⟨s0, s1⟩ := hSw
        go_simp
        try with_reducible rfl
      try simp only [Act.put, List.setIfInBounds_toArray, List.set_cons_zero, List.set_cons_succ]
      refine wpAnyT_done (by kernel_rfl) ?_ _
      have hb := hcur
      clear hcur hS
      replace cP := cell_later hb cP
      replace d0 := cell_later hb d0
      replace d1 := cell_later hb d1
      replace d2 := cell_later hb d2
      replace d3 := cell_later hb d3
      replace c1 := cell_later hb c1
      replace hP := hP.keep hb
      replace hpv := hpv.keep hb
      replace hbv := hbv.keep hb
      replace hy := hy.keep hb
      replace hB := bthen hB hb
      replace hBik := bthen hBik hb
      clear hb
      go_wp2
      have hb := (below0 w13).drew
      replace cP := cell_later hb cP
      replace d0 := cell_later hb d0
      replace d1 := cell_later hb d1
      replace d2 := cell_later hb d2
      replace d3 := cell_later hb d3
      replace c1 := cell_later hb c1
      replace hP := hP.keep hb
      replace hpv := hpv.keep hb
      replace hbv := hbv.keep hb
      replace hy := hy.keep hb
      replace hB := bthen hB hb
      replace hBik := bthen hBik hb
      clear hb
      have hcur := below0 (w13).drew
      go_region_held3 (fun w' => w'.cell? ⟨PB, 0, none⟩ = some (.slice (some ⟨ga, 0, none⟩) p.length Cp) ∧ w'.cell? ⟨yg, k, none⟩ = some (.int .i64 K))
        (first | go_keep | exact ⟨cell_later hcur cP, cell_later hcur c1⟩)
        (first
          | (go_at_call 79
             refine (I_OwnerOf _ p _ K x _ ⟨_, rfl, hP.keep hcur⟩).mono ?_
             rintro e w14 ⟨rfl, hb⟩
             rw [HKR.out]
             have hcur := bthen hcur hb
             clear hb)
        )
      have hb := hcur
      clear hcur
      replace cP := cell_later hb cP
      replace d0 := cell_later hb d0
      replace d1 := cell_later hb d1
      replace d2 := cell_later hb d2
      replace d3 := cell_later hb d3
      replace c1 := cell_later hb c1
      replace hP := hP.keep hb
      replace hpv := hpv.keep hb
      replace hbv := hbv.keep hb
      replace hy := hy.keep hb
      replace hB := bthen hB hb
      replace hBik := bthen hBik hb
      clear hb
      go_wp2
      go_roundw
      case rel => exact ⟨k + 1, by omega, by go_num, hBik⟩
      case measure => simp [intOf]; omega
    obtain rfl : k = (rKids p kb).length := by omega
    go_wp2
    go_ret
    exact ⟨rfl, hB⟩

theorem own : ownKnob Try.prog.godebug = none := by kernel_rfl
theorem laidOut : laidOutB Try.prog = true := by kernel_rfl

set_option maxRecDepth 100000 in
theorem lifted (os : Os) (started : os.Started) (H : Type) (enc : TypeId × Value → H) :
    ReturnsInHanded {} Try.checked os 16 .any (Rows.fnOwnerOfChildSpec.pre6 enc Try.prog Try.f16 Rows.fnOwnerOfChildRow.domain false) (Rows.fnOwnerOfChildSpec.post enc Try.prog Try.f16 false true false false) := by
  refine returnsInHanded_of_change (C := Try.checked) own started (by kernel_rfl) Try.func16
    (ChangeSpec.witness6 (enc := enc) (C := Try.checked) false ⟨#[], #[.slice none 0 0], []⟩ 8 (by kernel_rfl) (by kernel_rfl) (by kernel_rfl) (by kernel_rfl)) ?_
  intro W base args ds gs before hval0 hW hcnd _
  have hval : ∀ (j : Nat) t v, Try.f16.params[j]? = some t → args[j]? = some v → Value.okWide Try.prog W .any base t v := hval0
  have hW' := hW
  obtain ⟨p, q, hA0, hV, rfl, hfz, hnd⟩ := hW
  have hA : DataW.TrodAll enc Try.prog W 0 (fun _ => true) true Try.f16.params.toList args.toList ds p := hA0
  rw [Try.params16] at hA hval
  obtain ⟨v0, d0, rfl, rfl, h0⟩ := trodAll_one hA
  obtain ⟨rfl, rfl⟩ := trodVars_none hV
  clear hA0 hval0
  simp only [List.append_nil] at hW'
  have hlt : ∀ x ∈ p, x.block < W.heap.size := fun x hx => hW'.lt x hx
  obtain ⟨q0, hq0⟩ := open_obytes (hval 0 22 v0 rfl rfl) h0
  refine (walk v0 q0 W hq0).mono fun e W' ⟨he, hb⟩ => ?_
  subst he
  exact ⟨_, rfl, post_of_below (pa := _) (pv := []) hW' (fun _ _ _ => (trodAll_cons_mk (shut_bool Try.underlying4 _) trodAll_mk0)) (fun sp hsp => (trodAll_cons_mk (WideElems.Trod_stays laidOut (by kernel_rfl) (of_decide_eq_true (by kernel_rfl)) h0 (fun x hx => hb.same (hlt x (hx))) (fun x hx => hsp x (hx))) trodAll_mk0)) (fun _ _ => rfl) (by simp)
    hb (ok_one (by kernel_rfl) rfl (okWide_bool_mk Try.underlying4 _))⟩

theorem closed : joinedFacts Try.pinned.checked.prog 16 Try.f16 Rows.fnOwnerOfChildSpec Rows.fnOwnerOfChildRow = true := by
  show joinedFacts Try.prog 16 Try.f16 Rows.fnOwnerOfChildSpec Rows.fnOwnerOfChildRow = true
  unfold joinedFacts
  rw [may_enter, lifts_not, make_cut]
  kernel_rfl

theorem over : Rows.fnOwnerOfChildRow.holds Try.pinned (OpenSpec.ofChange Rows.fnOwnerOfChildSpec) :=
  OpenClaim.holds_of_wide 16 Try.f16 rfl rfl rfl rfl rfl rfl rfl ⟨rfl, rfl, rfl, rfl, rfl⟩ rfl rfl rfl rfl rfl (by kernel_rfl) Try.func16 closed
    (of_decide_eq_true (by kernel_rfl)) (by unfold Func.isWrapper; first | (rw [if_pos (by decide +kernel)]; kernel_rfl) | (rw [if_neg (by decide +kernel)]; exact ⟨rfl, rfl⟩))
    (fun os started H enc _ => lifted os started H enc)

theorem proved : Rows.FnOwnerOfChildSaid := over
#print axioms proved
end Go.Proofs.Ytklikpcfmmpocaa.ownerOfChild
