/-
  The law FnBareProgram: for every input it answers true and leaves its argument as it was. No condition.
-/
import Derived.Test.YtiemhadpepbcjaaFrame
import Derived.Test.YtiemhadpepbcjaaFacts
import Derived.Test.YtiemhadpepbcjaaDwA
import Derived.Test.YtiemhadpepbcjaaDwX
import Derived.Test.YtiemhadpepbcjaaLawFn
import Derived.Test.YtiemhadpepbcjaaDwV
import Derived.Test.YtiemhadpepbcjaaImpl8
namespace Go.Proofs.Ytiemhadpepbcjaa.bareProgram
open Go.ChangeShapes Go.WideShapes Go.ChangeAt Go.RowKit
set_option linter.unusedVariables false

set_option maxRecDepth 100000 in
set_option maxHeartbeats 4000000 in
theorem walk (v : Value) (l : List Int) (w : World) (hv : OBytes w v l) :
    Calls Try.prog 4 #[v] w fun e w' => e = .returned (.bool true) ∧ Below w.heap.size w w' := by
  have HV := Lib.hid hv
  obtain ⟨⟨A, C, b', o, rfl, hn, hc, _, _⟩, _⟩ := hv
  unfold maxLen at hc
  by_cases hbig : 1048576 < l.length
  · go_enter Try.func4, Try.ntmps4
    go_wp2
    go_ret
    exact ⟨rfl, Below.refl _ _⟩
  have hl : l.length ≤ 1048576 := by omega
  go_enter Try.func4, Try.ntmps4
  go_wp2_with fail
  refine (S_DrawBareProgram _ l _ HV.out hl).mono ?_
  rintro e w1 ⟨sl, xs, p, rfl, hrow, hp, hB⟩
  clear HV hbig hl hc hn
  obtain ⟨ga, Cp, rfl, _, hCp, _, _, _, _⟩ := PRowX.rd hrow (by omega)
  unfold maxLen at hCp
  obtain ⟨PB, hPB⟩ : ∃ PB : Nat, PB = w1.heap.size := ⟨_, rfl⟩
  obtain ⟨W, hW⟩ : ∃ W : World, W = w1.alloc (.cells #[.slice (some ⟨ga, 0, none⟩) p.length Cp] 25) := ⟨_, rfl⟩
  have hB : Below w.heap.size w W := by rw [hW]; exact bal hB _
  have hP : Blks W w.heap.size (.slice (some ⟨ga, 0, none⟩) p.length Cp) p := by rw [hW]; exact (PRowX.blks hrow).keep al1
  have cP : W.cell? ⟨PB, 0, none⟩ = some (.slice (some ⟨ga, 0, none⟩) p.length Cp) := by rw [hW, hPB]; simp [go_sem]
  have HPB := Lib.hid hPB
  have HW := Lib.hid hW
  clear hPB hW hrow
  go_wp2_with fail
  rw [← HPB.out, ← HW.out]
  clear HPB HW
  refine (I_BareProgram _ p _ _ ⟨_, rfl, hP⟩).mono ?_
  rintro e w2 ⟨sl2, xs2, rfl, hr2, hap2, hb⟩
  replace cP := cell_later hb cP
  replace hP := hP.keep hb
  replace hB := bthen hB hb
  clear hb
  obtain ⟨R, hR⟩ : ∃ R : Pr, R = rBare p := ⟨_, rfl⟩
  rw [← hR] at hr2
  have HR := Lib.hid hR
  obtain ⟨oA, oC, rfl⟩ := PRowX.form hr2
  obtain ⟨OB, hOB⟩ : ∃ OB : Nat, OB = w2.heap.size := ⟨_, rfl⟩
  obtain ⟨WQ, hWQ⟩ : ∃ WQ : World, WQ = w2.alloc (.cells #[.slice oA R.length oC] 25) := ⟨_, rfl⟩
  have hb : Below w2.heap.size w2 WQ := by rw [hWQ]; exact al1
  have hQ := (PRowX.blks hr2).keep hb
  have cQ : WQ.cell? ⟨OB, 0, none⟩ = some (.slice oA R.length oC) := by rw [hWQ, hOB]; simp [go_sem]
  have HWQ := Lib.hid hWQ
  have HOB := Lib.hid hOB
  clear hr2 hap2 hWQ hOB hR
  replace cP := cell_later hb cP
  replace hP := hP.keep hb
  replace hB := bthen hB hb
  clear hb
  by_cases h0 : R.length = 0
  · skip
    have hz : ((R.length : Int) == 0) = true := by rw [h0]; rfl
    clear h0
    go_wp2
    rw [← HOB.out, ← HWQ.out]
    clear HOB HWQ
    have hb := (below0 WQ).drew
    replace cP := cell_later hb cP
    replace cQ := cell_later hb cQ
    replace hP := hP.keep hb
    replace hQ := hQ.keep hb
    replace hB := bthen hB hb
    clear hb
    have hcur := below0 (WQ).drew
    have hS := And.intro (cP) (cQ)
    refine wp_region_T 11 (by kernel_rfl) (fun w' => w'.cell? ⟨PB, 0, none⟩ = some (.slice (some ⟨ga, 0, none⟩) p.length Cp) ∧ w'.cell? ⟨OB, 0, none⟩ = some (.slice oA R.length oC)) ?_
    refine wpAnyT_take (i := 0) (oi := ⟨_, _, _, _, _, _⟩) (v := ?vr1_0) (by kernel_rfl) (by decide) rfl (by kernel_rfl) (by kernel_rfl) (by kernel_rfl) (fun _ _ _ h => h) (Or.inl ⟨by rfl, ?hyr1_0⟩) hS ?restr1_0
    case hyr1_0 =>
      intro w' hSw
      obtain ⟨s0, s1⟩ := hSw
      go_simp
      try with_reducible rfl
    try simp only [Act.put, List.setIfInBounds_toArray, List.set_cons_zero, List.set_cons_succ]
    refine wpAnyT_take (i := 1) (oi := ⟨_, _, _, _, _, _⟩) (v := ?vr1_1) (by kernel_rfl) (by decide) rfl (by kernel_rfl) (by kernel_rfl) (by kernel_rfl) (fun _ _ _ h => h) (Or.inl ⟨by rfl, ?hyr1_1⟩) hS ?restr1_1
    case hyr1_1 =>
      intro w' hSw
      obtain ⟨s0, s1⟩ := hSw
      go_simp
      try with_reducible rfl
    try simp only [Act.put, List.setIfInBounds_toArray, List.set_cons_zero, List.set_cons_succ]
    refine wpAnyT_ready1 (i := 2) (o := ⟨_, _, _, _, _, _⟩) (by kernel_rfl) rfl (fun KC_ hK => ?_)
    go_simp
    go_at_call 15
    refine (S_BareProgram _ p _ _ ⟨_, rfl, hP.keep hcur⟩).mono ?_
    rintro e w3 ⟨sla, xsa, rfl, hra, hb⟩
    rw [← HR.out] at hra
    have hra := PRowX.blks hra
    have hcur := bthen hcur hb
    clear hb
    have hS := And.intro (cell_later hcur cP) (cell_later hcur cQ)
    refine hK _ _ (fun _ => hS) ?_
    try simp only [Act.put, List.setIfInBounds_toArray, List.set_cons_zero, List.set_cons_succ]
    refine wpAnyT_ready1 (i := 3) (o := ⟨_, _, _, _, _, _⟩) (by kernel_rfl) rfl (fun KC_ hK => ?_)
    go_simp
    go_at_call 14
    refine (L_sameProgram _ _ R _ _ _ (hQ.keep hcur) hra).mono ?_
    rintro e w4 ⟨rfl, hb⟩
    have hcur := bthen hcur hb
    clear hb
    have hS := And.intro (cell_later hcur cP) (cell_later hcur cQ)
    refine hK _ _ (fun _ => hS) ?_
    try simp only [Act.put, List.setIfInBounds_toArray, List.set_cons_zero, List.set_cons_succ]
    refine wpAnyT_take (i := 4) (oi := ⟨_, _, _, _, _, _⟩) (v := ?vr1_4) (by kernel_rfl) (by decide) rfl (by kernel_rfl) (by kernel_rfl) (by kernel_rfl) (fun _ _ _ h => h) (Or.inl ⟨by rfl, ?hyr1_4⟩) hS ?restr1_4
    case hyr1_4 =>
      intro w' hSw
      obtain ⟨s0, s1⟩ := hSw
      go_simp
      try with_reducible rfl
    try simp only [Act.put, List.setIfInBounds_toArray, List.set_cons_zero, List.set_cons_succ]
    refine wpAnyT_take (i := 5) (oi := ⟨_, _, _, _, _, _⟩) (v := ?vr1_5) (by kernel_rfl) (by decide) rfl (by kernel_rfl) (by kernel_rfl) (by kernel_rfl) (fun _ _ _ h => h) (Or.inl ⟨by rfl, ?hyr1_5⟩) hS ?restr1_5
    case hyr1_5 =>
      intro w' hSw
      obtain ⟨s0, s1⟩ := hSw
      go_simp
      try with_reducible rfl
    try simp only [Act.put, List.setIfInBounds_toArray, List.set_cons_zero, List.set_cons_succ]
    refine wpAnyT_take (i := 6) (oi := ⟨_, _, _, _, _, _⟩) (v := ?vr1_6) (by kernel_rfl) (by decide) rfl (by kernel_rfl) (by kernel_rfl) (by kernel_rfl) (fun _ _ _ h => h) (Or.inl ⟨by first | rfl | (show (some _ == some _) = true; simp; done) | (show (some _ == some _) = true; simp; omega), ?hyr1_6⟩) hS ?restr1_6
    case hyr1_6 =>
      intro w' hSw
      obtain ⟨s0, s1⟩ := hSw
      go_simp
      try with_reducible rfl
    try simp only [Act.put, List.setIfInBounds_toArray, List.set_cons_zero, List.set_cons_succ]
    refine wpAnyT_take (i := 7) (oi := ⟨_, _, _, _, _, _⟩) (v := ?vr1_7) (by kernel_rfl) (by decide) rfl (by kernel_rfl) (by kernel_rfl) (by kernel_rfl) (fun _ _ _ h => h) (Or.inl ⟨by first | rfl | (show (some _ == some _) = true; simp; done) | (show (some _ == some _) = true; simp; omega), ?hyr1_7⟩) hS ?restr1_7
    case hyr1_7 =>
      intro w' hSw
      obtain ⟨s0, s1⟩ := hSw
      go_simp
      try with_reducible rfl
    try simp only [Act.put, List.setIfInBounds_toArray, List.set_cons_zero, List.set_cons_succ]
    refine wpAnyT_take (i := 8) (oi := ⟨_, _, _, _, _, _⟩) (v := ?vr1_8) (by kernel_rfl) (by decide) rfl (by kernel_rfl) (by kernel_rfl) (by kernel_rfl) (fun _ _ _ h => h) (Or.inl ⟨by first | rfl | (show (some _ == some _) = true; simp; done) | (show (some _ == some _) = true; simp; omega), ?hyr1_8⟩) hS ?restr1_8
    case hyr1_8 =>
      intro w' hSw
      obtain ⟨s0, s1⟩ := hSw
      go_simp
      try with_reducible rfl
    try simp only [Act.put, List.setIfInBounds_toArray, List.set_cons_zero, List.set_cons_succ]
    refine wpAnyT_take (i := 9) (oi := ⟨_, _, _, _, _, _⟩) (v := ?vr1_9) (by kernel_rfl) (by decide) rfl (by kernel_rfl) (by kernel_rfl) (by kernel_rfl) (fun _ _ _ h => h) (Or.inl ⟨by first | rfl | (show (some _ == some _) = true; simp; done) | (show (some _ == some _) = true; simp; omega), ?hyr1_9⟩) hS ?restr1_9
    case hyr1_9 =>
      intro w' hSw
      obtain ⟨s0, s1⟩ := hSw
      go_simp
      try with_reducible rfl
    try simp only [Act.put, List.setIfInBounds_toArray, List.set_cons_zero, List.set_cons_succ]
    refine wpAnyT_take (i := 10) (oi := ⟨_, _, _, _, _, _⟩) (v := ?vr1_10) (by kernel_rfl) (by decide) rfl (by kernel_rfl) (by kernel_rfl) (by kernel_rfl) (fun _ _ _ h => h) (Or.inl ⟨by rfl, ?hyr1_10⟩) hS ?restr1_10
    case hyr1_10 =>
      intro w' hSw
      obtain ⟨s0, s1⟩ := hSw
      go_simp
      try with_reducible rfl
    try simp only [Act.put, List.setIfInBounds_toArray, List.set_cons_zero, List.set_cons_succ]
    refine wpAnyT_done (by kernel_rfl) ?_ _
    have hb := hcur
    clear hcur hS
    replace cP := cell_later hb cP
    replace cQ := cell_later hb cQ
    replace hP := hP.keep hb
    replace hQ := hQ.keep hb
    replace hB := bthen hB hb
    clear hb
    go_wp2
    have hb := (below0 w4).drew
    replace cP := cell_later hb cP
    replace cQ := cell_later hb cQ
    replace hP := hP.keep hb
    replace hQ := hQ.keep hb
    replace hB := bthen hB hb
    clear hb
    have hcur := below0 (w4).drew
    have hS := And.intro (cP) (cQ)
    refine wp_region_T 5 (by kernel_rfl) (fun w' => w'.cell? ⟨PB, 0, none⟩ = some (.slice (some ⟨ga, 0, none⟩) p.length Cp) ∧ w'.cell? ⟨OB, 0, none⟩ = some (.slice oA R.length oC)) ?_
    refine wpAnyT_take (i := 0) (oi := ⟨_, _, _, _, _, _⟩) (v := ?vr2_0) (by kernel_rfl) (by decide) rfl (by kernel_rfl) (by kernel_rfl) (by kernel_rfl) (fun _ _ _ h => h) (Or.inl ⟨by rfl, ?hyr2_0⟩) hS ?restr2_0
    case hyr2_0 =>
      intro w' hSw
      obtain ⟨s0, s1⟩ := hSw
      go_simp
      try with_reducible rfl
    try simp only [Act.put, List.setIfInBounds_toArray, List.set_cons_zero, List.set_cons_succ]
    refine wpAnyT_take (i := 1) (oi := ⟨_, _, _, _, _, _⟩) (v := ?vr2_1) (by kernel_rfl) (by decide) rfl (by kernel_rfl) (by kernel_rfl) (by kernel_rfl) (fun _ _ _ h => h) (Or.inl ⟨by rfl, ?hyr2_1⟩) hS ?restr2_1
    case hyr2_1 =>
      intro w' hSw
      obtain ⟨s0, s1⟩ := hSw
      go_simp
      try with_reducible rfl
    try simp only [Act.put, List.setIfInBounds_toArray, List.set_cons_zero, List.set_cons_succ]
    refine wpAnyT_ready1 (i := 2) (o := ⟨_, _, _, _, _, _⟩) (by kernel_rfl) rfl (fun KC_ hK => ?_)
    go_simp
    go_at_call 15
    refine (S_BareProgram _ p _ _ ⟨_, rfl, hP.keep hcur⟩).mono ?_
    rintro e w5 ⟨slb, xsb, rfl, hrb, hb⟩
    rw [← HR.out] at hrb
    have hrb := PRowX.blks hrb
    have hcur := bthen hcur hb
    clear hb
    have hS := And.intro (cell_later hcur cP) (cell_later hcur cQ)
    refine hK _ _ (fun _ => hS) ?_
    try simp only [Act.put, List.setIfInBounds_toArray, List.set_cons_zero, List.set_cons_succ]
    refine wpAnyT_ready1 (i := 3) (o := ⟨_, _, _, _, _, _⟩) (by kernel_rfl) rfl (fun KC_ hK => ?_)
    go_simp
    go_at_call 14
    refine (L_sameProgram _ _ R _ _ _ (hQ.keep hcur) hrb).mono ?_
    rintro e w6 ⟨rfl, hb⟩
    have hcur := bthen hcur hb
    clear hb
    have hS := And.intro (cell_later hcur cP) (cell_later hcur cQ)
    refine hK _ _ (fun _ => hS) ?_
    try simp only [Act.put, List.setIfInBounds_toArray, List.set_cons_zero, List.set_cons_succ]
    refine wpAnyT_take (i := 4) (oi := ⟨_, _, _, _, _, _⟩) (v := ?vr2_4) (by kernel_rfl) (by decide) rfl (by kernel_rfl) (by kernel_rfl) (by kernel_rfl) (fun _ _ _ h => h) (Or.inl ⟨by rfl, ?hyr2_4⟩) hS ?restr2_4
    case hyr2_4 =>
      intro w' hSw
      obtain ⟨s0, s1⟩ := hSw
      go_simp
      try with_reducible rfl
    try simp only [Act.put, List.setIfInBounds_toArray, List.set_cons_zero, List.set_cons_succ]
    refine wpAnyT_done (by kernel_rfl) ?_ _
    have hb := hcur
    clear hcur hS
    replace cP := cell_later hb cP
    replace cQ := cell_later hb cQ
    replace hP := hP.keep hb
    replace hQ := hQ.keep hb
    replace hB := bthen hB hb
    clear hb
    go_wp2
    go_ret
    exact ⟨rfl, hB⟩
  have hz : ((R.length : Int) == 0) = false := by rw [beq_eq_false_iff_ne]; omega
  have HNZ := Lib.hid h0
  have hnz1 : 1 ≤ R.length := by omega
  clear h0
  go_wp2
  rw [← HOB.out, ← HWQ.out]
  clear HOB HWQ
  have hb := (below0 WQ).drew
  replace cP := cell_later hb cP
  replace cQ := cell_later hb cQ
  replace hP := hP.keep hb
  replace hQ := hQ.keep hb
  replace hB := bthen hB hb
  clear hb
  have hcur := below0 (WQ).drew
  have hS := And.intro (cP) (cQ)
  refine wp_region_T 11 (by kernel_rfl) (fun w' => w'.cell? ⟨PB, 0, none⟩ = some (.slice (some ⟨ga, 0, none⟩) p.length Cp) ∧ w'.cell? ⟨OB, 0, none⟩ = some (.slice oA R.length oC)) ?_
  refine wpAnyT_take (i := 0) (oi := ⟨_, _, _, _, _, _⟩) (v := ?vr3_0) (by kernel_rfl) (by decide) rfl (by kernel_rfl) (by kernel_rfl) (by kernel_rfl) (fun _ _ _ h => h) (Or.inl ⟨by rfl, ?hyr3_0⟩) hS ?restr3_0
  case hyr3_0 =>
    intro w' hSw
    obtain ⟨s0, s1⟩ := hSw
    go_simp
    try with_reducible rfl
  try simp only [Act.put, List.setIfInBounds_toArray, List.set_cons_zero, List.set_cons_succ]
  refine wpAnyT_take (i := 1) (oi := ⟨_, _, _, _, _, _⟩) (v := ?vr3_1) (by kernel_rfl) (by decide) rfl (by kernel_rfl) (by kernel_rfl) (by kernel_rfl) (fun _ _ _ h => h) (Or.inl ⟨by rfl, ?hyr3_1⟩) hS ?restr3_1
  case hyr3_1 =>
    intro w' hSw
    obtain ⟨s0, s1⟩ := hSw
    go_simp
    try with_reducible rfl
  try simp only [Act.put, List.setIfInBounds_toArray, List.set_cons_zero, List.set_cons_succ]
  refine wpAnyT_ready1 (i := 2) (o := ⟨_, _, _, _, _, _⟩) (by kernel_rfl) rfl (fun KC_ hK => ?_)
  go_simp
  go_at_call 15
  refine (S_BareProgram _ p _ _ ⟨_, rfl, hP.keep hcur⟩).mono ?_
  rintro e w7 ⟨slc, xsc, rfl, hrc, hb⟩
  rw [← HR.out] at hrc
  have hrc := PRowX.blks hrc
  have hcur := bthen hcur hb
  clear hb
  have hS := And.intro (cell_later hcur cP) (cell_later hcur cQ)
  refine hK _ _ (fun _ => hS) ?_
  try simp only [Act.put, List.setIfInBounds_toArray, List.set_cons_zero, List.set_cons_succ]
  refine wpAnyT_ready1 (i := 3) (o := ⟨_, _, _, _, _, _⟩) (by kernel_rfl) rfl (fun KC_ hK => ?_)
  go_simp
  go_at_call 14
  refine (L_sameProgram _ _ R _ _ _ (hQ.keep hcur) hrc).mono ?_
  rintro e w8 ⟨rfl, hb⟩
  have hcur := bthen hcur hb
  clear hb
  have hS := And.intro (cell_later hcur cP) (cell_later hcur cQ)
  refine hK _ _ (fun _ => hS) ?_
  try simp only [Act.put, List.setIfInBounds_toArray, List.set_cons_zero, List.set_cons_succ]
  refine wpAnyT_take (i := 4) (oi := ⟨_, _, _, _, _, _⟩) (v := ?vr3_4) (by kernel_rfl) (by decide) rfl (by kernel_rfl) (by kernel_rfl) (by kernel_rfl) (fun _ _ _ h => h) (Or.inl ⟨by rfl, ?hyr3_4⟩) hS ?restr3_4
  case hyr3_4 =>
    intro w' hSw
    obtain ⟨s0, s1⟩ := hSw
    go_simp
    try with_reducible rfl
  try simp only [Act.put, List.setIfInBounds_toArray, List.set_cons_zero, List.set_cons_succ]
  refine wpAnyT_take (i := 5) (oi := ⟨_, _, _, _, _, _⟩) (v := ?vr3_5) (by kernel_rfl) (by decide) rfl (by kernel_rfl) (by kernel_rfl) (by kernel_rfl) (fun _ _ _ h => h) (Or.inl ⟨by rfl, ?hyr3_5⟩) hS ?restr3_5
  case hyr3_5 =>
    intro w' hSw
    obtain ⟨s0, s1⟩ := hSw
    go_simp
    try with_reducible rfl
  try simp only [Act.put, List.setIfInBounds_toArray, List.set_cons_zero, List.set_cons_succ]
  refine wpAnyT_take (i := 6) (oi := ⟨_, _, _, _, _, _⟩) (v := ?vr3_6) (by kernel_rfl) (by decide) rfl (by kernel_rfl) (by kernel_rfl) (by kernel_rfl) (fun _ _ _ h => h) (Or.inl ⟨by first | rfl | (show (some _ == some _) = true; simp; done) | (show (some _ == some _) = true; simp; omega), ?hyr3_6⟩) hS ?restr3_6
  case hyr3_6 =>
    intro w' hSw
    obtain ⟨s0, s1⟩ := hSw
    go_simp
    try with_reducible rfl
  try simp only [Act.put, List.setIfInBounds_toArray, List.set_cons_zero, List.set_cons_succ]
  refine wpAnyT_take (i := 7) (oi := ⟨_, _, _, _, _, _⟩) (v := ?vr3_7) (by kernel_rfl) (by decide) rfl (by kernel_rfl) (by kernel_rfl) (by kernel_rfl) (fun _ _ _ h => h) (Or.inl ⟨by first | rfl | (show (some _ == some _) = true; simp; done) | (show (some _ == some _) = true; simp; omega), ?hyr3_7⟩) hS ?restr3_7
  case hyr3_7 =>
    intro w' hSw
    obtain ⟨s0, s1⟩ := hSw
    go_simp
    try with_reducible rfl
  try simp only [Act.put, List.setIfInBounds_toArray, List.set_cons_zero, List.set_cons_succ]
  refine wpAnyT_take (i := 8) (oi := ⟨_, _, _, _, _, _⟩) (v := ?vr3_8) (by kernel_rfl) (by decide) rfl (by kernel_rfl) (by kernel_rfl) (by kernel_rfl) (fun _ _ _ h => h) (Or.inl ⟨by first | rfl | (show (some _ == some _) = true; simp; done) | (show (some _ == some _) = true; simp; omega), ?hyr3_8⟩) hS ?restr3_8
  case hyr3_8 =>
    intro w' hSw
    obtain ⟨s0, s1⟩ := hSw
    go_simp
    try with_reducible rfl
  try simp only [Act.put, List.setIfInBounds_toArray, List.set_cons_zero, List.set_cons_succ]
  refine wpAnyT_take (i := 9) (oi := ⟨_, _, _, _, _, _⟩) (v := ?vr3_9) (by kernel_rfl) (by decide) rfl (by kernel_rfl) (by kernel_rfl) (by kernel_rfl) (fun _ _ _ h => h) (Or.inl ⟨by first | rfl | (show (some _ == some _) = true; simp; done) | (show (some _ == some _) = true; simp; omega), ?hyr3_9⟩) hS ?restr3_9
  case hyr3_9 =>
    intro w' hSw
    obtain ⟨s0, s1⟩ := hSw
    go_simp
    try with_reducible rfl
  try simp only [Act.put, List.setIfInBounds_toArray, List.set_cons_zero, List.set_cons_succ]
  refine wpAnyT_take (i := 10) (oi := ⟨_, _, _, _, _, _⟩) (v := ?vr3_10) (by kernel_rfl) (by decide) rfl (by kernel_rfl) (by kernel_rfl) (by kernel_rfl) (fun _ _ _ h => h) (Or.inl ⟨by rfl, ?hyr3_10⟩) hS ?restr3_10
  case hyr3_10 =>
    intro w' hSw
    obtain ⟨s0, s1⟩ := hSw
    go_simp
    try with_reducible rfl
  try simp only [Act.put, List.setIfInBounds_toArray, List.set_cons_zero, List.set_cons_succ]
  refine wpAnyT_done (by kernel_rfl) ?_ _
  have hb := hcur
  clear hcur hS
  replace cP := cell_later hb cP
  replace cQ := cell_later hb cQ
  replace hP := hP.keep hb
  replace hQ := hQ.keep hb
  replace hB := bthen hB hb
  clear hb
  clear hrc
  have hrl : R.length ≤ 7 := by have := HR.out; have := HNZ.out; have := shape_len (validP_shape (rBare_valid (p := p) (by rw [← HR.out]; exact HNZ.out))); rw [← HR.out] at this; omega
  go_wp2
  go_loopw [5] (fun i wi => ∃ k : Nat, k ≤ R.length ∧ 1 ≤ k ∧ i = .int .i64 k ∧ Below w8.heap.size w8 wi) (fun i _ => R.length - (intOf i).toNat)
  case atStart => exact ⟨1, hnz1, Nat.le_refl _, rfl, below0 _⟩
  case round =>
    obtain ⟨k, hk, hk1, rfl, hb⟩ := hrel
    have hBik := hb
    replace cP := cell_later hb cP
    replace cQ := cell_later hb cQ
    replace hP := hP.keep hb
    replace hQ := hQ.keep hb
    replace hB := bthen hB hb
    clear hb
    by_cases hltk : k < R.length
    · skip
      go_wp2_with fail
      refine (I_BoundIn _ R _ k _ ⟨_, rfl, hQ⟩).mono ?_
      rintro e w9 ⟨y, rfl, hy, hb⟩
      replace cP := cell_later hb cP
      replace cQ := cell_later hb cQ
      replace hP := hP.keep hb
      replace hQ := hQ.keep hb
      replace hB := bthen hB hb
      replace hBik := bthen hBik hb
      clear hb
      have hown : ∀ x ∈ rBound R k, rOwner R k x = k := fun x hx => by
        have h1 := bare_owns (p := p) (by rw [← HR.out]; exact HNZ.out) (k : Int) x (by omega) (by rw [← HR.out]; omega) (by rw [← HR.out]; exact hx)
        rw [← HR.out] at h1
        exact h1
      have HOWN := Lib.hid hown
      have hyl : (rBound R k).length ≤ 8 := by unfold rBound; split; exact nms_len _; exact Nat.zero_le _
      clear hown
      obtain ⟨yA, yC, yg, ye, _, yc, yh, yl, ycell, _⟩ := hy.rd
      unfold maxLen at yc
      have Hyc := Lib.hid ycell
      clear ycell
      subst ye
      go_wp2
      go_loopw [7] (fun i wi => ∃ m : Nat, m ≤ (rBound R k).length ∧ i = .int .i64 m ∧ Below w9.heap.size w9 wi) (fun i _ => (rBound R k).length - (intOf i).toNat)
      case atStart => exact ⟨0, Nat.zero_le _, rfl, below0 _⟩
      case round =>
        obtain ⟨m, hm, rfl, hb⟩ := hrel
        have hBim := hb
        replace cP := cell_later hb cP
        replace cQ := cell_later hb cQ
        replace hP := hP.keep hb
        replace hQ := hQ.keep hb
        replace hy := hy.keep hb
        replace hB := bthen hB hb
        replace hBik := bthen hBik hb
        clear hb
        by_cases hltm : m < (rBound R k).length
        · skip
          have c1 := cell_later hBim (Hyc.out m hltm)
          obtain rfl := yh (by omega)
          have hk3 : rOwner R k ((rBound R k).getD m 0) = k := HOWN.out _ (by rw [show (rBound R k).getD m 0 = (rBound R k)[m] by simp [List.getD, hltm]]; exact List.getElem_mem _)
          generalize (rBound R k).getD m 0 = K at *
          have HK := Lib.hid hk3
          clear hk3
          have hn2 : ((k : Int) != (k : Int)) = false := by simp
          have hmm0 : (0 : Int) ≤ (m : Int) := by omega
          have hmm1 : (m : Int) < ((rBound R k).length : Int) := by omega
          have hkk0 : (0 : Int) ≤ (k : Int) := by omega
          go_wp2
          have hb := (below0 wr).drew
          replace cP := cell_later hb cP
          replace cQ := cell_later hb cQ
          replace c1 := cell_later hb c1
          replace hP := hP.keep hb
          replace hQ := hQ.keep hb
          replace hy := hy.keep hb
          replace hB := bthen hB hb
          replace hBik := bthen hBik hb
          replace hBim := bthen hBim hb
          clear hb
          have hcur := below0 (wr).drew
          have hS := And.intro (cP) (And.intro (cQ) (c1))
          refine wp_region_T 9 (by kernel_rfl) (fun w' => w'.cell? ⟨PB, 0, none⟩ = some (.slice (some ⟨ga, 0, none⟩) p.length Cp) ∧ w'.cell? ⟨OB, 0, none⟩ = some (.slice oA R.length oC) ∧ w'.cell? ⟨yg, m, none⟩ = some (.int .i64 K)) ?_
          refine wpAnyT_take (i := 0) (oi := ⟨_, _, _, _, _, _⟩) (v := ?vr4_0) (by kernel_rfl) (by decide) rfl (by kernel_rfl) (by kernel_rfl) (by kernel_rfl) (fun _ _ _ h => h) (Or.inl ⟨by rfl, ?hyr4_0⟩) hS ?restr4_0
          case hyr4_0 =>
            intro w' hSw
            obtain ⟨s0, s1, s2⟩ := hSw
            go_simp
            try with_reducible rfl
          try simp only [Act.put, List.setIfInBounds_toArray, List.set_cons_zero, List.set_cons_succ]
          refine wpAnyT_take (i := 1) (oi := ⟨_, _, _, _, _, _⟩) (v := ?vr4_1) (by kernel_rfl) (by decide) rfl (by kernel_rfl) (by kernel_rfl) (by kernel_rfl) (fun _ _ _ h => h) (Or.inl ⟨by rfl, ?hyr4_1⟩) hS ?restr4_1
          case hyr4_1 =>
            intro w' hSw
            obtain ⟨s0, s1, s2⟩ := hSw
            go_simp
            try with_reducible rfl
          try simp only [Act.put, List.setIfInBounds_toArray, List.set_cons_zero, List.set_cons_succ]
          refine wpAnyT_take (i := 2) (oi := ⟨_, _, _, _, _, _⟩) (v := ?vr4_2) (by kernel_rfl) (by decide) rfl (by kernel_rfl) (by kernel_rfl) (by kernel_rfl) (fun _ _ _ h => h) (Or.inl ⟨by rfl, ?hyr4_2⟩) hS ?restr4_2
          case hyr4_2 =>
            intro w' hSw
            obtain ⟨s0, s1, s2⟩ := hSw
            go_simp
            try with_reducible rfl
          try simp only [Act.put, List.setIfInBounds_toArray, List.set_cons_zero, List.set_cons_succ]
          refine wpAnyT_take (i := 3) (oi := ⟨_, _, _, _, _, _⟩) (v := ?vr4_3) (by kernel_rfl) (by decide) rfl (by kernel_rfl) (by kernel_rfl) (by kernel_rfl) (fun _ _ _ h => h) (Or.inl ⟨by rfl, ?hyr4_3⟩) hS ?restr4_3
          case hyr4_3 =>
            intro w' hSw
            obtain ⟨s0, s1, s2⟩ := hSw
            go_simp
            try with_reducible rfl
          try simp only [Act.put, List.setIfInBounds_toArray, List.set_cons_zero, List.set_cons_succ]
          refine wpAnyT_take (i := 4) (oi := ⟨_, _, _, _, _, _⟩) (v := ?vr4_4) (by kernel_rfl) (by decide) rfl (by kernel_rfl) (by kernel_rfl) (by kernel_rfl) (fun _ _ _ h => h) (Or.inl ⟨by rfl, ?hyr4_4⟩) hS ?restr4_4
          case hyr4_4 =>
            intro w' hSw
            obtain ⟨s0, s1, s2⟩ := hSw
            go_simp
            try with_reducible rfl
          try simp only [Act.put, List.setIfInBounds_toArray, List.set_cons_zero, List.set_cons_succ]
          refine wpAnyT_take (i := 5) (oi := ⟨_, _, _, _, _, _⟩) (v := ?vr4_5) (by kernel_rfl) (by decide) rfl (by kernel_rfl) (by kernel_rfl) (by kernel_rfl) (fun _ _ _ h => h) (Or.inl ⟨by rfl, ?hyr4_5⟩) hS ?restr4_5
          case hyr4_5 =>
            intro w' hSw
            obtain ⟨s0, s1, s2⟩ := hSw
            go_simp
            try with_reducible rfl
          try simp only [Act.put, List.setIfInBounds_toArray, List.set_cons_zero, List.set_cons_succ]
          refine wpAnyT_take (i := 7) (oi := ⟨_, _, _, _, _, _⟩) (v := ?vr4_7) (by kernel_rfl) (by decide) rfl (by kernel_rfl) (by kernel_rfl) (by kernel_rfl) (fun _ _ _ h => h) (Or.inl ⟨by rfl, ?hyr4_7⟩) hS ?restr4_7
          case hyr4_7 =>
            intro w' hSw
            obtain ⟨s0, s1, s2⟩ := hSw
            go_simp
            try with_reducible rfl
          try simp only [Act.put, List.setIfInBounds_toArray, List.set_cons_zero, List.set_cons_succ]
          refine wpAnyT_ready1 (i := 6) (o := ⟨_, _, _, _, _, _⟩) (by kernel_rfl) rfl (fun KC_ hK => ?_)
          go_simp
          go_at_call 17
          refine (I_OwnerOf _ R _ k K _ ⟨_, rfl, hQ.keep hcur⟩).mono ?_
          rintro e w10 ⟨rfl, hb⟩
          rw [HK.out]
          have hcur := bthen hcur hb
          clear hb
          have hS := And.intro (cell_later hcur cP) (And.intro (cell_later hcur cQ) (cell_later hcur c1))
          refine hK _ _ (fun _ => hS) ?_
          try simp only [Act.put, List.setIfInBounds_toArray, List.set_cons_zero, List.set_cons_succ]
          refine wpAnyT_take (i := 8) (oi := ⟨_, _, _, _, _, _⟩) (v := ?vr4_8) (by kernel_rfl) (by decide) rfl (by kernel_rfl) (by kernel_rfl) (by kernel_rfl) (fun _ _ _ h => h) (Or.inl ⟨by rfl, ?hyr4_8⟩) hS ?restr4_8
          case hyr4_8 =>
            intro w' hSw
            obtain ⟨s0, s1, s2⟩ := hSw
            go_simp
            try with_reducible rfl
          try simp only [Act.put, List.setIfInBounds_toArray, List.set_cons_zero, List.set_cons_succ]
          refine wpAnyT_done (by kernel_rfl) ?_ _
          have hb := hcur
          clear hcur hS
          replace cP := cell_later hb cP
          replace cQ := cell_later hb cQ
          replace c1 := cell_later hb c1
          replace hP := hP.keep hb
          replace hQ := hQ.keep hb
          replace hy := hy.keep hb
          replace hB := bthen hB hb
          replace hBik := bthen hBik hb
          replace hBim := bthen hBim hb
          clear hb
          go_wp2
          go_roundw
          case rel => exact ⟨m + 1, by omega, by go_num, hBim⟩
          case measure => simp [intOf]; omega
        obtain rfl : m = (rBound R k).length := by omega
        go_wp2
        go_roundw
        case rel => exact ⟨k + 1, by omega, by omega, by go_num, hBik⟩
        case measure => simp [intOf]; omega
    obtain rfl : k = R.length := by omega
    have HVR := Lib.hid (show validP R = true by rw [HR.out]; exact rBare_valid (by rw [← HR.out]; exact HNZ.out))
    have HRR := Lib.hid (show rBare R = R by rw [HR.out]; exact rBare_bare p)
    go_wp2
    have hb := (below0 wr).drew
    replace cP := cell_later hb cP
    replace cQ := cell_later hb cQ
    replace hP := hP.keep hb
    replace hQ := hQ.keep hb
    replace hB := bthen hB hb
    clear hb
    have hcur := below0 (wr).drew
    have hS := And.intro (cP) (cQ)
    refine wp_region_T 9 (by kernel_rfl) (fun w' => w'.cell? ⟨PB, 0, none⟩ = some (.slice (some ⟨ga, 0, none⟩) p.length Cp) ∧ w'.cell? ⟨OB, 0, none⟩ = some (.slice oA R.length oC)) ?_
    refine wpAnyT_take (i := 0) (oi := ⟨_, _, _, _, _, _⟩) (v := ?vr5_0) (by kernel_rfl) (by decide) rfl (by kernel_rfl) (by kernel_rfl) (by kernel_rfl) (fun _ _ _ h => h) (Or.inl ⟨by rfl, ?hyr5_0⟩) hS ?restr5_0
    case hyr5_0 =>
      intro w' hSw
      obtain ⟨s0, s1⟩ := hSw
      go_simp
      try with_reducible rfl
    try simp only [Act.put, List.setIfInBounds_toArray, List.set_cons_zero, List.set_cons_succ]
    refine wpAnyT_ready1 (i := 1) (o := ⟨_, _, _, _, _, _⟩) (by kernel_rfl) rfl (fun KC_ hK => ?_)
    go_simp
    go_at_call 8
    refine (I_ValidProgram _ R _ _ ⟨_, rfl, hQ.keep hcur⟩).mono ?_
    rintro e w11 ⟨rfl, hb⟩
    rw [HVR.out]
    have hcur := bthen hcur hb
    clear hb
    have hS := And.intro (cell_later hcur cP) (cell_later hcur cQ)
    refine hK _ _ (fun _ => hS) ?_
    try simp only [Act.put, List.setIfInBounds_toArray, List.set_cons_zero, List.set_cons_succ]
    refine wpAnyT_take (i := 2) (oi := ⟨_, _, _, _, _, _⟩) (v := ?vr5_2) (by kernel_rfl) (by decide) rfl (by kernel_rfl) (by kernel_rfl) (by kernel_rfl) (fun _ _ _ h => h) (Or.inl ⟨by rfl, ?hyr5_2⟩) hS ?restr5_2
    case hyr5_2 =>
      intro w' hSw
      obtain ⟨s0, s1⟩ := hSw
      go_simp
      try with_reducible rfl
    try simp only [Act.put, List.setIfInBounds_toArray, List.set_cons_zero, List.set_cons_succ]
    refine wpAnyT_take (i := 3) (oi := ⟨_, _, _, _, _, _⟩) (v := ?vr5_3) (by kernel_rfl) (by decide) rfl (by kernel_rfl) (by kernel_rfl) (by kernel_rfl) (fun _ _ _ h => h) (Or.inl ⟨by first | rfl | (show (some _ == some _) = true; simp; done) | (show (some _ == some _) = true; simp; omega), ?hyr5_3⟩) hS ?restr5_3
    case hyr5_3 =>
      intro w' hSw
      obtain ⟨s0, s1⟩ := hSw
      go_simp
      try with_reducible rfl
    try simp only [Act.put, List.setIfInBounds_toArray, List.set_cons_zero, List.set_cons_succ]
    refine wpAnyT_take (i := 5) (oi := ⟨_, _, _, _, _, _⟩) (v := ?vr5_5) (by kernel_rfl) (by decide) rfl (by kernel_rfl) (by kernel_rfl) (by kernel_rfl) (fun _ _ _ h => h) (Or.inl ⟨by first | rfl | (show (some _ == some _) = true; simp; done) | (show (some _ == some _) = true; simp; omega), ?hyr5_5⟩) hS ?restr5_5
    case hyr5_5 =>
      intro w' hSw
      obtain ⟨s0, s1⟩ := hSw
      go_simp
      try with_reducible rfl
    try simp only [Act.put, List.setIfInBounds_toArray, List.set_cons_zero, List.set_cons_succ]
    refine wpAnyT_ready1 (i := 4) (o := ⟨_, _, _, _, _, _⟩) (by kernel_rfl) rfl (fun KC_ hK => ?_)
    try rw [if_pos (by first | rfl | (show (some _ == some _) = true; simp; done) | (show (some _ == some _) = true; simp; omega))]
    go_simp
    go_at_call 11
    refine (I_BareProgram _ R _ _ ⟨_, rfl, hQ.keep hcur⟩).mono ?_
    rintro e w12 ⟨sld, xsd, rfl, hrd, _, hb⟩
    rw [HRR.out] at hrd
    have hrd := PRowX.blks hrd
    have hcur := bthen hcur hb
    clear hb
    have hS := And.intro (cell_later hcur cP) (cell_later hcur cQ)
    refine hK _ _ (fun _ => hS) ?_
    try simp only [Act.put, List.setIfInBounds_toArray, List.set_cons_zero, List.set_cons_succ]
    refine wpAnyT_ready1 (i := 6) (o := ⟨_, _, _, _, _, _⟩) (by kernel_rfl) rfl (fun KC_ hK => ?_)
    try rw [if_pos (by first | rfl | (show (some _ == some _) = true; simp; done) | (show (some _ == some _) = true; simp; omega))]
    go_simp
    go_at_call 14
    refine (L_sameProgram _ _ R _ _ _ hrd (hQ.keep hcur)).mono ?_
    rintro e w13 ⟨rfl, hb⟩
    have hcur := bthen hcur hb
    clear hb
    have hS := And.intro (cell_later hcur cP) (cell_later hcur cQ)
    refine hK _ _ (fun _ => hS) ?_
    try simp only [Act.put, List.setIfInBounds_toArray, List.set_cons_zero, List.set_cons_succ]
    refine wpAnyT_take (i := 7) (oi := ⟨_, _, _, _, _, _⟩) (v := ?vr5_7) (by kernel_rfl) (by decide) rfl (by kernel_rfl) (by kernel_rfl) (by kernel_rfl) (fun _ _ _ h => h) (Or.inl ⟨by rfl, ?hyr5_7⟩) hS ?restr5_7
    case hyr5_7 =>
      intro w' hSw
      obtain ⟨s0, s1⟩ := hSw
      go_simp
      try with_reducible rfl
    try simp only [Act.put, List.setIfInBounds_toArray, List.set_cons_zero, List.set_cons_succ]
    refine wpAnyT_take (i := 8) (oi := ⟨_, _, _, _, _, _⟩) (v := ?vr5_8) (by kernel_rfl) (by decide) rfl (by kernel_rfl) (by kernel_rfl) (by kernel_rfl) (fun _ _ _ h => h) (Or.inl ⟨by rfl, ?hyr5_8⟩) hS ?restr5_8
    case hyr5_8 =>
      intro w' hSw
      obtain ⟨s0, s1⟩ := hSw
      go_simp
      try with_reducible rfl
    try simp only [Act.put, List.setIfInBounds_toArray, List.set_cons_zero, List.set_cons_succ]
    refine wpAnyT_done (by kernel_rfl) ?_ _
    have hb := hcur
    clear hcur hS
    replace cP := cell_later hb cP
    replace cQ := cell_later hb cQ
    replace hP := hP.keep hb
    replace hQ := hQ.keep hb
    replace hB := bthen hB hb
    clear hb
    go_wp2
    go_ret
    exact ⟨rfl, hB⟩

theorem own : ownKnob Try.prog.godebug = none := by kernel_rfl
theorem laidOut : laidOutB Try.prog = true := by kernel_rfl

set_option maxRecDepth 100000 in
theorem lifted (os : Os) (started : os.Started) (H : Type) (enc : TypeId × Value → H) :
    ReturnsInHanded {} Try.checked os 4 .any (Rows.fnBareProgramSpec.pre6 enc Try.prog Try.f4 Rows.fnBareProgramRow.domain false) (Rows.fnBareProgramSpec.post enc Try.prog Try.f4 false true false false) := by
  refine returnsInHanded_of_change (C := Try.checked) own started (by kernel_rfl) Try.func4
    (ChangeSpec.witness6 (enc := enc) (C := Try.checked) false ⟨#[], #[.slice none 0 0], []⟩ 8 (by kernel_rfl) (by kernel_rfl) (by kernel_rfl) (by kernel_rfl)) ?_
  intro W base args ds gs before hval0 hW hcnd _
  have hval : ∀ (j : Nat) t v, Try.f4.params[j]? = some t → args[j]? = some v → Value.okWide Try.prog W .any base t v := hval0
  have hW' := hW
  obtain ⟨p, q, hA0, hV, rfl, hfz, hnd⟩ := hW
  have hA : DataW.TrodAll enc Try.prog W 0 (fun _ => true) true Try.f4.params.toList args.toList ds p := hA0
  rw [Try.params4] at hA hval
  obtain ⟨v0, d0, rfl, rfl, h0⟩ := trodAll_one hA
  obtain ⟨rfl, rfl⟩ := trodVars_none hV
  clear hA0 hval0
  simp only [List.append_nil] at hW'
  have hlt : ∀ x ∈ p, x.block < W.heap.size := fun x hx => hW'.lt x hx
  obtain ⟨q0, hq0⟩ := open_obytes (hval 0 22 v0 rfl rfl) h0
  refine (walk v0 q0 W hq0).mono fun e W' ⟨he, hb⟩ => ?_
  subst he
  exact ⟨_, rfl, post_of_below (pa := _) (pv := []) hW' (fun _ _ _ => (trodAll_cons_mk (shut_bool Try.underlying4 _) trodAll_mk0)) (fun sp hsp => (trodAll_cons_mk (WideElems.Trod_stays laidOut (by kernel_rfl) (of_decide_eq_true (by kernel_rfl)) h0 (fun x hx => hb.same (hlt x (hx))) (fun x hx => hsp x (hx))) trodAll_mk0)) (fun _ _ => rfl) (by simp)
    hb (ok_one (by kernel_rfl) rfl (okWide_bool_mk Try.underlying4 _))⟩

theorem closed : joinedFacts Try.pinned.checked.prog 4 Try.f4 Rows.fnBareProgramSpec Rows.fnBareProgramRow = true := by
  show joinedFacts Try.prog 4 Try.f4 Rows.fnBareProgramSpec Rows.fnBareProgramRow = true
  unfold joinedFacts
  rw [may_enter, lifts_not, make_cut]
  kernel_rfl

theorem over : Rows.fnBareProgramRow.holds Try.pinned (OpenSpec.ofChange Rows.fnBareProgramSpec) :=
  OpenClaim.holds_of_wide 4 Try.f4 rfl rfl rfl rfl rfl rfl rfl ⟨rfl, rfl, rfl, rfl, rfl⟩ rfl rfl rfl rfl rfl (by kernel_rfl) Try.func4 closed
    (of_decide_eq_true (by kernel_rfl)) (by unfold Func.isWrapper; first | (rw [if_pos (by decide +kernel)]; kernel_rfl) | (rw [if_neg (by decide +kernel)]; exact ⟨rfl, rfl⟩))
    (fun os started H enc _ => lifted os started H enc)

theorem proved : Rows.FnBareProgramSaid := over
#print axioms proved
end Go.Proofs.Ytiemhadpepbcjaa.bareProgram
