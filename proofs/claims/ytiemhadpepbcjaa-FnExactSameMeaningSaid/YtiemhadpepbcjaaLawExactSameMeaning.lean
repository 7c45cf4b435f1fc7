/-
  The law FnExactSameMeaning: for every input it answers true and leaves its arguments as they were. No condition.
-/
import Derived.Test.YtiemhadpepbcjaaFrame
import Derived.Test.YtiemhadpepbcjaaFacts
import Derived.Test.YtiemhadpepbcjaaEq
import Derived.Test.YtiemhadpepbcjaaDwS
import Derived.Test.YtiemhadpepbcjaaHeld
namespace Go.Proofs.Ytiemhadpepbcjaa.exactSameMeaning
open Go.ChangeShapes Go.WideShapes Go.ChangeAt Go.RowKit
set_option linter.unusedVariables false

set_option maxRecDepth 100000 in
set_option maxHeartbeats 2000000 in
theorem walk (v : Value) (p : Pr) (u : Value) (q : Pr) (w : World) (hv : OProg w v p) (hu : OProg w u q) :
    Calls Try.prog 6 #[v, u] w fun e w' => e = .returned (.bool true) ∧ Below w.heap.size w w' := by
  obtain ⟨sl, rfl, hv'⟩ := hv
  obtain ⟨_, ⟨A0, C0, _, _, rfl, _⟩, _⟩ := id hv'
  have HV := Lib.hid (show OProg w (.agg #[.slice A0 p.length C0]) p from ⟨_, rfl, hv'⟩)
  obtain ⟨sl2, rfl, hu'⟩ := hu
  obtain ⟨_, ⟨A1, C1, _, _, rfl, _⟩, _⟩ := id hu'
  have HU := Lib.hid (show OProg w (.agg #[.slice A1 q.length C1]) q from ⟨_, rfl, hu'⟩)
  clear hv' hu'
  by_cases hsz : (p.size : Int) ≤ 1048576
  case neg =>
    have e1 : left_ 1048576 p.size = -1 := by unfold left_; rw [if_neg hsz]
    have E1 := Lib.hid e1
    clear e1
    go_enter Try.func6, Try.ntmps6
    go_wp2_with fail
    refine (szProgram_any _ p 1048576 _ (HV.out.keep al2) (by omega) (by omega)).mono ?_
    rintro e w1 ⟨rfl, hb1⟩
    rw [E1.out]
    have hB := bthen (al2 (w := w)) hb1
    have c0 : w1.cell? ⟨w.heap.size, 0, none⟩ = some (.slice A0 p.length C0) := cell_later hb1 (by simp [go_sem])
    have c1 : w1.cell? ⟨w.heap.size + 1, 0, none⟩ = some (.slice A1 q.length C1) := cell_later hb1 (by simp [go_sem])
    clear hb1
    go_wp2
    go_ret
    exact ⟨rfl, hB⟩
  have e1 : left_ 1048576 p.size = 1048576 - p.size := by unfold left_; rw [if_pos hsz]
  have E1 := Lib.hid e1
  have hs1 : p.size ≤ 1048576 := by omega
  clear e1
  by_cases hsz2 : (q.size : Int) ≤ 1048576 - p.size
  case neg =>
    have e2 : left_ (1048576 - p.size) q.size = -1 := by unfold left_; rw [if_neg hsz2]
    have E2 := Lib.hid e2
    clear e2
    go_enter Try.func6, Try.ntmps6
    go_wp2_with fail
    refine (szProgram_any _ p 1048576 _ (HV.out.keep al2) (by omega) (by omega)).mono ?_
    rintro e w1 ⟨rfl, hb1⟩
    rw [E1.out]
    have hB := bthen (al2 (w := w)) hb1
    have c0 : w1.cell? ⟨w.heap.size, 0, none⟩ = some (.slice A0 p.length C0) := cell_later hb1 (by simp [go_sem])
    have c1 : w1.cell? ⟨w.heap.size + 1, 0, none⟩ = some (.slice A1 q.length C1) := cell_later hb1 (by simp [go_sem])
    clear hb1
    go_wp2_with fail
    refine (szProgram_any _ q (1048576 - p.size) _ (HU.out.keep hB) (by omega) (by omega)).mono ?_
    rintro e w2 ⟨rfl, hb2⟩
    rw [E2.out]
    have hB := bthen hB hb2
    have c0 := cell_later hb2 c0
    have c1 := cell_later hb2 c1
    clear hb2
    go_wp2
    go_ret
    exact ⟨rfl, hB⟩
  have e2 : left_ (1048576 - p.size) q.size = 1048576 - p.size - q.size := by unfold left_; rw [if_pos hsz2]
  have E2 := Lib.hid e2
  have hs2 : q.size ≤ 1048576 := by omega
  have hge : ¬ (1048576 - (p.size : Int) - q.size < 0) := by omega
  clear e2
  go_enter Try.func6, Try.ntmps6
  go_wp2_with fail
  refine (szProgram_any _ p 1048576 _ (HV.out.keep al2) (by omega) (by omega)).mono ?_
  rintro e w1 ⟨rfl, hb1⟩
  rw [E1.out]
  have hB := bthen (al2 (w := w)) hb1
  have c0 : w1.cell? ⟨w.heap.size, 0, none⟩ = some (.slice A0 p.length C0) := cell_later hb1 (by simp [go_sem])
  have c1 : w1.cell? ⟨w.heap.size + 1, 0, none⟩ = some (.slice A1 q.length C1) := cell_later hb1 (by simp [go_sem])
  clear hb1
  go_wp2_with fail
  refine (szProgram_any _ q (1048576 - p.size) _ (HU.out.keep hB) (by omega) (by omega)).mono ?_
  rintro e w2 ⟨rfl, hb2⟩
  rw [E2.out]
  have hB := bthen hB hb2
  have c0 := cell_later hb2 c0
  have c1 := cell_later hb2 c1
  clear hb2
  go_wp2
  obtain ⟨W2, hW2⟩ : ∃ W2 : World, W2 = w2.drew := ⟨_, rfl⟩
  have hB : Below w.heap.size w W2 := by rw [hW2]; exact hB.drew
  have c0 : W2.cell? ⟨w.heap.size, 0, none⟩ = some (.slice A0 p.length C0) := by rw [hW2]; exact c0
  have c1 : W2.cell? ⟨w.heap.size + 1, 0, none⟩ = some (.slice A1 q.length C1) := by rw [hW2]; exact c1
  have hcur := below0 W2
  have hS := And.intro (c0) (c1)
  refine wp_region_T 6 (by kernel_rfl) (fun w' => w'.cell? ⟨w.heap.size, 0, none⟩ = some (.slice A0 p.length C0) ∧ w'.cell? ⟨w.heap.size + 1, 0, none⟩ = some (.slice A1 q.length C1)) ?_
  rw [← hW2]
  clear hW2
  refine wpAnyT_take (i := 0) (oi := ⟨_, _, _, _, _, _⟩) (v := ?vr1_0) (by kernel_rfl) (by decide) rfl (by kernel_rfl) (by kernel_rfl) (by kernel_rfl) (fun _ _ _ h => h) (Or.inl ⟨by rfl, ?hyr1_0⟩) hS ?restr1_0
  case hyr1_0 =>
    intro w' hSw
    obtain ⟨s0, s1⟩ := hSw
    go_simp
    try with_reducible rfl
  try simp only [Act.put, List.setIfInBounds_toArray, List.set_cons_zero, List.set_cons_succ]
  refine wpAnyT_take (i := 2) (oi := ⟨_, _, _, _, _, _⟩) (v := ?vr1_2) (by kernel_rfl) (by decide) rfl (by kernel_rfl) (by kernel_rfl) (by kernel_rfl) (fun _ _ _ h => h) (Or.inl ⟨by rfl, ?hyr1_2⟩) hS ?restr1_2
  case hyr1_2 =>
    intro w' hSw
    obtain ⟨s0, s1⟩ := hSw
    go_simp
    try with_reducible rfl
  try simp only [Act.put, List.setIfInBounds_toArray, List.set_cons_zero, List.set_cons_succ]
  refine wpAnyT_ready1 (i := 1) (o := ⟨_, _, _, _, _, _⟩) (by kernel_rfl) rfl (fun KC_ hK => ?_)
  go_simp
  go_at_call 20
  refine (toProgram_any _ p _ (HV.out.keep (bthen hB hcur)) hs1).mono ?_
  rintro e w3 ⟨v3, rfl, hp3, hb⟩
  have hcur := bthen hcur hb
  clear hb
  have hS := And.intro (cell_later hcur c0) (cell_later hcur c1)
  refine hK _ _ (fun _ => hS) ?_
  try simp only [Act.put, List.setIfInBounds_toArray, List.set_cons_zero, List.set_cons_succ]
  refine wpAnyT_ready1 (i := 3) (o := ⟨_, _, _, _, _, _⟩) (by kernel_rfl) rfl (fun KC_ hK => ?_)
  go_simp
  go_at_call 20
  refine (toProgram_any _ q _ (HU.out.keep (bthen hB hcur)) hs2).mono ?_
  rintro e w4 ⟨v4, rfl, hp4, hb⟩
  have hp3 := hp3.keep hb
  have hcur := bthen hcur hb
  clear hb
  have hS := And.intro (cell_later hcur c0) (cell_later hcur c1)
  refine hK _ _ (fun _ => hS) ?_
  try simp only [Act.put, List.setIfInBounds_toArray, List.set_cons_zero, List.set_cons_succ]
  refine wpAnyT_ready1 (i := 4) (o := ⟨_, _, _, _, _, _⟩) (by kernel_rfl) rfl (fun KC_ hK => ?_)
  go_simp
  go_at_call 27
  refine (S_SameMeaning _ _ p q _ _ _ hp3 hp4).mono ?_
  rintro e w5 ⟨rfl, hb⟩
  have hcur := bthen hcur hb
  clear hb
  have hS := And.intro (cell_later hcur c0) (cell_later hcur c1)
  refine hK _ _ (fun _ => hS) ?_
  try simp only [Act.put, List.setIfInBounds_toArray, List.set_cons_zero, List.set_cons_succ]
  refine wpAnyT_take (i := 5) (oi := ⟨_, _, _, _, _, _⟩) (v := ?vr1_5) (by kernel_rfl) (by decide) rfl (by kernel_rfl) (by kernel_rfl) (by kernel_rfl) (fun _ _ _ h => h) (Or.inl ⟨by rfl, ?hyr1_5⟩) hS ?restr1_5
  case hyr1_5 =>
    intro w' hSw
    obtain ⟨s0, s1⟩ := hSw
    go_simp
    try with_reducible rfl
  try simp only [Act.put, List.setIfInBounds_toArray, List.set_cons_zero, List.set_cons_succ]
  refine wpAnyT_done (by kernel_rfl) ?_ _
  have hB := bthen hB hcur
  have c0 := cell_later hcur c0
  have c1 := cell_later hcur c1
  clear hp3 hp4 hcur hS
  go_wp2_with fail
  refine (toProgram_any _ p _ (HV.out.keep hB) hs1).mono ?_
  rintro e w6 ⟨v6, rfl, hp6, hb⟩
  have hB := bthen hB hb
  have c0 := cell_later hb c0
  have c1 := cell_later hb c1
  obtain ⟨sl6, rfl, hbl6⟩ := hp6
  obtain ⟨A6, C6, rfl⟩ := hbl6.form
  have m0 : w.heap.size < w6.heap.size := World.block_lt_of_cell? _ _ c0
  have m1 : w.heap.size + 1 < w6.heap.size := World.block_lt_of_cell? _ _ c1
  clear hb
  go_wp2_with fail
  obtain ⟨W6, hW6⟩ : ∃ W6 : World, W6 = w6.alloc (.cells #[.slice A6 p.length C6] 25) := ⟨_, rfl⟩
  have hb : Below w6.heap.size w6 W6 := by rw [hW6]; exact al1
  have d0 : W6.cell? ⟨w6.heap.size, 0, none⟩ = some (.slice A6 p.length C6) := by rw [hW6]; simp [go_sem]
  rw [← hW6]
  have hB := bthen hB hb
  have c0 := cell_later hb c0
  have c1 := cell_later hb c1
  have hbl6 := hbl6.keep hb
  clear hb hW6
  refine (toProgram_any _ q _ (HU.out.keep hB) hs2).mono ?_
  rintro e w7 ⟨v7, rfl, hp7, hb⟩
  have hB := bthen hB hb
  have c0 := cell_later hb c0
  have c1 := cell_later hb c1
  have d0 := cell_later hb d0
  have hbl6 := hbl6.keep hb
  obtain ⟨sl7, rfl, hbl7⟩ := hp7
  obtain ⟨A7, C7, rfl⟩ := hbl7.form
  have n0 : w6.heap.size < w7.heap.size := World.block_lt_of_cell? _ _ d0
  clear hb
  go_wp2_with fail
  obtain ⟨W7, hW7⟩ : ∃ W7 : World, W7 = w7.alloc (.cells #[.slice A7 q.length C7] 25) := ⟨_, rfl⟩
  have hb : Below w7.heap.size w7 W7 := by rw [hW7]; exact al1
  have d1 : W7.cell? ⟨w7.heap.size, 0, none⟩ = some (.slice A7 q.length C7) := by rw [hW7]; simp [go_sem]
  rw [← hW7]
  have hB := bthen hB hb
  have c0 := cell_later hb c0
  have c1 := cell_later hb c1
  have d0 := cell_later hb d0
  have hbl6 := hbl6.keep hb
  have hbl7 := hbl7.keep hb
  clear hb hW7
  refine (I_SameMeaning _ _ p q _ _ _ ⟨_, rfl, hbl6⟩ ⟨_, rfl, hbl7⟩).mono ?_
  rintro e w8 ⟨rfl, hb⟩
  have hB := bthen hB hb
  have c0 := cell_later hb c0
  have c1 := cell_later hb c1
  have d0 := cell_later hb d0
  have d1 := cell_later hb d1
  have hbl6 := hbl6.keep hb
  have hbl7 := hbl7.keep hb
  clear hb
  have hne : (rSame p q != rSame p q) = false := by simp
  generalize rSame p q = R at *
  go_wp2
  obtain ⟨W8, hW8⟩ : ∃ W8 : World, W8 = w8.drew := ⟨_, rfl⟩
  have hB : Below w.heap.size w W8 := by rw [hW8]; exact hB.drew
  have hbl6 := hbl6.keep (below0 w8).drew
  rw [← hW8] at hbl6
  have hbl7 := hbl7.keep (below0 w8).drew
  rw [← hW8] at hbl7
  have c0 : W8.cell? ⟨w.heap.size, 0, none⟩ = some (.slice A0 p.length C0) := by rw [hW8]; exact c0
  have c1 : W8.cell? ⟨w.heap.size + 1, 0, none⟩ = some (.slice A1 q.length C1) := by rw [hW8]; exact c1
  have d0 : W8.cell? ⟨w6.heap.size, 0, none⟩ = some (.slice A6 p.length C6) := by rw [hW8]; exact d0
  have d1 : W8.cell? ⟨w7.heap.size, 0, none⟩ = some (.slice A7 q.length C7) := by rw [hW8]; exact d1
  have hcur := below0 W8
  have hS := And.intro (c0) (And.intro (c1) (And.intro (d0) (d1)))
  refine wp_region_T 5 (by kernel_rfl) (fun w' => w'.cell? ⟨w.heap.size, 0, none⟩ = some (.slice A0 p.length C0) ∧ w'.cell? ⟨w.heap.size + 1, 0, none⟩ = some (.slice A1 q.length C1) ∧ w'.cell? ⟨w6.heap.size, 0, none⟩ = some (.slice A6 p.length C6) ∧ w'.cell? ⟨w7.heap.size, 0, none⟩ = some (.slice A7 q.length C7)) ?_
  rw [← hW8]
  clear hW8
  refine wpAnyT_take (i := 0) (oi := ⟨_, _, _, _, _, _⟩) (v := ?vr2_0) (by kernel_rfl) (by decide) rfl (by kernel_rfl) (by kernel_rfl) (by kernel_rfl) (fun _ _ _ h => h) (Or.inl ⟨by rfl, ?hyr2_0⟩) hS ?restr2_0
  case hyr2_0 =>
    intro w' hSw
    obtain ⟨s0, s1, s2, s3⟩ := hSw
    go_simp
    try with_reducible rfl
  try simp only [Act.put, List.setIfInBounds_toArray, List.set_cons_zero, List.set_cons_succ]
  refine wpAnyT_take (i := 1) (oi := ⟨_, _, _, _, _, _⟩) (v := ?vr2_1) (by kernel_rfl) (by decide) rfl (by kernel_rfl) (by kernel_rfl) (by kernel_rfl) (fun _ _ _ h => h) (Or.inl ⟨by rfl, ?hyr2_1⟩) hS ?restr2_1
  case hyr2_1 =>
    intro w' hSw
    obtain ⟨s0, s1, s2, s3⟩ := hSw
    go_simp
    try with_reducible rfl
  try simp only [Act.put, List.setIfInBounds_toArray, List.set_cons_zero, List.set_cons_succ]
  refine wpAnyT_ready1 (i := 2) (o := ⟨_, _, _, _, _, _⟩) (by kernel_rfl) rfl (fun KC_ hK => ?_)
  go_simp
  go_at_call 20
  refine (toProgram_any _ p _ (HV.out.keep (bthen hB hcur)) hs1).mono ?_
  rintro e w9 ⟨v9, rfl, hp9, hb⟩
  have hcur := bthen hcur hb
  clear hb
  have hS := And.intro (cell_later hcur c0) (And.intro (cell_later hcur c1) (And.intro (cell_later hcur d0) (cell_later hcur d1)))
  refine hK _ _ (fun _ => hS) ?_
  try simp only [Act.put, List.setIfInBounds_toArray, List.set_cons_zero, List.set_cons_succ]
  refine wpAnyT_ready1 (i := 3) (o := ⟨_, _, _, _, _, _⟩) (by kernel_rfl) rfl (fun KC_ hK => ?_)
  go_simp
  go_at_call 23
  refine (eqProgram_any _ v9 p p _ _ _ ⟨_, rfl, hbl6.keep hcur⟩ hp9).mono ?_
  rintro e wa ⟨rfl, hb⟩
  rw [beq_self_eq_true]
  have hcur := bthen hcur hb
  clear hb
  have hS := And.intro (cell_later hcur c0) (And.intro (cell_later hcur c1) (And.intro (cell_later hcur d0) (cell_later hcur d1)))
  refine hK _ _ (fun _ => hS) ?_
  try simp only [Act.put, List.setIfInBounds_toArray, List.set_cons_zero, List.set_cons_succ]
  refine wpAnyT_take (i := 4) (oi := ⟨_, _, _, _, _, _⟩) (v := ?vr2_4) (by kernel_rfl) (by decide) rfl (by kernel_rfl) (by kernel_rfl) (by kernel_rfl) (fun _ _ _ h => h) (Or.inl ⟨by rfl, ?hyr2_4⟩) hS ?restr2_4
  case hyr2_4 =>
    intro w' hSw
    obtain ⟨s0, s1, s2, s3⟩ := hSw
    go_simp
    try with_reducible rfl
  try simp only [Act.put, List.setIfInBounds_toArray, List.set_cons_zero, List.set_cons_succ]
  refine wpAnyT_done (by kernel_rfl) ?_ _
  have hB := bthen hB hcur
  have c0 := cell_later hcur c0
  have c1 := cell_later hcur c1
  have d0 := cell_later hcur d0
  have d1 := cell_later hcur d1
  have hbl7 := hbl7.keep hcur
  clear hcur hS hp9
  go_wp2
  obtain ⟨Wa, hWa⟩ : ∃ Wa : World, Wa = wa.drew := ⟨_, rfl⟩
  have hB : Below w.heap.size w Wa := by rw [hWa]; exact hB.drew
  have hbl7 := hbl7.keep (below0 wa).drew
  rw [← hWa] at hbl7
  have c0 : Wa.cell? ⟨w.heap.size, 0, none⟩ = some (.slice A0 p.length C0) := by rw [hWa]; exact c0
  have c1 : Wa.cell? ⟨w.heap.size + 1, 0, none⟩ = some (.slice A1 q.length C1) := by rw [hWa]; exact c1
  have d0 : Wa.cell? ⟨w6.heap.size, 0, none⟩ = some (.slice A6 p.length C6) := by rw [hWa]; exact d0
  have d1 : Wa.cell? ⟨w7.heap.size, 0, none⟩ = some (.slice A7 q.length C7) := by rw [hWa]; exact d1
  have hcur := below0 Wa
  have hS := And.intro (c0) (And.intro (c1) (And.intro (d0) (d1)))
  refine wp_region_T 5 (by kernel_rfl) (fun w' => w'.cell? ⟨w.heap.size, 0, none⟩ = some (.slice A0 p.length C0) ∧ w'.cell? ⟨w.heap.size + 1, 0, none⟩ = some (.slice A1 q.length C1) ∧ w'.cell? ⟨w6.heap.size, 0, none⟩ = some (.slice A6 p.length C6) ∧ w'.cell? ⟨w7.heap.size, 0, none⟩ = some (.slice A7 q.length C7)) ?_
  rw [← hWa]
  clear hWa
  refine wpAnyT_take (i := 0) (oi := ⟨_, _, _, _, _, _⟩) (v := ?vr3_0) (by kernel_rfl) (by decide) rfl (by kernel_rfl) (by kernel_rfl) (by kernel_rfl) (fun _ _ _ h => h) (Or.inl ⟨by rfl, ?hyr3_0⟩) hS ?restr3_0
  case hyr3_0 =>
    intro w' hSw
    obtain ⟨s0, s1, s2, s3⟩ := hSw
    go_simp
    try with_reducible rfl
  try simp only [Act.put, List.setIfInBounds_toArray, List.set_cons_zero, List.set_cons_succ]
  refine wpAnyT_take (i := 1) (oi := ⟨_, _, _, _, _, _⟩) (v := ?vr3_1) (by kernel_rfl) (by decide) rfl (by kernel_rfl) (by kernel_rfl) (by kernel_rfl) (fun _ _ _ h => h) (Or.inl ⟨by rfl, ?hyr3_1⟩) hS ?restr3_1
  case hyr3_1 =>
    intro w' hSw
    obtain ⟨s0, s1, s2, s3⟩ := hSw
    go_simp
    try with_reducible rfl
  try simp only [Act.put, List.setIfInBounds_toArray, List.set_cons_zero, List.set_cons_succ]
  refine wpAnyT_ready1 (i := 2) (o := ⟨_, _, _, _, _, _⟩) (by kernel_rfl) rfl (fun KC_ hK => ?_)
  go_simp
  go_at_call 20
  refine (toProgram_any _ q _ (HU.out.keep (bthen hB hcur)) hs2).mono ?_
  rintro e wb ⟨vb, rfl, hpb, hb⟩
  have hcur := bthen hcur hb
  clear hb
  have hS := And.intro (cell_later hcur c0) (And.intro (cell_later hcur c1) (And.intro (cell_later hcur d0) (cell_later hcur d1)))
  refine hK _ _ (fun _ => hS) ?_
  try simp only [Act.put, List.setIfInBounds_toArray, List.set_cons_zero, List.set_cons_succ]
  refine wpAnyT_ready1 (i := 3) (o := ⟨_, _, _, _, _, _⟩) (by kernel_rfl) rfl (fun KC_ hK => ?_)
  go_simp
  go_at_call 23
  refine (eqProgram_any _ vb q q _ _ _ ⟨_, rfl, hbl7.keep hcur⟩ hpb).mono ?_
  rintro e wc ⟨rfl, hb⟩
  rw [beq_self_eq_true]
  have hcur := bthen hcur hb
  clear hb
  have hS := And.intro (cell_later hcur c0) (And.intro (cell_later hcur c1) (And.intro (cell_later hcur d0) (cell_later hcur d1)))
  refine hK _ _ (fun _ => hS) ?_
  try simp only [Act.put, List.setIfInBounds_toArray, List.set_cons_zero, List.set_cons_succ]
  refine wpAnyT_take (i := 4) (oi := ⟨_, _, _, _, _, _⟩) (v := ?vr3_4) (by kernel_rfl) (by decide) rfl (by kernel_rfl) (by kernel_rfl) (by kernel_rfl) (fun _ _ _ h => h) (Or.inl ⟨by rfl, ?hyr3_4⟩) hS ?restr3_4
  case hyr3_4 =>
    intro w' hSw
    obtain ⟨s0, s1, s2, s3⟩ := hSw
    go_simp
    try with_reducible rfl
  try simp only [Act.put, List.setIfInBounds_toArray, List.set_cons_zero, List.set_cons_succ]
  refine wpAnyT_done (by kernel_rfl) ?_ _
  have hB := bthen hB hcur
  have c0 := cell_later hcur c0
  have c1 := cell_later hcur c1
  have d0 := cell_later hcur d0
  have d1 := cell_later hcur d1
  go_wp2
  go_ret
  exact ⟨rfl, hB⟩

theorem own : ownKnob Try.prog.godebug = none := by kernel_rfl
theorem laidOut : laidOutB Try.prog = true := by kernel_rfl

set_option maxRecDepth 100000 in
theorem lifted (os : Os) (started : os.Started) (H : Type) (enc : TypeId × Value → H) :
    ReturnsInHanded {} Try.checked os 6 .any (Rows.fnExactSameMeaningSpec.pre6 enc Try.prog Try.f6 Rows.fnExactSameMeaningRow.domain false) (Rows.fnExactSameMeaningSpec.post enc Try.prog Try.f6 false true false false) := by
  refine returnsInHanded_of_change (C := Try.checked) own started (by kernel_rfl) Try.func6
    (ChangeSpec.witness6 (enc := enc) (C := Try.checked) false ⟨#[], #[.agg #[.slice none 0 0], .agg #[.slice none 0 0]], []⟩ 8 (by kernel_rfl) (by kernel_rfl) (by kernel_rfl) (by kernel_rfl)) ?_
  intro W base args ds gs before hval0 hW hcnd _
  have hval : ∀ (j : Nat) t v, Try.f6.params[j]? = some t → args[j]? = some v → Value.okWide Try.prog W .any base t v := hval0
  have hW' := hW
  obtain ⟨p, q, hA0, hV, rfl, hfz, hnd⟩ := hW
  have hA : DataW.TrodAll enc Try.prog W 0 (fun _ => true) true Try.f6.params.toList args.toList ds p := hA0
  rw [Try.params6] at hA hval
  obtain ⟨v0, v1, d0, d1, p0, p1, rfl, rfl, rfl, h0, h1⟩ := trodAll_two hA
  obtain ⟨rfl, rfl⟩ := trodVars_none hV
  clear hA0 hval0
  simp only [List.append_nil] at hW'
  have hlt : ∀ x ∈ p0 ++ p1, x.block < W.heap.size := fun x hx => hW'.lt x hx
  obtain ⟨q0, hq0⟩ := open_oprog (hval 0 36 v0 rfl rfl) h0
  obtain ⟨q1, hq1⟩ := open_oprog (hval 1 36 v1 rfl rfl) h1
  refine (walk v0 q0 v1 q1 W hq0 hq1).mono fun e W' ⟨he, hb⟩ => ?_
  subst he
  exact ⟨_, rfl, post_of_below (pa := _) (pv := []) hW' (fun _ _ _ => (trodAll_cons_mk (shut_bool Try.underlying4 _) trodAll_mk0)) (fun sp hsp => (trodAll_cons_mk (WideElems.Trod_stays laidOut (by kernel_rfl) (of_decide_eq_true (by kernel_rfl)) h0 (fun x hx => hb.same (hlt x (by simp [hx]))) (fun x hx => hsp x (by simp [hx]))) (trodAll_cons_mk (WideElems.Trod_stays laidOut (by kernel_rfl) (of_decide_eq_true (by kernel_rfl)) h1 (fun x hx => hb.same (hlt x (by simp [hx]))) (fun x hx => hsp x (by simp [hx]))) trodAll_mk0))) (fun _ _ => rfl) (by simp)
    hb (ok_one (by kernel_rfl) rfl (okWide_bool_mk Try.underlying4 _))⟩

theorem closed : joinedFacts Try.pinned.checked.prog 6 Try.f6 Rows.fnExactSameMeaningSpec Rows.fnExactSameMeaningRow = true := by
  show joinedFacts Try.prog 6 Try.f6 Rows.fnExactSameMeaningSpec Rows.fnExactSameMeaningRow = true
  unfold joinedFacts
  rw [may_enter, lifts_not, make_cut]
  kernel_rfl

theorem over : Rows.fnExactSameMeaningRow.holds Try.pinned (OpenSpec.ofChange Rows.fnExactSameMeaningSpec) :=
  OpenClaim.holds_of_wide 6 Try.f6 rfl rfl rfl rfl rfl rfl rfl ⟨rfl, rfl, rfl, rfl, rfl⟩ rfl rfl rfl rfl rfl (by kernel_rfl) Try.func6 closed
    (of_decide_eq_true (by kernel_rfl)) (by unfold Func.isWrapper; first | (rw [if_pos (by decide +kernel)]; kernel_rfl) | (rw [if_neg (by decide +kernel)]; exact ⟨rfl, rfl⟩))
    (fun os started H enc _ => lifted os started H enc)

theorem proved : Rows.FnExactSameMeaningSaid := over
#print axioms proved
end Go.Proofs.Ytiemhadpepbcjaa.exactSameMeaning
