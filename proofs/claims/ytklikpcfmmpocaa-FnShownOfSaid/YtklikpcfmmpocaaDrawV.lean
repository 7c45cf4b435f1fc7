/-
  Walks: impl's and the reference's ShownOf, and the draw of a value. Condition: the bytes stand in memory.
-/
import Derived.Test.YtklikpcfmmpocaaDraw2
import Derived.Test.YtklikpcfmmpocaaSpec6
namespace Go.Proofs.Ytklikpcfmmpocaa
open Go.RowKit
set_option linter.unusedVariables false

def shownF (a b : Int) : Int := if a = 1 then b else if a = 2 then -2 else if a = 3 then -3 else -1
set_option maxRecDepth 100000 in
theorem S_shown (a b : Int) (w : World) :
    Calls Try.prog 123 #[.agg #[.int .i64 a, .int .i64 b]] w fun e w' => e = .returned (.int .i64 (shownF a b)) ∧ Below w.heap.size w w' := by
  generalize hR : shownF a b = R
  unfold shownF at hR
  by_cases h1 : a = 1
  · have b1 : (a == 1) = true := by simp [h1]
    rw [if_pos h1] at hR
    have HR := Lib.hid hR
    clear hR h1
    go_enter Try.func123, Try.ntmps123
    go_wp2
    go_ret
    exact ⟨ret_int HR.out, al1⟩
  · have b1 : (a == 1) = false := by simp [h1]
    rw [if_neg h1] at hR
    by_cases h2 : a = 2
    · have b2 : (a == 2) = true := by simp [h2]
      rw [if_pos h2] at hR
      have HR := Lib.hid hR
      clear hR h1 h2
      go_enter Try.func123, Try.ntmps123
      go_wp2
      go_ret
      exact ⟨ret_int HR.out, al1⟩
    · have b2 : (a == 2) = false := by simp [h2]
      rw [if_neg h2] at hR
      by_cases h3 : a = 3
      · have b3 : (a == 3) = true := by simp [h3]
        rw [if_pos h3] at hR
        have HR := Lib.hid hR
        clear hR h1 h2 h3
        go_enter Try.func123, Try.ntmps123
        go_wp2
        go_ret
        exact ⟨ret_int HR.out, al1⟩
      · have b3 : (a == 3) = false := by simp [h3]
        rw [if_neg h3] at hR
        have HR := Lib.hid hR
        clear hR h1 h2 h3
        go_enter Try.func123, Try.ntmps123
        go_wp2
        go_ret
        exact ⟨ret_int HR.out, al1⟩

set_option maxRecDepth 100000 in
theorem I_ShownOf (a b : Int) (w : World) :
    Calls Try.prog 33 #[.agg #[.int .i64 a, .int .i64 b]] w fun e w' => e = .returned (.int .i64 (shownF a b)) ∧ Below w.heap.size w w' := by
  generalize hR : shownF a b = R
  unfold shownF at hR
  by_cases h1 : a = 1
  · have b1 : (a == 1) = true := by simp [h1]
    rw [if_pos h1] at hR
    have HR := Lib.hid hR
    clear hR h1
    go_enter Try.func33, Try.ntmps33
    go_wp2
    go_ret
    exact ⟨ret_int HR.out, al1⟩
  · have b1 : (a == 1) = false := by simp [h1]
    rw [if_neg h1] at hR
    by_cases h2 : a = 2
    · have b2 : (a == 2) = true := by simp [h2]
      rw [if_pos h2] at hR
      have HR := Lib.hid hR
      clear hR h1 h2
      go_enter Try.func33, Try.ntmps33
      go_wp2
      go_ret
      exact ⟨ret_int HR.out, al1⟩
    · have b2 : (a == 2) = false := by simp [h2]
      rw [if_neg h2] at hR
      by_cases h3 : a = 3
      · have b3 : (a == 3) = true := by simp [h3]
        rw [if_pos h3] at hR
        have HR := Lib.hid hR
        clear hR h1 h2 h3
        go_enter Try.func33, Try.ntmps33
        go_wp2
        go_ret
        exact ⟨ret_int HR.out, al1⟩
      · have b3 : (a == 3) = false := by simp [h3]
        rw [if_neg h3] at hR
        have HR := Lib.hid hR
        clear hR h1 h2 h3
        go_enter Try.func33, Try.ntmps33
        go_wp2
        go_ret
        exact ⟨ret_int HR.out, al1⟩

set_option maxRecDepth 100000 in
theorem S_ShownOf (a b : Int) (w : World) :
    Calls Try.prog 34 #[.agg #[.int .i64 a, .int .i64 b]] w fun e w' => e = .returned (.int .i64 (shownF a b)) ∧ Below w.heap.size w w' := by
  go_enter Try.func34, Try.ntmps34
  go_wp2_with (go_at_call 123; refine (S_shown a b _).mono ?_; rintro e w1 ⟨rfl, hb1⟩)
  go_ret
  exact ⟨rfl, bthen al1 hb1⟩


set_option maxRecDepth 100000 in
theorem S_DrawShownOf (v : Value) (l : List Int) (w : World) (hv : OBytes w v l) (hl : l.length ≤ 1048576) :
    Calls Try.prog 32 #[v] w fun e w' => ∃ a b : Int, e = .returned (.agg #[.int .i64 a, .int .i64 b]) ∧ (a = 0 ∨ a = 1 ∨ a = 2 ∨ a = 3 ∨ a = 4 ∨ a = -1) ∧ Below w.heap.size w w' := by
  have hv1 := hv.keep (al1 (o := (.cells #[.int .i64 0, .int .i64 0] 24)))
  go_enter Try.func32, Try.ntmps32
  go_wp2_with fail
  refine (S_newReader v l _ hv1 hl).mono ?_
  rintro e w1 ⟨rfl, hr, hb, hz⟩
  have HR := Lib.hid hr
  rw [World.size_alloc] at hr
  have hb1 := bthen al1 hb
  have r1 := fun o => (bcell hb).1 w.heap.size o (by simp)
  have m1 := fun o => (bcell hb).2 w.heap.size o (by simp)
  have hcur := Only.refl (w.heap.size + 1) (w.heap.size + 1 + 1) w1
  clear hz HR
  go_wp2_with fail
  refine (S_oneL (w.heap.size + 1) _ [0, 1, 2, 3, 4, -1] _ _ rfl hr (by omega) (by simp) (by simp)).mono ?_
  rintro e w2 ⟨a, rfl, ha, hr, ho⟩
  have hcur := hcur.trans ho
  go_wp2_with fail
  refine (S_oneL (w.heap.size + 1) _ [0, 5, 999, -7] _ _ rfl hr (by omega) (by simp) (by simp)).mono ?_
  rintro e w3 ⟨b, rfl, _, hr, ho2⟩
  have hcur := hcur.trans ho2
  have hz1 : w.heap.size < w1.heap.size := by have := hb.size; simp at this; omega
  have r3 := fun o => ((ocell hcur).1 w.heap.size o (by omega) hz1).trans (r1 o)
  have m3 := fun o => ((ocell hcur).2 w.heap.size o (by omega) hz1).trans (m1 o)
  clear r1 m1
  go_wp2
  exact bodyPost_ret (v := .agg #[.int .i64 a, .int .i64 b]) (by simp [results, Try.results32, go_sem, r3]) rfl
    ⟨a, b, rfl, by simpa using ha, ((hb1.trans ((hcur.below (by have := hb.size; simp at this; omega)).mono (by omega))).setCell (Nat.le_refl _) _).setCell (Nat.le_refl _) _⟩

end Go.Proofs.Ytklikpcfmmpocaa
