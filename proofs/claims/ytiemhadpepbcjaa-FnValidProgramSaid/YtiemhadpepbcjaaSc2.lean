/-
  Walks: the program's scopes: isWithin. Condition: the scopes lie in memory as data.
-/
import Derived.Test.YtiemhadpepbcjaaSc1
import Derived.Deep.LoopGhost
namespace Go.Proofs.Ytiemhadpepbcjaa
open Go.RowKit
set_option linter.unusedVariables false

theorem inside_step {p : Pr} {b m : Int} (hb : 0 ≤ b) (hm : 0 < m) (hne : m ≠ b) : inside p b (up p m) = inside p b m := by
  have hu := up_lt p m (by omega)
  by_cases h : b < m
  · rw [inside_up h (by omega)]
  · rw [inside_end h, inside_end (by omega), show (m == b) = false by simp [hne], beq_eq_false_iff_ne]
    omega

section
variable (A : Nat → Nat) (p : Pr) (lo : Nat) (i : Nat) (b : Int) (w : World)

end

end Go.Proofs.Ytiemhadpepbcjaa
