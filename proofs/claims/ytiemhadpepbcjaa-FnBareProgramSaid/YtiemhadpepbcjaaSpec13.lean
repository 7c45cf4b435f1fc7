/-
  Walks: the reference's frees, FreesOf. Condition: the argument reads as a program.
-/
import Derived.Test.YtiemhadpepbcjaaSpec12
namespace Go.Proofs.Ytiemhadpepbcjaa
open Go.RowKit
set_option linter.unusedVariables false

theorem freeG_yes {p : Pr} {b : Int} {c : Nat} (h : inside p b c = true) : freeG p b c = (usedF p c).filter (fun x => decide (0 < ownerF p c x) && decide (ownerF p c x < b)) := by unfold freeG; rw [if_pos h]
theorem freeG_no {p : Pr} {b : Int} {c : Nat} (h : inside p b c = false) : freeG p b c = [] := by unfold freeG; rw [h]; rfl

end Go.Proofs.Ytiemhadpepbcjaa
