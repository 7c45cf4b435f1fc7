/-
  Walks: the reference's fasts, symbol, CellsOf, FastsOf, SymbolOf. Condition: the argument reads as a program.
-/
import Derived.Test.YtiemhadpepbcjaaSpec11
namespace Go.Proofs.Ytiemhadpepbcjaa
open Go.RowKit
set_option linter.unusedVariables false

theorem fastB_yes {p : Pr} {b : Int} (hs : shape p = true) (hb : 0 ≤ b) (hk : (p.bk b).kind = 1) (x : Int) : fastB p b x = (locP p b x && !cellB p b x) := by
  have h0 : b ≠ 0 := by
    rintro rfl
    rw [(shape_par0 hs).2.1] at hk
    omega
  unfold fastB locP
  rw [decide_eq_true hk, Bool.true_and, decide_eq_true (by omega), Bool.true_and]
theorem fastB_no {p : Pr} {b : Int} (hk : (p.bk b).kind ≠ 1) (x : Int) : fastB p b x = false := by
  unfold fastB
  rw [decide_eq_false hk, Bool.false_and]

end Go.Proofs.Ytiemhadpepbcjaa
