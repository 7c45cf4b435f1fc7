/-
  Walks: the program's ReadIn, BoundIn. Condition: the argument reads as a program.
-/
import Derived.Test.YtpajkejdfalkiaaDoorImpl6
import Derived.Test.YtpajkejdfalkiaaDoorImpl7
namespace Go.Proofs.YtpajkejdfalkiaaDoor
open Go.RowKit
set_option linter.unusedVariables false

section
variable {p : Pr} (h : shape p = true) (b : Int) (h0 : 0 ≤ b) (h1 : b < p.length)
theorem body_mem (l : List St) (j : Nat) (hj : j < l.length) : l.getD j default ∈ l := by
  have : l.getD j default = l[j] := by simp [List.getD, hj]
  rw [this]
  exact List.getElem_mem hj
include h h0 h1
theorem shape_kinds : ∀ j, j < (p.bk b).body.length → 0 ≤ ((p.bk b).body.getD j default).kind ∧ ((p.bk b).body.getD j default).kind ≤ 11 :=
  fun j hj => stmtS_kind (shape_stmt h b h0 h1 _ (body_mem _ j hj))
theorem shape_tos : ∀ j, j < (p.bk b).body.length → 0 ≤ ((p.bk b).body.getD j default).to ∧ ((p.bk b).body.getD j default).to ≤ 7 :=
  fun j hj => stmtS_to (shape_stmt h b h0 h1 _ (body_mem _ j hj))
theorem shape_rds : ∀ j, j < (p.bk b).body.length → ∀ x ∈ ((p.bk b).body.getD j default).reads, 0 ≤ x ∧ x ≤ 7 :=
  fun j hj => stmtS_reads (shape_stmt h b h0 h1 _ (body_mem _ j hj))
end

end Go.Proofs.YtpajkejdfalkiaaDoor
