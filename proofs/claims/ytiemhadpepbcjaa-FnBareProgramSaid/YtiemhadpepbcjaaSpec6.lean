/-
  Walks: the reference's ChildrenOf, inside, InsideOf, DepthOf, ReadIn, BoundIn, DeclaredIn. Condition: the argument reads as a program.
-/
import Derived.Test.YtiemhadpepbcjaaSpec5
namespace Go.Proofs.Ytiemhadpepbcjaa
open Go.RowKit
set_option linter.unusedVariables false

/-- A box that lies below. -/
theorem boxAt {w w' : World} {o : Obj} {v : Value} (h : Below (w.alloc o).heap.size (w.alloc o) w') (hc : (w.alloc o).cell? ⟨w.heap.size, 0, none⟩ = some v) : w'.cell? ⟨w.heap.size, 0, none⟩ = some v :=
  (h.cell (p := ⟨w.heap.size, 0, none⟩) (by simp)).trans hc

theorem boxAt1 {w w' : World} {v : Value} {t : TypeId} (h : Below (w.alloc (.cells #[v] t)).heap.size (w.alloc (.cells #[v] t)) w') : w'.cell? ⟨w.heap.size, 0, none⟩ = some v :=
  boxAt h (by simp [go_sem])

theorem Ints.one' (w : World) (B : Nat) (hB : w.heap.size = B) (lo : Nat) (a : Int) (hl : lo ≤ B) : Ints (w.alloc (.cells #[.int .i64 a] 3)) lo (.slice (some ⟨B, 0, none⟩) 1 1) [a] := by
  subst hB
  exact Ints.one w lo a hl

end Go.Proofs.Ytiemhadpepbcjaa
