/-
  Walks: the program's UsedIn, TouchedBy. Condition: the argument reads as a program.
-/
import Derived.Test.YtpajkejdfalkiaaDoorImpl9
import Derived.Test.YtpajkejdfalkiaaDoorSpec10
namespace Go.Proofs.YtpajkejdfalkiaaDoor
open Go.RowKit
set_option linter.unusedVariables false

theorem SetAt.put {w : World} {b : Nat} {f g : Int → Bool} (h : SetAt w b f) (x : Nat) (v : Bool) (hg : ∀ y : Nat, y < 8 → g y = if y = x then v else f y) : SetAt (w.setCell ⟨b, x, none⟩ (.bool v)) b g := by
  refine (World.rowIs.set h x (.bool v)).congr fun j hj => ?_
  rw [hg j hj]
  by_cases e : j = x
  · rw [if_pos e, if_pos e]
  · rw [if_neg e, if_neg e]

theorem Scopes.set {w : World} {lo : Nat} {A : Nat → Nat} {p : Pr} (h : Scopes w lo A p) {a : Addr} (ha : a.block < lo) (u : Value) : Scopes (w.setCell a u) lo A p :=
  fun i hi => ⟨(h i hi).1, (h i hi).2.setOther (by have := (h i hi).1; omega)⟩

/-- The names below m for which f holds. -/
def cutTo (f : Int → Bool) (m : Nat) (y : Int) : Bool := decide (y < m) && f y
theorem cutTo_zero (f : Int → Bool) (y : Int) (h : 0 ≤ y) : cutTo f 0 y = false := by unfold cutTo; rw [decide_eq_false (by omega)]; rfl
theorem cutTo_all (f : Int → Bool) (y : Int) (h : y ≤ 7) : cutTo f 8 y = f y := by unfold cutTo; rw [decide_eq_true (by omega)]; rfl
theorem cutTo_put (f : Int → Bool) (m : Nat) (y : Nat) : cutTo f (m + 1) y = if y = m then f m else cutTo f m y := by
  unfold cutTo
  by_cases e : y = m
  · subst e; rw [if_pos rfl, decide_eq_true (by omega)]; rfl
  · rw [if_neg e]
    congr 1
    rw [decide_eq_decide]
    omega
theorem cutTo_add (f : Int → Bool) (m : Nat) (h : f m = true) (y : Int) : cutTo f (m + 1) y = (cutTo f m y || (m : Int) == y) := by
  unfold cutTo
  by_cases e : (m : Int) = y
  · subst e; rw [decide_eq_true (by omega), h]; simp
  · rw [show ((m : Int) == y) = false by simp [e], Bool.or_false]
    congr 1
    rw [decide_eq_decide]
    omega
theorem cutTo_no (f : Int → Bool) (m : Nat) (h : f m = false) (y : Int) : cutTo f (m + 1) y = cutTo f m y := by
  unfold cutTo
  by_cases e : (m : Int) = y
  · subst e; rw [h, Bool.and_false, Bool.and_false]
  · congr 1
    rw [decide_eq_decide]
    omega

end Go.Proofs.YtpajkejdfalkiaaDoor
