/-
  The reference's ownersOf, OwnersOf: the plain part. No condition.
-/
import Derived.Test.YtiemhadpepbcjaaSpec16
import Derived.Test.YtiemhadpepbcjaaLists
namespace Go.Proofs.Ytiemhadpepbcjaa
open Go.RowKit
set_option linter.unusedVariables false

/-- Who owns the names that a block reads or binds; -2 where it does neither. -/
def ownAt (p : Pr) (c x : Int) : Int := if (p.bk c).readB x || (p.bk c).boundB x then ownerF p c x else -2
def ownTo (p : Pr) (c : Int) : Nat → List Int
  | 0 => []
  | m + 1 => ownTo p c m ++ [ownAt p c m]
def ownRows (p : Pr) : Nat → List (List Int)
  | 0 => []
  | c + 1 => ownRows p c ++ [ownTo p c 8]
def rOwners (p : Pr) : List (List Int) := if validP p then ownRows p p.length else []
theorem ownTo_len (p : Pr) (c : Int) : ∀ m, (ownTo p c m).length = m
  | 0 => rfl
  | m + 1 => by rw [ownTo, List.length_append, ownTo_len p c m]; rfl
theorem ownRows_len (p : Pr) : ∀ m, (ownRows p m).length = m
  | 0 => rfl
  | m + 1 => by rw [ownRows, List.length_append, ownRows_len p m]; rfl
theorem ownAt_eq {p : Pr} {c x : Int} (h0 : 0 ≤ x) (h1 : x ≤ 7) : ownAt p c x = if hasF (readF p c ++ boundF p c) x then ownerF p c x else -2 := by
  have e : ∀ l : List Int, hasF l x = l.contains x := fun _ => rfl
  rw [e, List.contains_append, ← e, ← e]
  unfold readF boundF ownAt
  rw [hasF_nms _ x h0 h1, hasF_nms _ x h0 h1]
theorem RowsOf.zero {w : World} {B lo : Nat} (hB : w.heap.size = B) (hl : lo ≤ B) : RowsOf (w.alloc (.cells #[] 31)) lo (.slice (some ⟨B, 0, none⟩) 0 0) [] [] := by
  subst hB
  refine ⟨?_, fun i hi => absurd hi (Nat.not_lt_zero _), fun i j hi => absurd hi (Nat.not_lt_zero _)⟩
  have h := World.ownsRow_lit (base := lo) (e := 31) (size := 1) w #[] 0 hl (by unfold maxLen; omega) (by simp)
  simpa using h
theorem RowsOf.form {w : World} {lo : Nat} {v : Value} {us : List Value} {ll : List (List Int)} (h : RowsOf w lo v us ll) : ∃ A C, v = .slice A ll.length C := by
  obtain ⟨A, C, _, hv, _⟩ := own_rd h.1
  exact ⟨A, C, hv⟩
theorem RowsOf.nil (w : World) (lo : Nat) : RowsOf w lo (.slice none 0 0) [] [] :=
  ⟨World.ownsRow_nil w lo _ _, fun i hi => absurd hi (Nat.not_lt_zero _), fun i j hi => absurd hi (Nat.not_lt_zero _)⟩

end Go.Proofs.Ytiemhadpepbcjaa
