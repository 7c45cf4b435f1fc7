/-
  Lists of lists of numbers: eqIntSS, markIntSS, heldIntSS of the laws. Condition: the rows lie in memory as data.
-/
import Derived.Test.YtpajkejdfalkiaaDoorSpec11
import Derived.Test.YtpajkejdfalkiaaDoorMark
import Derived.Test.YtpajkejdfalkiaaDoorEq
import Derived.StillTailTactics
namespace Go.Proofs.YtpajkejdfalkiaaDoor
open Go.RowKit
set_option linter.unusedVariables false

/-- A list of lists of numbers, in rows of its own, the inner rows apart from each other; us: the values of the inner rows. -/
def RowsOf (w : World) (lo : Nat) (v : Value) (us : List Value) (ll : List (List Int)) : Prop :=
  w.ownsRow lo 50 1 v ll.length us ∧ (∀ i, i < ll.length → Ints w lo (us.getD i undef) (ll.getD i [])) ∧
    ∀ i j, i < ll.length → j < ll.length → i ≠ j → Apart (us.getD i undef) (us.getD j undef)
theorem RowsOf.keep {w w' : World} {lo : Nat} {v : Value} {us : List Value} {ll : List (List Int)} (h : RowsOf w lo v us ll) (hb : Below w.heap.size w w') : RowsOf w' lo v us ll :=
  ⟨own_keep h.1 hb, fun i hi => (h.2.1 i hi).keep hb, h.2.2⟩
theorem RowsOf.lo_ {w : World} {lo lo' : Nat} {v : Value} {us : List Value} {ll : List (List Int)} (h : RowsOf w lo v us ll) (hl : lo' ≤ lo) : RowsOf w lo' v us ll :=
  ⟨own_lo h.1 hl, fun i hi => (h.2.1 i hi).lo_ hl, h.2.2⟩

/-- Marks cut into rows of given lengths. -/
def seqs (k : Int) : List Nat → List (List Int)
  | [] => []
  | n :: ns => seqI k n :: seqs (k + n) ns
def upSum (ns : List Nat) (j : Nat) : Nat := (ns.take j).sum
theorem upSum_zero (ns : List Nat) : upSum ns 0 = 0 := by simp [upSum]
theorem upSum_succ : ∀ (ns : List Nat) (j : Nat), j < ns.length → upSum ns (j + 1) = upSum ns j + ns.getD j 0
  | [], j, h => absurd h (Nat.not_lt_zero _)
  | n :: ns, 0, _ => by simp [upSum]
  | n :: ns, j + 1, h => by
    have := upSum_succ ns j (by simpa using h)
    unfold upSum at this ⊢
    simp only [List.take_succ_cons, List.sum_cons, List.getD_cons_succ]
    omega
theorem upSum_le (ns : List Nat) : ∀ j, upSum ns j ≤ ns.sum := fun j => by
  unfold upSum
  conv => rhs; rw [← List.take_append_drop j ns]
  rw [List.sum_append]
  omega
theorem upSum_all (ns : List Nat) : upSum ns ns.length = ns.sum := by unfold upSum; rw [List.take_length]
theorem length_seqs : ∀ (ns : List Nat) (k : Int), (seqs k ns).length = ns.length
  | [], _ => rfl
  | n :: ns, k => by simp [seqs, length_seqs ns]
theorem seqs_getD : ∀ (ns : List Nat) (k : Int) (j : Nat), j < ns.length → (seqs k ns).getD j [] = seqI (k + upSum ns j) (ns.getD j 0)
  | [], _, j, h => absurd h (Nat.not_lt_zero _)
  | n :: ns, k, 0, _ => by simp [seqs, upSum]
  | n :: ns, k, j + 1, h => by
    have := seqs_getD ns (k + n) j (by simpa using h)
    unfold upSum at this ⊢
    simp only [seqs, List.getD_cons_succ, List.take_succ_cons, List.sum_cons] at this ⊢
    rw [this]
    congr 1
    omega

theorem own_types {w : World} {lo lo' e e' size size' n n' : Nat} {v v' : Value} {xs xs' : List Value} (h1 : w.ownsRow lo e size v n xs) (h2 : w.ownsRow lo' e' size' v' n' xs') (hne : e ≠ e') : v.ownBlock = none ∨ v.ownBlock ≠ v'.ownBlock := by
  rcases h1.2 with ⟨rfl, _⟩ | ⟨g, cap, cur, rfl, hg, hh, _⟩
  · exact .inl rfl
  · right
    intro hc
    rcases h2.2 with ⟨rfl, _⟩ | ⟨g', cap', cur', rfl, hg', hh', _⟩
    · simp [Value.ownBlock] at hc
    · have e0 : g = g' := by simpa [Value.ownBlock] using hc
      subst e0
      rw [hh] at hh'
      simp at hh'
      exact hne hh'.2

theorem own_one {w : World} {B lo : Nat} (hB : w.heap.size = B) (hl : lo ≤ B) (U : Value) : (w.alloc (.cells #[U] 50)).ownsRow lo 50 1 (.slice (some ⟨B, 0, none⟩) 1 1) 1 [U] := by
  subst hB
  have h := World.ownsRow_lit (base := lo) (e := 50) (size := 1) w #[U] 1 hl (by unfold maxLen; omega) (by simp)
  simpa using h

end Go.Proofs.YtpajkejdfalkiaaDoor
