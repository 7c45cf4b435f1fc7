/-
  A world in which only blocks between two numbers have turned; rows of numbers in their order, as the laws' marks leave them. No condition.
-/
import Derived.Test.YtpajkejdfalkiaaDoorMem2
import Derived.Laws.OwnMore
namespace Go.Proofs.YtpajkejdfalkiaaDoor
set_option linter.unusedVariables false
open Go.RowKit

/-- Of the blocks that were there only those from lo on and below hi may have turned. -/
structure Only (lo hi : Nat) (w w' : World) : Prop where
  os : w'.os = w.os
  tape : w'.tape = w.tape
  output : w'.output = w.output
  size : w.heap.size ≤ w'.heap.size
  block : ∀ k, k < w.heap.size → (k < lo ∨ hi ≤ k) → w'.heap[k]? = w.heap[k]?

section
variable {lo hi : Nat} {a b c w w' : World}
theorem Only.refl (lo hi : Nat) (w : World) : Only lo hi w w := ⟨rfl, rfl, rfl, Nat.le_refl _, fun _ _ _ => rfl⟩
theorem Only.trans (h : Only lo hi a b) (k : Only lo hi b c) : Only lo hi a c :=
  ⟨k.os.trans h.os, k.tape.trans h.tape, k.output.trans h.output, Nat.le_trans h.size k.size, fun i hi hx => (k.block i (Nat.lt_of_lt_of_le hi h.size) hx).trans (h.block i hi hx)⟩
theorem Only.drew (h : Only lo hi a w) : Only lo hi a w.drew := ⟨h.os, h.tape, h.output, h.size, h.block⟩
theorem Only.drewN (h : Only lo hi a w) (n : Nat) : Only lo hi a (w.drewN n) := ⟨h.os, h.tape, h.output, h.size, h.block⟩
theorem Only.setCell (h : Only lo hi a w) {p : Addr} (h0 : lo ≤ p.block) (h1 : p.block < hi) (u : Value) : Only lo hi a (w.setCell p u) :=
  h.trans ⟨rfl, rfl, rfl, by simp [World.setCell], fun k _ hx => Below.heap_setCell _ _ _ _ (by omega)⟩
theorem Only.alloc (h : Only lo hi a w) (o : Obj) : Only lo hi a (w.alloc o) :=
  h.trans ⟨rfl, rfl, rfl, by simp, fun k hk _ => Below.heap_alloc _ _ _ hk⟩
theorem Only.grown (h : Only lo hi a w) {row : Option Nat} (hg : w.grownBy w' row) (hr : ∀ k, row = some k → lo ≤ k ∧ k < hi) : Only lo hi a w' :=
  h.trans ⟨hg.os, hg.tape, hg.output, hg.size, fun k hk hx => hg.block k hk (fun e => by have := hr k e.symm; omega)⟩
theorem Only.below (h : Only lo hi w w') (hl : lo ≤ w.heap.size) : Below lo w w' := ⟨h.os, h.tape, h.output, h.size, fun k hk => h.block k (by omega) (.inl hk)⟩
theorem Only.of_below (h : Below w.heap.size w w') : Only lo hi w w' := ⟨h.os, h.tape, h.output, h.size, fun k hk _ => h.block k hk⟩
theorem Only.mono {lo' hi' : Nat} (h : Only lo hi w w') (h0 : lo' ≤ lo) (h1 : hi ≤ hi') : Only lo' hi' w w' := ⟨h.os, h.tape, h.output, h.size, fun k hk hx => h.block k hk (by omega)⟩

/-- A row whose blocks lie outside of what has turned stays. -/
theorem own_only {l : Nat} {e : TypeId} {size n : Nat} {v : Value} {xs : List Value} (h : w.ownsRow l e size v n xs) (ho : Only lo hi w w') (hx : ∀ k, v.ownBlock = some k → k < lo ∨ hi ≤ k) : w'.ownsRow l e size v n xs := by
  obtain ⟨h1, h2⟩ := h
  refine ⟨h1, ?_⟩
  rcases h2 with h2 | ⟨g, cap, cur, hv, hg, hh, r⟩
  · exact .inl h2
  · exact .inr ⟨g, cap, cur, hv, hg, (ho.block g (lt_of_block hh) (hx g (by rw [hv]; rfl))).trans hh, r⟩
end

/-- n numbers from k on. -/
def seqI (k : Int) : Nat → List Int
  | 0 => []
  | n + 1 => k :: seqI (k + 1) n
theorem length_seqI : ∀ (n : Nat) (k : Int), (seqI k n).length = n
  | 0, _ => rfl
  | n + 1, k => by simp [seqI, length_seqI n]
theorem seqI_at : ∀ (n : Nat) (k : Int) (j : Nat), j < n → (seqI k n)[j]? = some (k + j)
  | 0, _, j, h => absurd h (by omega)
  | n + 1, k, 0, _ => by simp [seqI]
  | n + 1, k, j + 1, h => by
    rw [seqI, List.getElem?_cons_succ, seqI_at n (k + 1) j (by omega)]
    congr 1
    omega
theorem seqI_getD (n : Nat) (k : Int) (j : Nat) (h : j < n) : (seqI k n).getD j 0 = k + j := by simp [List.getD, seqI_at n k j h]
theorem seqI_succ : ∀ (n : Nat) (k : Int), seqI k (n + 1) = seqI k n ++ [k + n]
  | 0, k => by simp [seqI]
  | n + 1, k => by
    have := seqI_succ n (k + 1)
    rw [seqI, this]
    simp only [seqI, List.cons_append]
    congr 3
    omega
theorem seqI_add : ∀ (n m : Nat) (k : Int), seqI k (n + m) = seqI k n ++ seqI (k + n) m
  | 0, m, k => by simp [seqI]
  | n + 1, m, k => by
    rw [show n + 1 + m = (n + m) + 1 by omega, seqI, seqI_add n m (k + 1), seqI, List.cons_append]
    congr 3
    omega

/-- Marked so far: the first j numbers are new. -/
def seqTo (k : Int) (j : Nat) (l : List Int) : List Int := seqI k j ++ l.drop j
theorem length_seqTo {k : Int} {j : Nat} {l : List Int} (h : j ≤ l.length) : (seqTo k j l).length = l.length := by
  unfold seqTo
  rw [List.length_append, length_seqI, List.length_drop]
  omega
theorem seqTo_zero (k : Int) (l : List Int) : seqTo k 0 l = l := by simp [seqTo, seqI]
theorem seqTo_all (k : Int) (l : List Int) : seqTo k l.length l = seqI k l.length := by simp [seqTo]
theorem seqTo_set {k : Int} {j : Nat} {l : List Int} (h : j < l.length) : (seqTo k j l).set j (k + j) = seqTo k (j + 1) l := by
  unfold seqTo
  rw [List.set_append_right _ _ (by rw [length_seqI]; exact Nat.le_refl _), length_seqI, Nat.sub_self, seqI_succ, List.append_assoc]
  congr 1
  rw [List.drop_eq_getElem_cons h]
  rfl

/-- A number stored into a row of numbers. -/
theorem Ints.stored {w : World} {lo g n C : Nat} {l : List Int} (h : Ints w lo (.slice (some ⟨g, 0, none⟩) n C) l) (j : Nat) (x : Int) :
    Ints (w.setCell ⟨g, j, none⟩ (.int .i64 x)) lo (.slice (some ⟨g, 0, none⟩) n C) (l.set j x) ∧ w.grownBy (w.setCell ⟨g, j, none⟩ (.int .i64 x)) (some g) := by
  obtain ⟨A, C', he⟩ := h.form
  have hn : n = l.length := by
    simp only [Value.slice.injEq] at he
    exact he.2.1
  subst hn
  have h2 := World.ownsRow.stored (w := w) h j (.int .i64 x)
  refine ⟨?_, h2.2⟩
  unfold Ints
  rw [List.length_set, List.map_set]
  exact h2.1

end Go.Proofs.YtpajkejdfalkiaaDoor
