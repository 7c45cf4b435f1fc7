/-
  Memory: a reader of lines and words: its struct's block, the views of strings that it holds. No condition.
-/
import Derived.Test.YtpajkejdfalkiaaDoorRcU
namespace Go.Proofs.YtpajkejdfalkiaaDoor
open Go.RowKit
set_option linter.unusedVariables false

theorem alloc_new (w : World) (o : Obj) : (w.alloc o).heap[w.heap.size]? = some o := by
  show (w.heap.push o)[w.heap.size]? = some o
  simp
/-- The struct of a reader lies in block R. -/
def RBox (w : World) (R : Nat) (a b : Value) : Prop := w.heap[R]? = some (.cells #[a, b] 111 (0, 0))
section
variable {w w' : World} {R : Nat} {a b : Value}
theorem RBox.lt (h : RBox w R a b) : R < w.heap.size := (Array.getElem?_eq_some_iff.1 h).1
theorem RBox.cell0 (h : RBox w R a b) : w.cell? ⟨R, 0, none⟩ = some a := by simp [World.cell?, show w.heap[R]? = _ from h]
theorem RBox.cell1 (h : RBox w R a b) : w.cell? ⟨R, 1, none⟩ = some b := by simp [World.cell?, show w.heap[R]? = _ from h]
theorem RBox.frozen (h : RBox w R a b) (j : Nat) : w.frozen? ⟨R, j, none⟩ = false := by simp [World.frozen?, show w.heap[R]? = _ from h]
theorem RBox.new (w : World) (a b : Value) : RBox (w.alloc (.cells #[a, b] 111)) w.heap.size a b := alloc_new w _
theorem RBox.kept {row : Option Nat} (h : RBox w R a b) (hg : w.grownBy w' row) (hne : some R ≠ row) : RBox w' R a b := (hg.block R h.lt hne).trans h
theorem RBox.set0 (h : RBox w R a b) (u : Value) : RBox (w.setCell ⟨R, 0, none⟩ u) R u b := by
  obtain ⟨hlt, hk⟩ := Array.getElem?_eq_some_iff.1 h
  show (w.heap.modify R _)[R]? = _
  rw [Array.getElem?_eq_getElem (by rw [Array.size_modify]; exact hlt), Array.getElem_modify_self, hk]
  rfl
theorem RBox.set1 (h : RBox w R a b) (u : Value) : RBox (w.setCell ⟨R, 1, none⟩ u) R a u := by
  obtain ⟨hlt, hk⟩ := Array.getElem?_eq_some_iff.1 h
  show (w.heap.modify R _)[R]? = _
  rw [Array.getElem?_eq_getElem (by rw [Array.size_modify]; exact hlt), Array.getElem_modify_self, hk]
  rfl
theorem RBox.not_row (h : RBox w R a b) {e : TypeId} (hte : 111 ≠ e) {base size k : Nat} {v : Value} {xs : List Value} (hr : w.ownsRow base e size v k xs) : v.ownBlock = none ∨ v.ownBlock ≠ some R := by
  rcases hr.2 with ⟨rfl, _⟩ | ⟨g, cap, cur, rfl, _, hgb, _⟩
  · exact .inl rfl
  · right
    intro e'
    obtain rfl : R = g := by simpa [Value.ownBlock, eq_comm] using e'
    have := (show w.heap[R]? = _ from h).symm.trans hgb
    simp at this
    exact hte this.2
theorem grow_set (w : World) (R i : Nat) (u : Value) : w.grownBy (w.setCell ⟨R, i, none⟩ u) (some R) :=
  ⟨rfl, rfl, rfl, by simp [World.setCell], fun k _ hk => Below.heap_setCell _ _ _ k (fun e => hk (by rw [e]))⟩
/-- A slice of strings that lies elsewhere. -/
def Vw (w : World) (R : Nat) (v : Value) (l : List ByteArray) : Prop :=
  ∃ (A : Option Addr) (C g o : Nat), v = .slice A l.length C ∧ l.length ≤ C ∧ C ≤ maxLen ∧ (0 < l.length → A = some ⟨g, o, none⟩ ∧ g ≠ R ∧ ∃ cur fz, w.heap[g]? = some (.cells cur 9 fz)) ∧ ∀ j, j < l.length → w.cell? ⟨g, o + j, none⟩ = some (.string (l.getD j default))
theorem Vw.kept {v : Value} {l : List ByteArray} {row : Option Nat} (h : Vw w R v l) (hg : w.grownBy w' row) (hr : row = some R ∨ row = none) : Vw w' R v l := by
  obtain ⟨A, C, g, o, hv, h1, h2, h3, h4⟩ := h
  have hne : 0 < l.length → some g ≠ row := fun hl => by
    rcases hr with rfl | rfl
    · intro e
      exact (h3 hl).2.1 (by injection e)
    · intro e; cases e
  refine ⟨A, C, g, o, hv, h1, h2, fun hl => ⟨(h3 hl).1, (h3 hl).2.1, ?_⟩, fun j hj => hg.cell (h4 j hj) (hne (by omega))⟩
  obtain ⟨cur, fz, hc⟩ := (h3 hl).2.2
  exact ⟨cur, fz, (hg.block g (Array.getElem?_eq_some_iff.1 hc).1 (hne hl)).trans hc⟩
theorem Vw.grown {v u : Value} {l : List ByteArray} (h : Vw w R v l) (hg : w.grownBy w' u.ownBlock) {e : TypeId} (hte : 9 ≠ e) {base size k : Nat} {xs : List Value} (hu : w.ownsRow base e size u k xs) : Vw w' R v l := by
  obtain ⟨A, C, g, o, hv, h1, h2, h3, h4⟩ := h
  have hne : 0 < l.length → some g ≠ u.ownBlock := fun hl => by
    obtain ⟨cur, fz, hc⟩ := (h3 hl).2.2
    rcases hu.2 with ⟨rfl, _⟩ | ⟨g', cap, cur', rfl, _, hgb, _⟩
    · intro e; cases e
    · intro e
      obtain rfl : g = g' := by simpa [Value.ownBlock] using e
      have := hc.symm.trans hgb
      simp at this
      exact hte this.2.1
  refine ⟨A, C, g, o, hv, h1, h2, fun hl => ⟨(h3 hl).1, (h3 hl).2.1, ?_⟩, fun j hj => hg.cell (h4 j hj) (hne (by omega))⟩
  obtain ⟨cur, fz, hc⟩ := (h3 hl).2.2
  exact ⟨cur, fz, (hg.block g (Array.getElem?_eq_some_iff.1 hc).1 (hne hl)).trans hc⟩
theorem Vw.lit {B : Nat} (hB : w.heap.size = B) (hR : B ≠ R) (l : List ByteArray) (n : Nat) (hn : n = l.length) (h0 : n ≤ maxLen) : Vw (w.alloc (.cells (l.map Value.string).toArray 9)) R (.slice (some ⟨B, 0, none⟩) n n) l := by
  subst hB
  subst hn
  have hnew : (w.alloc (.cells (l.map Value.string).toArray 9)).heap[w.heap.size]? = some (.cells (l.map Value.string).toArray 9 (0, 0)) := alloc_new w _
  refine ⟨_, _, w.heap.size, 0, rfl, Nat.le_refl _, h0, fun _ => ⟨rfl, hR, _, _, hnew⟩, fun j hj => ?_⟩
  unfold World.cell?
  simp only [hnew, Nat.zero_add]
  simp [List.getD, List.getElem?_eq_getElem hj]
theorem Vw.nil (w : World) (R : Nat) : Vw w R (.slice none 0 0) [] := ⟨none, 0, 0, 0, rfl, Nat.le_refl _, by unfold maxLen; omega, fun h => absurd h (by simp), fun j h => absurd h (by simp)⟩
end
end Go.Proofs.YtpajkejdfalkiaaDoor
