/-
  Walks: the reference's draws of one statement. Condition: the reader stands in memory.
-/
import Derived.Test.YtpajkejdfalkiaaDoorDraw1
namespace Go.Proofs.YtpajkejdfalkiaaDoor
open Go.RowKit
set_option linter.unusedVariables false

theorem Ints.litB {w : World} {B lo : Nat} (hB : w.heap.size = B) (hl : lo ≤ B) (l : List Int) (hn : l.length ≤ 1048576) : Ints (w.alloc (.cells (l.map (Value.int .i64)).toArray 3)) lo (.slice (some ⟨B, 0, none⟩) l.length l.length) l := by
  subst hB
  exact Ints.lit w lo l hl hn
theorem ocell {a b : Nat} {w w' : World} (ho : Only a b w w') : (∀ B o, (B < a ∨ b ≤ B) → B < w.heap.size → w'.cell? ⟨B, o, none⟩ = w.cell? ⟨B, o, none⟩) ∧ (∀ B o, (B < a ∨ b ≤ B) → B < w.heap.size → w'.frozen? ⟨B, o, none⟩ = w.frozen? ⟨B, o, none⟩) :=
  ⟨fun B o h1 h2 => World.cell?_of_block (a := ⟨B, o, none⟩) (ho.block B h2 h1), fun B o h1 h2 => World.frozen?_of_block (a := ⟨B, o, none⟩) (ho.block B h2 h1)⟩
theorem Only.store {a b : Nat} {w w1 : World} (h : Only a b w w1) {p : Addr} (hp : w.heap.size ≤ p.block) (u : Value) : Only a b w (w1.setCell p u) :=
  ⟨h.os, h.tape, h.output, by simpa [World.setCell] using h.size, fun k hk hx => (Below.heap_setCell _ _ _ _ (by omega)).trans (h.block k hk hx)⟩
theorem Rdr.store {w : World} {g m : Nat} (h : Rdr w g m) {p : Addr} (hp : g < p.block) (u : Value) : Rdr (w.setCell p u) g m :=
  h.other (a := p.block) (b := p.block + 1) ((Only.refl _ _ _).setCell (Nat.le_refl _) (Nat.lt_succ_self _) u) hp

set_option maxRecDepth 100000 in
theorem S_oneL (g m : Nat) (l : List Int) (w : World) (B : Nat) (hB : w.heap.size = B) (h : Rdr w g m) (hm : m ≤ 1000000) (hl : 0 < l.length) (hl2 : l.length ≤ 1000) :
    Calls Tryd.prog 27 #[.pointer (some ⟨g, 0, none⟩), .slice (some ⟨B, 0, none⟩) l.length l.length] (w.alloc (.cells (l.map (Value.int .i64)).toArray 3)) fun e w' => ∃ y : Int, e = .returned (.int .i64 y) ∧ y ∈ l ∧ Rdr w' g (m + 1) ∧ Only g (g + 1) w w' := by
  have hg := h.lt
  refine (S_one g m _ l B _ (h.keep al1) hm (Ints.litB hB (Nat.le_refl _) l (by omega)) hl hl2 (by omega)).mono ?_
  rintro e w1 ⟨y, rfl, hy, hr, ho, _⟩
  exact ⟨y, rfl, hy, hr, (Only.of_below al1).trans ho⟩


end Go.Proofs.YtpajkejdfalkiaaDoor
