/-
  Memory, as the walks speak of it: rows of cells that a call owns, read as lists of numbers, of statements, of blocks; what a world that has only grown leaves as it was. No condition.
-/
import Derived.WalkKit
import Derived.WalkSpells
import Derived.WalkLawsBesides
import Derived.Lib.Hide
import Derived.Deep.Draws
import Derived.Test.YtpajkejdfalkiaaDoorPlain
import Derived.Test.YtpajkejdfalkiaaDoorRows
namespace Go.Proofs.YtpajkejdfalkiaaDoor
open Go.RowKit

theorem ret_bool {a b : Bool} (h : a = b) : Ending.returned (.bool a) = .returned (.bool b) := by rw [h]
theorem ret_int {a b : Int} (h : a = b) : Ending.returned (.int .i64 a) = .returned (.int .i64 b) := by rw [h]

/-- Old cells and old marks read as before: two rules for the walk. -/
theorem bcell {B : Nat} {w w1 : World} (hb : Below B w w1) : (∀ b o, b < B → w1.cell? ⟨b, o, none⟩ = w.cell? ⟨b, o, none⟩) ∧ (∀ b o, b < B → w1.frozen? ⟨b, o, none⟩ = w.frozen? ⟨b, o, none⟩) :=
  ⟨fun b o h => hb.cell (p := ⟨b, o, none⟩) h, fun b o h => hb.frozen (p := ⟨b, o, none⟩) h⟩

/-- Behind a callee that leaves all that was there. -/
theorem bthen {a w w' : World} (h : Below a.heap.size a w) (h' : Below w.heap.size w w') : Below a.heap.size a w' := h.trans (h'.mono h.size)
theorem bal {a w : World} (h : Below a.heap.size a w) (o : Obj) : Below a.heap.size a (w.alloc o) := h.alloc h.size o
theorem below0 (w : World) : Below w.heap.size w w := Below.refl _ _
theorem al1 {w : World} {o : Obj} : Below w.heap.size w (w.alloc o) := bal (below0 _) _
theorem al2 {w : World} {o o' : Obj} : Below w.heap.size w ((w.alloc o).alloc o') := bal al1 _
theorem al3 {w : World} {o o' o'' : Obj} : Below w.heap.size w (((w.alloc o).alloc o').alloc o'') := bal al2 _
theorem al4 {w : World} {o o' o'' o3 : Obj} : Below w.heap.size w ((((w.alloc o).alloc o').alloc o'').alloc o3) := bal al3 _

/-! ### rows that are owned -/
section
variable {w w' : World} {lo : Nat} {e : TypeId} {size n : Nat} {v : Value} {xs : List Value}

theorem own_keep (h : w.ownsRow lo e size v n xs) (hb : Below w.heap.size w w') : w'.ownsRow lo e size v n xs := by
  obtain ⟨h1, h2⟩ := h
  refine ⟨h1, ?_⟩
  rcases h2 with h2 | ⟨g, cap, cur, hv, hg, hh, r⟩
  · exact .inl h2
  · exact .inr ⟨g, cap, cur, hv, hg, (hb.block g (lt_of_block hh)).trans hh, r⟩

theorem own_lo {lo' : Nat} (h : w.ownsRow lo e size v n xs) (hl : lo' ≤ lo) : w.ownsRow lo' e size v n xs := by
  obtain ⟨h1, h2⟩ := h
  refine ⟨h1, ?_⟩
  rcases h2 with h2 | ⟨g, cap, cur, hv, hg, r⟩
  · exact .inl h2
  · exact .inr ⟨g, cap, cur, hv, Nat.le_trans hl hg, r⟩

/-- Behind a world in which only blocks from B on have turned, the row below B stays. -/
theorem own_keepB {B : Nat} (h : w.ownsRow lo e size v n xs) (hb : Below B w w') (hB : ∀ g, v.ownBlock = some g → g < B) : w'.ownsRow lo e size v n xs := by
  obtain ⟨h1, h2⟩ := h
  refine ⟨h1, ?_⟩
  rcases h2 with h2 | ⟨g, cap, cur, hv, hg, hh, r⟩
  · exact .inl h2
  · exact .inr ⟨g, cap, cur, hv, hg, (hb.block g (hB g (by rw [hv]; rfl))).trans hh, r⟩

/-- The value, its address as a letter; each cell under its index. -/
theorem own_rd (h : w.ownsRow lo e size v n xs) : ∃ (A : Option Addr) (C g : Nat), v = .slice A n C ∧ n ≤ C ∧ C ≤ maxLen ∧ (0 < n → A = some ⟨g, 0, none⟩) ∧ (0 < n → lo ≤ g ∧ g < w.heap.size) ∧
    (∀ j, j < n * size → w.cell? ⟨g, j, none⟩ = some (xs.getD j undef)) ∧ (0 < n → ∀ j, w.frozen? ⟨g, j, none⟩ = false) := by
  have hl := h.1
  rcases h.2 with ⟨rfl, rfl⟩ | ⟨g, cap, cur, rfl, hg, hh, hn, hc, hsz, hx⟩
  · exact ⟨none, 0, 0, rfl, Nat.le_refl _, Nat.zero_le _, fun h => absurd h (by omega), fun h => absurd h (by omega), fun j hj => absurd hj (by simp), fun h => absurd h (by omega)⟩
  · refine ⟨some ⟨g, 0, none⟩, cap, g, rfl, hn, hc, fun _ => rfl, fun _ => ⟨hg, lt_of_block hh⟩, fun j hj => ?_, fun _ j => ?_⟩
    · have hown : w.ownsRow lo e size (.slice (some ⟨g, 0, none⟩) n cap) n xs := h
      rw [hown.cellAt j hj, List.getElem?_eq_getElem (by omega)]
      simp [List.getD, List.getElem?_eq_getElem (show j < xs.length by omega)]
    · simp [World.frozen?, hh]
end

/-! ### lists of numbers -/
theorem Tryd.info3 : (Tryd.prog.info? 3).map (fun i => (i.zero, i.size, i.bytes)) = some (some (.int .i64 0), 1, 8) := by kernel_rfl

def Ints (w : World) (lo : Nat) (v : Value) (l : List Int) : Prop := w.ownsRow lo 3 1 v l.length (l.map (Value.int .i64))

section
variable {w w' : World} {lo : Nat} {v : Value} {l : List Int}
theorem Ints.keep (h : Ints w lo v l) (hb : Below w.heap.size w w') : Ints w' lo v l := own_keep h hb
theorem Ints.lo_ {lo' : Nat} (h : Ints w lo v l) (hl : lo' ≤ lo) : Ints w lo' v l := own_lo h hl
theorem Ints.set (h : Ints w lo v l) {a : Addr} (ha : a.block < lo) (u : Value) : Ints (w.setCell a u) lo v l := ownsRow_setCell_below h ha u
theorem Ints.nil (w : World) (lo : Nat) : Ints w lo (.slice none 0 0) [] := World.ownsRow_nil w lo _ _
/-- A new slice, written out. -/
theorem Ints.lit (w : World) (lo : Nat) (l : List Int) (hl : lo ≤ w.heap.size) (hn : l.length ≤ 1048576) :
    Ints (w.alloc (.cells (l.map (Value.int .i64)).toArray 3)) lo (.slice (some ⟨w.heap.size, 0, none⟩) l.length l.length) l := by
  have h := World.ownsRow_lit (base := lo) (e := 3) (size := 1) w (l.map (Value.int .i64)).toArray l.length hl (by unfold maxLen; omega) (by simp)
  simpa [Ints] using h
theorem Ints.lit0 (w : World) (o : Obj) : Ints ((w.alloc o).alloc (.cells #[] 3)) w.heap.size (.slice (some ⟨w.heap.size + 1, 0, none⟩) 0 0) [] := by
  simpa using Ints.lit (w.alloc o) w.heap.size [] (by simp) (by simp)
theorem Ints.lit1 (w : World) (o : Obj) (a : Int) : Ints ((w.alloc o).alloc (.cells #[.int .i64 a] 3)) w.heap.size (.slice (some ⟨w.heap.size + 1, 0, none⟩) 1 1) [a] := by
  simpa using Ints.lit (w.alloc o) w.heap.size [a] (by simp) (by simp)
theorem Ints.lit2 (w : World) (o : Obj) (a b : Int) : Ints ((w.alloc o).alloc (.cells #[.int .i64 a, .int .i64 b] 3)) w.heap.size (.slice (some ⟨w.heap.size + 1, 0, none⟩) 2 2) [a, b] := by
  simpa using Ints.lit (w.alloc o) w.heap.size [a, b] (by simp) (by simp)
theorem Ints.form (h : Ints w lo v l) : ∃ (A : Option Addr) (C : Nat), v = .slice A l.length C := by
  obtain ⟨A, C, _, hv, _⟩ := own_rd h
  exact ⟨A, C, hv⟩
theorem Ints.rd (h : Ints w lo v l) : ∃ (A : Option Addr) (C g : Nat), v = .slice A l.length C ∧ l.length ≤ C ∧ C ≤ maxLen ∧ (0 < l.length → A = some ⟨g, 0, none⟩) ∧ (0 < l.length → lo ≤ g ∧ g < w.heap.size) ∧
    (∀ j, j < l.length → w.cell? ⟨g, j, none⟩ = some (.int .i64 (l.getD j 0))) ∧ (0 < l.length → ∀ j, w.frozen? ⟨g, j, none⟩ = false) := by
  obtain ⟨A, C, g, hv, hn, hc, hA, hg, hcell, hf⟩ := own_rd h
  refine ⟨A, C, g, hv, hn, hc, hA, hg, fun j hj => ?_, hf⟩
  rw [hcell j (by omega)]
  simp [List.getD, List.getElem?_eq_getElem hj]
end

/-! ### lists of statements -/
abbrev St.val (s : St) : Value := .agg #[.int .i64 s.kind, .int .i64 s.to, .int .i64 s.a, .int .i64 s.b]

abbrev bkVal (k : Bk) (pv bv : Value) : Value := .agg #[.int .i64 k.kind, .int .i64 k.parent, pv, bv]

def stCells (l : List St) : List Value := l.flatMap fun s => [.int .i64 s.kind, .int .i64 s.to, .int .i64 s.a, .int .i64 s.b]

theorem length_stCells : ∀ l : List St, (stCells l).length = l.length * 4
  | [] => rfl
  | s :: l => by
    have := length_stCells l
    simp only [stCells, List.flatMap_cons, List.length_append, List.length_cons, List.length_nil] at this ⊢
    omega

theorem stCells_at : ∀ (l : List St) (i : Nat), i < l.length → (stCells l)[i * 4]? = some (.int .i64 (l.getD i default).kind) ∧ (stCells l)[i * 4 + 1]? = some (.int .i64 (l.getD i default).to) ∧
    (stCells l)[i * 4 + 2]? = some (.int .i64 (l.getD i default).a) ∧ (stCells l)[i * 4 + 3]? = some (.int .i64 (l.getD i default).b)
  | [], i, h => absurd h (by simp)
  | s :: l, 0, _ => by simp [stCells]
  | s :: l, i + 1, h => by
    have ih := stCells_at l i (by simpa using h)
    have e : ∀ k, (stCells (s :: l))[(i + 1) * 4 + k]? = (stCells l)[i * 4 + k]? := fun k => by
      rw [show (i + 1) * 4 + k = i * 4 + k + 4 by omega]
      simp [stCells]
    have e0 := e 0
    simp only [Nat.add_zero] at e0
    rw [e0, e 1, e 2, e 3]
    simpa using ih

def Stmts (w : World) (lo : Nat) (v : Value) (l : List St) : Prop := w.ownsRow lo 118 4 v l.length (stCells l)

section
variable {w w' : World} {lo : Nat} {v : Value} {l : List St}
theorem Stmts.keep (h : Stmts w lo v l) (hb : Below w.heap.size w w') : Stmts w' lo v l := own_keep h hb
theorem Stmts.lo_ {lo' : Nat} (h : Stmts w lo v l) (hl : lo' ≤ lo) : Stmts w lo' v l := own_lo h hl
theorem Stmts.set (h : Stmts w lo v l) {a : Addr} (ha : a.block < lo) (u : Value) : Stmts (w.setCell a u) lo v l := ownsRow_setCell_below h ha u
theorem Stmts.nil (w : World) (lo : Nat) : Stmts w lo (.slice none 0 0) [] := World.ownsRow_nil w lo _ _
theorem Stmts.form (h : Stmts w lo v l) : ∃ (A : Option Addr) (C : Nat), v = .slice A l.length C := by
  obtain ⟨A, C, _, hv, _⟩ := own_rd h
  exact ⟨A, C, hv⟩
theorem Stmts.rd (h : Stmts w lo v l) : ∃ (A : Option Addr) (C g : Nat), v = .slice A l.length C ∧ l.length ≤ C ∧ C ≤ maxLen ∧ (0 < l.length → A = some ⟨g, 0, none⟩) ∧ (0 < l.length → lo ≤ g ∧ g < w.heap.size) ∧
    (∀ j, j < l.length → w.cell? ⟨g, j * 4, none⟩ = some (.int .i64 (l.getD j default).kind) ∧ w.cell? ⟨g, j * 4 + 1, none⟩ = some (.int .i64 (l.getD j default).to) ∧
      w.cell? ⟨g, j * 4 + 2, none⟩ = some (.int .i64 (l.getD j default).a) ∧ w.cell? ⟨g, j * 4 + 3, none⟩ = some (.int .i64 (l.getD j default).b)) ∧ (0 < l.length → ∀ j, w.frozen? ⟨g, j, none⟩ = false) := by
  obtain ⟨A, C, g, hv, hn, hc, hA, hg, hcell, hf⟩ := own_rd h
  refine ⟨A, C, g, hv, hn, hc, hA, hg, fun j hj => ?_, hf⟩
  obtain ⟨a0, a1, a2, a3⟩ := stCells_at l j hj
  rw [hcell (j * 4) (by omega), hcell (j * 4 + 1) (by omega), hcell (j * 4 + 2) (by omega), hcell (j * 4 + 3) (by omega)]
  simp only [List.getD, a0, a1, a2, a3, Option.getD_some]
  exact ⟨trivial, trivial, trivial, trivial⟩
end

/-! ### programs -/
/-- The four cells of a block. -/
def BlkAt (w : World) (lo : Nat) (cs : List Value) (k : Bk) : Prop :=
  ∃ pv bv, cs = [.int .i64 k.kind, .int .i64 k.parent, pv, bv] ∧ Ints w lo pv k.params ∧ Stmts w lo bv k.body

/-- A slice of blocks. -/
def Blks (w : World) (lo : Nat) (v : Value) (p : Pr) : Prop :=
  ∃ xs, w.ownsRow lo 75 4 v p.length xs ∧ ∀ i, i < p.length → BlkAt w lo ((xs.drop (i * 4)).take 4) (p.getD i default)

def Prog (w : World) (lo : Nat) (v : Value) (p : Pr) : Prop := ∃ sl, v = .agg #[sl] ∧ Blks w lo sl p

section
variable {w w' : World} {lo : Nat} {v : Value} {p : Pr}
theorem BlkAt.keep {cs : List Value} {k : Bk} (h : BlkAt w lo cs k) (hb : Below w.heap.size w w') : BlkAt w' lo cs k := by
  obtain ⟨pv, bv, h1, h2, h3⟩ := h
  exact ⟨pv, bv, h1, h2.keep hb, h3.keep hb⟩
theorem BlkAt.lo_ {lo' : Nat} {cs : List Value} {k : Bk} (h : BlkAt w lo cs k) (hl : lo' ≤ lo) : BlkAt w lo' cs k := by
  obtain ⟨pv, bv, h1, h2, h3⟩ := h
  exact ⟨pv, bv, h1, h2.lo_ hl, h3.lo_ hl⟩
theorem Blks.keep (h : Blks w lo v p) (hb : Below w.heap.size w w') : Blks w' lo v p := by
  obtain ⟨xs, h1, h2⟩ := h
  exact ⟨xs, own_keep h1 hb, fun i hi => (h2 i hi).keep hb⟩
theorem Blks.lo_ {lo' : Nat} (h : Blks w lo v p) (hl : lo' ≤ lo) : Blks w lo' v p := by
  obtain ⟨xs, h1, h2⟩ := h
  exact ⟨xs, own_lo h1 hl, fun i hi => (h2 i hi).lo_ hl⟩
theorem Prog.keep (h : Prog w lo v p) (hb : Below w.heap.size w w') : Prog w' lo v p := by
  obtain ⟨sl, h1, h2⟩ := h
  exact ⟨sl, h1, h2.keep hb⟩
theorem Prog.lo_ {lo' : Nat} (h : Prog w lo v p) (hl : lo' ≤ lo) : Prog w lo' v p := by
  obtain ⟨sl, h1, h2⟩ := h
  exact ⟨sl, h1, h2.lo_ hl⟩
theorem Blks.rd (h : Blks w lo v p) : ∃ (A : Option Addr) (C g : Nat), v = .slice A p.length C ∧ p.length ≤ C ∧ C ≤ maxLen ∧ (0 < p.length → A = some ⟨g, 0, none⟩) ∧ (0 < p.length → lo ≤ g ∧ g < w.heap.size) ∧
    (∀ j, j < p.length → ∃ pv bv, w.cell? ⟨g, j * 4, none⟩ = some (.int .i64 (p.getD j default).kind) ∧ w.cell? ⟨g, j * 4 + 1, none⟩ = some (.int .i64 (p.getD j default).parent) ∧
      w.cell? ⟨g, j * 4 + 2, none⟩ = some pv ∧ w.cell? ⟨g, j * 4 + 3, none⟩ = some bv ∧ Ints w lo pv (p.getD j default).params ∧ Stmts w lo bv (p.getD j default).body) ∧ (0 < p.length → ∀ j, w.frozen? ⟨g, j, none⟩ = false) := by
  obtain ⟨xs, hx, hblk⟩ := h
  obtain ⟨A, C, g, hv, hn, hc, hA, hg, hcell, hf⟩ := own_rd hx
  have hlen := hx.1
  refine ⟨A, C, g, hv, hn, hc, hA, hg, fun j hj => ?_, hf⟩
  obtain ⟨pv, bv, hcs, hp, hb⟩ := hblk j hj
  have at_ : ∀ k, k < 4 → xs[j * 4 + k]? = [Value.int .i64 (p.getD j default).kind, .int .i64 (p.getD j default).parent, pv, bv][k]? := fun k hk => by
    rw [← hcs, List.getElem?_take, if_pos hk, List.getElem?_drop]
  have a0 := at_ 0 (by omega)
  have a1 := at_ 1 (by omega)
  have a2 := at_ 2 (by omega)
  have a3 := at_ 3 (by omega)
  simp only [Nat.add_zero] at a0
  refine ⟨pv, bv, ?_, ?_, ?_, ?_, hp, hb⟩
  · rw [hcell (j * 4) (by omega)]; simp [List.getD, a0]
  · rw [hcell (j * 4 + 1) (by omega)]; simp [List.getD, a1]
  · rw [hcell (j * 4 + 2) (by omega)]; simp [List.getD, a2]
  · rw [hcell (j * 4 + 3) (by omega)]; simp [List.getD, a3]
end

end Go.Proofs.YtpajkejdfalkiaaDoor
