/-
  Walks: the marks that the exact laws write into what they handed out and into what they got, and the look whether they stand. Condition: the rows read as numbers, statements, blocks.
-/
import Derived.Test.YtpajkejdfalkiaaDoorOnly
import Derived.Test.YtpajkejdfalkiaaDoorOld
import Derived.Deep.OwnRows
namespace Go.Proofs.YtpajkejdfalkiaaDoor
open Go.RowKit
set_option linter.unusedVariables false

/-! ### rows of whatever numbers -/
def AnyInts (w : World) (lo hi : Nat) (v : Value) (n : Nat) : Prop := ∃ l : List Int, l.length = n ∧ Ints w lo v l ∧ ∀ g, v.ownBlock = some g → g < hi
/-- A row of statements, its cells n * 4 numbers. -/
def Raw (w : World) (lo : Nat) (v : Value) (n : Nat) (l : List Int) : Prop := w.ownsRow lo 118 4 v n (l.map (Value.int .i64))
def AnyStmts (w : World) (lo hi : Nat) (v : Value) (n : Nat) : Prop := ∃ l : List Int, l.length = n * 4 ∧ Raw w lo v n l ∧ ∀ g, v.ownBlock = some g → g < hi

theorem stCells_raw : ∀ l : List St, stCells l = (l.flatMap fun s => [s.kind, s.to, s.a, s.b]).map (Value.int .i64)
  | [] => rfl
  | s :: l => by
    have := stCells_raw l
    simp only [stCells] at this
    simp [stCells, this]
theorem length_raw (l : List St) : (l.flatMap fun s => [s.kind, s.to, s.a, s.b]).length = l.length * 4 := by
  have := length_stCells l
  rw [stCells_raw, List.length_map] at this
  exact this
theorem Stmts.raw {w : World} {lo : Nat} {v : Value} {l : List St} (h : Stmts w lo v l) : Raw w lo v l.length (l.flatMap fun s => [s.kind, s.to, s.a, s.b]) := by
  unfold Raw
  rw [← stCells_raw]
  exact h

section
variable {w w' : World} {lo hi n : Nat} {v : Value}
theorem Ints.any {l : List Int} (h : Ints w lo v l) (hh : w.heap.size ≤ hi) : AnyInts w lo hi v l.length := ⟨l, rfl, h, fun g hg => by have := own_block_lt h g hg; omega⟩
theorem Stmts.any {l : List St} (h : Stmts w lo v l) (hh : w.heap.size ≤ hi) : AnyStmts w lo hi v l.length := ⟨_, length_raw l, h.raw, fun g hg => by have := own_block_lt h g hg; omega⟩

theorem Ints.setAny {l : List Int} (h : Ints w lo v l) (g j : Nat) (x : Int) : ∃ l' : List Int, l'.length = l.length ∧ Ints (w.setCell ⟨g, j, none⟩ (.int .i64 x)) lo v l' := by
  by_cases e : v.ownBlock = some g
  · rcases h.2 with ⟨rfl, _⟩ | ⟨g', cap, cur, rfl, _⟩
    · cases e
    · simp only [Value.ownBlock, Option.some.injEq] at e
      subst e
      exact ⟨_, by simp, (h.stored j x).1⟩
  · refine ⟨l, rfl, ?_⟩
    obtain ⟨h1, h2⟩ := h
    refine ⟨h1, ?_⟩
    rcases h2 with h2 | ⟨g', cap, cur, rfl, hg, hh, r⟩
    · exact .inl h2
    · exact .inr ⟨g', cap, cur, rfl, hg, (Below.heap_setCell _ _ _ _ (fun e' => e (by simp [Value.ownBlock, e']))).trans hh, r⟩

theorem Raw.stored {g C : Nat} {l : List Int} (h : Raw w lo (.slice (some ⟨g, 0, none⟩) n C) n l) (j : Nat) (x : Int) :
    Raw (w.setCell ⟨g, j, none⟩ (.int .i64 x)) lo (.slice (some ⟨g, 0, none⟩) n C) n (l.set j x) ∧ w.grownBy (w.setCell ⟨g, j, none⟩ (.int .i64 x)) (some g) := by
  have h2 := World.ownsRow.stored (w := w) h j (.int .i64 x)
  refine ⟨?_, h2.2⟩
  unfold Raw
  rw [List.map_set]
  exact h2.1

theorem Raw.setAny {l : List Int} (h : Raw w lo v n l) (g j : Nat) (x : Int) : ∃ l' : List Int, l'.length = l.length ∧ Raw (w.setCell ⟨g, j, none⟩ (.int .i64 x)) lo v n l' := by
  by_cases e : v.ownBlock = some g
  · rcases h.2 with ⟨rfl, _⟩ | ⟨g', cap, cur, rfl, _⟩
    · cases e
    · simp only [Value.ownBlock, Option.some.injEq] at e
      subst e
      exact ⟨_, by simp, (h.stored j x).1⟩
  · refine ⟨l, rfl, ?_⟩
    obtain ⟨h1, h2⟩ := h
    refine ⟨h1, ?_⟩
    rcases h2 with h2 | ⟨g', cap, cur, rfl, hg, hh, r⟩
    · exact .inl h2
    · exact .inr ⟨g', cap, cur, rfl, hg, (Below.heap_setCell _ _ _ _ (fun e' => e (by simp [Value.ownBlock, e']))).trans hh, r⟩
end

/-- Rows of numbers and of statements stay such rows. -/
def KeepsRows (w w' : World) : Prop := (∀ lo hi v n, AnyInts w lo hi v n → AnyInts w' lo hi v n) ∧ (∀ lo hi v n, AnyStmts w lo hi v n → AnyStmts w' lo hi v n)
theorem KeepsRows.refl (w : World) : KeepsRows w w := ⟨fun _ _ _ _ h => h, fun _ _ _ _ h => h⟩
theorem KeepsRows.trans {a b c : World} (h : KeepsRows a b) (k : KeepsRows b c) : KeepsRows a c := ⟨fun lo hi v n x => k.1 lo hi v n (h.1 lo hi v n x), fun lo hi v n x => k.2 lo hi v n (h.2 lo hi v n x)⟩
theorem KeepsRows.setCell {a w : World} (h : KeepsRows a w) (g j : Nat) (x : Int) : KeepsRows a (w.setCell ⟨g, j, none⟩ (.int .i64 x)) := by
  refine h.trans ⟨fun lo hi v n => ?_, fun lo hi v n => ?_⟩
  · rintro ⟨l, hl, hi1, hb⟩
    obtain ⟨l', hl', h'⟩ := hi1.setAny g j x
    exact ⟨l', by omega, h', hb⟩
  · rintro ⟨l, hl, hi1, hb⟩
    obtain ⟨l', hl', h'⟩ := hi1.setAny g j x
    exact ⟨l', by omega, h', hb⟩
theorem KeepsRows.alloc {a w : World} (h : KeepsRows a w) (o : Obj) : KeepsRows a (w.alloc o) := by
  refine h.trans ⟨fun lo hi v n => ?_, fun lo hi v n => ?_⟩
  · rintro ⟨l, hl, hi1, hb⟩
    exact ⟨l, hl, hi1.keep al1, hb⟩
  · rintro ⟨l, hl, hi1, hb⟩
    exact ⟨l, hl, own_keep hi1 al1, hb⟩

/-! ### one row -/
theorem Raw.four {w : World} {lo n g C j : Nat} {k x0 x1 x2 x3 : Int} {l : List Int} (h : Raw w lo (.slice (some ⟨g, 0, none⟩) n C) n (seqTo k (j * 4) l)) (hl : l.length = n * 4) (hj : j < n)
    (e0 : x0 = k + (j * 4 : Nat)) (e1 : x1 = k + (j * 4 + 1 : Nat)) (e2 : x2 = k + (j * 4 + 2 : Nat)) (e3 : x3 = k + (j * 4 + 3 : Nat)) :
    Raw ((((w.setCell ⟨g, j * 4, none⟩ (.int .i64 x0)).setCell ⟨g, j * 4 + 1, none⟩ (.int .i64 x1)).setCell ⟨g, j * 4 + 2, none⟩ (.int .i64 x2)).setCell ⟨g, j * 4 + 3, none⟩ (.int .i64 x3)) lo (.slice (some ⟨g, 0, none⟩) n C) n (seqTo k ((j + 1) * 4) l) ∧
    w.grownBy ((((w.setCell ⟨g, j * 4, none⟩ (.int .i64 x0)).setCell ⟨g, j * 4 + 1, none⟩ (.int .i64 x1)).setCell ⟨g, j * 4 + 2, none⟩ (.int .i64 x2)).setCell ⟨g, j * 4 + 3, none⟩ (.int .i64 x3)) (some g) := by
  subst e0 e1 e2 e3
  have a0 := h.stored (j * 4) (k + (j * 4 : Nat))
  rw [seqTo_set (by omega)] at a0
  have a1 := a0.1.stored (j * 4 + 1) (k + (j * 4 + 1 : Nat))
  rw [seqTo_set (by omega)] at a1
  have a2 := a1.1.stored (j * 4 + 2) (k + (j * 4 + 2 : Nat))
  rw [seqTo_set (by omega)] at a2
  have a3 := a2.1.stored (j * 4 + 3) (k + (j * 4 + 3 : Nat))
  rw [seqTo_set (by omega)] at a3
  rw [show (j + 1) * 4 = j * 4 + 3 + 1 by omega]
  exact ⟨a3.1, ((a0.2.trans a1.2).trans a2.2).trans a3.2⟩

/-! ### programs -/
def Bk.marks (k : Bk) : Nat := 2 + k.params.length + k.body.length * 4
def marksTo : Pr → Nat
  | [] => 0
  | k :: p => k.marks + marksTo p
theorem marksTo_succ : ∀ (p : Pr) (i : Nat), i < p.length → marksTo (p.take (i + 1)) = marksTo (p.take i) + (p.getD i default).marks
  | [], i, h => absurd h (by simp)
  | k :: p, 0, _ => by simp [marksTo]
  | k :: p, i + 1, h => by
    have := marksTo_succ p i (by simpa using h)
    simp only [List.take_succ_cons, marksTo, this, List.getD_cons_succ]
    omega
theorem marksTo_le (p : Pr) (i : Nat) : marksTo (p.take i) ≤ marksTo p := by
  induction p generalizing i with
  | nil => simp [marksTo]
  | cons k p ih =>
    cases i with
    | zero => simp [marksTo]
    | succ i => simp only [List.take_succ_cons, marksTo]; have := ih i; omega
theorem marksTo_size : ∀ p : Pr, marksTo p ≤ 4 * Pr.size p
  | [] => by simp [marksTo]
  | k :: p => by
    have := marksTo_size p
    have e : Pr.size (k :: p) = (p.length + 1) + (k.size + sizes p) := by simp [Pr.size, sizes]
    have e2 : Pr.size p = p.length + sizes p := rfl
    have e3 : k.size = k.params.length + k.body.length := rfl
    simp only [marksTo, Bk.marks]
    omega

/-- The blocks' row while it is marked: where the blocks' own rows lie stays. -/
def BRow (w : World) (lo hi g N n : Nat) (pv bv : Nat → Value) (p : Pr) : Prop :=
  ∃ f : Nat → Value, w.rowIs g 75 N f ∧ n * 4 ≤ N ∧ ∀ j, j < n → (∃ a, f (j * 4) = .int .i64 a) ∧ (∃ b, f (j * 4 + 1) = .int .i64 b) ∧ f (j * 4 + 2) = pv j ∧ f (j * 4 + 3) = bv j ∧
    AnyInts w lo hi (pv j) (p.getD j default).params.length ∧ AnyStmts w lo hi (bv j) (p.getD j default).body.length

theorem BRow.grown {w w' : World} {lo hi g N n : Nat} {pv bv : Nat → Value} {p : Pr} (h : BRow w lo hi g N n pv bv p) (hk : KeepsRows w w') (he : w'.heap[g]? = w.heap[g]?) : BRow w' lo hi g N n pv bv p := by
  obtain ⟨f, h1, h2, h3⟩ := h
  exact ⟨f, h1.of_block he, h2, fun j hj => ⟨(h3 j hj).1, (h3 j hj).2.1, (h3 j hj).2.2.1, (h3 j hj).2.2.2.1, hk.1 _ _ _ _ (h3 j hj).2.2.2.2.1, hk.2 _ _ _ _ (h3 j hj).2.2.2.2.2⟩⟩

theorem BRow.set2 {w : World} {lo hi g N n i : Nat} {pv bv : Nat → Value} {p : Pr} (h : BRow w lo hi g N n pv bv p) (x y : Int) :
    BRow ((w.setCell ⟨g, i * 4, none⟩ (.int .i64 x)).setCell ⟨g, i * 4 + 1, none⟩ (.int .i64 y)) lo hi g N n pv bv p := by
  obtain ⟨f, h1, h2, h3⟩ := h
  have hk := ((KeepsRows.refl w).setCell g (i * 4) x).setCell g (i * 4 + 1) y
  refine ⟨_, (h1.set (i * 4) (.int .i64 x)).set (i * 4 + 1) (.int .i64 y), h2, fun j hj => ?_⟩
  obtain ⟨⟨a, ha⟩, ⟨b, hb⟩, hc, hd, he, hf⟩ := h3 j hj
  refine ⟨?_, ?_, ?_, ?_, hk.1 _ _ _ _ he, hk.2 _ _ _ _ hf⟩
  · by_cases e : j = i
    · subst e; exact ⟨x, by rw [if_neg (by omega), if_pos rfl]⟩
    · exact ⟨a, by rw [if_neg (by omega), if_neg (by omega)]; exact ha⟩
  · by_cases e : j = i
    · subst e; exact ⟨y, by rw [if_pos rfl]⟩
    · exact ⟨b, by rw [if_neg (by omega), if_neg (by omega)]; exact hb⟩
  · rw [if_neg (by omega), if_neg (by omega)]; exact hc
  · rw [if_neg (by omega), if_neg (by omega)]; exact hd

theorem ints_not_blocks {w : World} {lo g : Nat} {v : Value} {l : List Int} {c : Array Value} (h : Ints w lo v l) (hg : w.heap[g]? = some (.cells c 75 (0, 0))) : ∀ k, v.ownBlock = some k → k ≠ g := by
  rintro k hk rfl
  rcases h.2 with ⟨rfl, _⟩ | ⟨g', cap, cur, rfl, _, hh, _⟩
  · cases hk
  · simp only [Value.ownBlock, Option.some.injEq] at hk
    subst hk
    rw [hh] at hg
    simp at hg
theorem stmts_not_blocks {w : World} {lo g : Nat} {v : Value} {m : Nat} {l : List Int} {c : Array Value} (h : Raw w lo v m l) (hg : w.heap[g]? = some (.cells c 75 (0, 0))) : ∀ k, v.ownBlock = some k → k ≠ g := by
  rintro k hk rfl
  rcases h.2 with ⟨rfl, _⟩ | ⟨g', cap, cur, rfl, _, hh, _⟩
  · cases hk
  · simp only [Value.ownBlock, Option.some.injEq] at hk
    subst hk
    rw [hh] at hg
    simp at hg

theorem Blks.brow {w : World} {lo : Nat} {v : Value} {p : Pr} (h : Blks w lo v p) (hp : 0 < p.length) : ∃ (g C N : Nat) (pv bv : Nat → Value), v = .slice (some ⟨g, 0, none⟩) p.length C ∧ lo ≤ g ∧ g < w.heap.size ∧ p.length ≤ C ∧ C ≤ maxLen ∧ BRow w lo w.heap.size g N p.length pv bv p := by
  obtain ⟨xs, ⟨hx, hr⟩, hb⟩ := h
  rcases hr with ⟨_, h0⟩ | ⟨g, cap, cur, hv, hg, hh, hn, hm, hs, ht⟩
  · omega
  · have at_ : ∀ j c, j < p.length → c < 4 → ((xs.drop (j * 4)).take 4)[c]? = some (cur[j * 4 + c]?.getD undef) := fun j c hj hc => by
      rw [List.getElem?_take, if_pos hc, List.getElem?_drop, ← ht, List.getElem?_take, if_pos (by omega), Array.getElem?_toList, Array.getElem?_eq_getElem (by omega)]
      rfl
    have hcs := hb
    refine ⟨g, cap, cap * 4, fun j => cur[j * 4 + 2]?.getD undef, fun j => cur[j * 4 + 3]?.getD undef, hv, hg, lt_of_block hh, hn, hm, fun i => cur[i]?.getD undef, ⟨cur, hh, hs, fun i hi => by simp [Array.getElem?_eq_getElem (show i < cur.size by omega)]⟩, by omega, fun j hj => ?_⟩
    obtain ⟨pv, bv, e, h1, h2⟩ := hb j hj
    have a0 := at_ j 0 hj (by omega)
    have a1 := at_ j 1 hj (by omega)
    have a2 := at_ j 2 hj (by omega)
    have a3 := at_ j 3 hj (by omega)
    rw [e] at a0 a1 a2 a3
    simp only [List.getElem?_cons_zero, List.getElem?_cons_succ, Option.some.injEq, Nat.add_zero] at a0 a1 a2 a3
    refine ⟨⟨_, a0.symm⟩, ⟨_, a1.symm⟩, rfl, rfl, ?_, ?_⟩
    · show AnyInts w lo _ (cur[j * 4 + 2]?.getD undef) _
      rw [← a2]; exact h1.any (Nat.le_refl _)
    · show AnyStmts w lo _ (cur[j * 4 + 3]?.getD undef) _
      rw [← a3]; exact h2.any (Nat.le_refl _)

theorem KeepsRows.of_below {w w' : World} (hb : Below w.heap.size w w') : KeepsRows w w' := by
  refine ⟨fun lo hi v n => ?_, fun lo hi v n => ?_⟩
  · rintro ⟨l, hl, hi1, h⟩
    exact ⟨l, hl, hi1.keep hb, h⟩
  · rintro ⟨l, hl, hi1, h⟩
    exact ⟨l, hl, own_keep hi1 hb, h⟩

theorem BRow.keep {w w' : World} {lo hi g N n : Nat} {pv bv : Nat → Value} {p : Pr} (h : BRow w lo hi g N n pv bv p) (hb : Below w.heap.size w w') : BRow w' lo hi g N n pv bv p := by
  have hg : g < w.heap.size := by
    obtain ⟨f, h1, _⟩ := h
    exact h1.lt
  exact h.grown (KeepsRows.of_below hb) (hb.block g hg)

end Go.Proofs.YtpajkejdfalkiaaDoor
