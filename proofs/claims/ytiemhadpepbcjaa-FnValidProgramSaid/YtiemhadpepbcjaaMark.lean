/-
  Walks: the marks that the exact laws write into what they handed out and into what they got, and the look whether they stand. Condition: the rows read as numbers, statements, blocks.
-/
import Derived.Test.YtiemhadpepbcjaaOnly
import Derived.Test.YtiemhadpepbcjaaOld
import Derived.Deep.OwnRows
namespace Go.Proofs.Ytiemhadpepbcjaa
open Go.RowKit
set_option linter.unusedVariables false

/-! ### rows of whatever numbers -/
def AnyInts (w : World) (lo hi : Nat) (v : Value) (n : Nat) : Prop := ∃ l : List Int, l.length = n ∧ Ints w lo v l ∧ ∀ g, v.ownBlock = some g → g < hi
/-- A row of statements, its cells n * 4 numbers. -/
def Raw (w : World) (lo : Nat) (v : Value) (n : Nat) (l : List Int) : Prop := w.ownsRow lo 60 4 v n (l.map (Value.int .i64))
def AnyStmts (w : World) (lo hi : Nat) (v : Value) (n : Nat) : Prop := ∃ l : List Int, l.length = n * 4 ∧ Raw w lo v n l ∧ ∀ g, v.ownBlock = some g → g < hi

theorem stCells_raw : ∀ l : List St, stCells l = (l.flatMap fun s => [s.kind, s.to, s.a, s.b]).map (Value.int .i64)
  | [] => rfl
  | s :: l => by
    have := stCells_raw l
    simp only [stCells] at this
    simp [stCells, this]
theorem length_raw (l : List St) : (l.flatMap fun s => [s.kind, s.to, s.a, s.b]).length = l.length * 4 := by
  have := length_stCells l
  rw [stCells_raw, List.length_map] at this
  exact this
theorem Stmts.raw {w : World} {lo : Nat} {v : Value} {l : List St} (h : Stmts w lo v l) : Raw w lo v l.length (l.flatMap fun s => [s.kind, s.to, s.a, s.b]) := by
  unfold Raw
  rw [← stCells_raw]
  exact h

section
variable {w w' : World} {lo hi n : Nat} {v : Value}
theorem Ints.any {l : List Int} (h : Ints w lo v l) (hh : w.heap.size ≤ hi) : AnyInts w lo hi v l.length := ⟨l, rfl, h, fun g hg => by have := own_block_lt h g hg; omega⟩
theorem Stmts.any {l : List St} (h : Stmts w lo v l) (hh : w.heap.size ≤ hi) : AnyStmts w lo hi v l.length := ⟨_, length_raw l, h.raw, fun g hg => by have := own_block_lt h g hg; omega⟩

theorem Ints.setAny {l : List Int} (h : Ints w lo v l) (g j : Nat) (x : Int) : ∃ l' : List Int, l'.length = l.length ∧ Ints (w.setCell ⟨g, j, none⟩ (.int .i64 x)) lo v l' := by
  by_cases e : v.ownBlock = some g
  · rcases h.2 with ⟨rfl, _⟩ | ⟨g', cap, cur, rfl, _⟩
    · cases e
    · simp only [Value.ownBlock, Option.some.injEq] at e
      subst e
      exact ⟨_, by simp, (h.stored j x).1⟩
  · refine ⟨l, rfl, ?_⟩
    obtain ⟨h1, h2⟩ := h
    refine ⟨h1, ?_⟩
    rcases h2 with h2 | ⟨g', cap, cur, rfl, hg, hh, r⟩
    · exact .inl h2
    · exact .inr ⟨g', cap, cur, rfl, hg, (Below.heap_setCell _ _ _ _ (fun e' => e (by simp [Value.ownBlock, e']))).trans hh, r⟩

theorem Raw.stored {g C : Nat} {l : List Int} (h : Raw w lo (.slice (some ⟨g, 0, none⟩) n C) n l) (j : Nat) (x : Int) :
    Raw (w.setCell ⟨g, j, none⟩ (.int .i64 x)) lo (.slice (some ⟨g, 0, none⟩) n C) n (l.set j x) ∧ w.grownBy (w.setCell ⟨g, j, none⟩ (.int .i64 x)) (some g) := by
  have h2 := World.ownsRow.stored (w := w) h j (.int .i64 x)
  refine ⟨?_, h2.2⟩
  unfold Raw
  rw [List.map_set]
  exact h2.1

theorem Raw.setAny {l : List Int} (h : Raw w lo v n l) (g j : Nat) (x : Int) : ∃ l' : List Int, l'.length = l.length ∧ Raw (w.setCell ⟨g, j, none⟩ (.int .i64 x)) lo v n l' := by
  by_cases e : v.ownBlock = some g
  · rcases h.2 with ⟨rfl, _⟩ | ⟨g', cap, cur, rfl, _⟩
    · cases e
    · simp only [Value.ownBlock, Option.some.injEq] at e
      subst e
      exact ⟨_, by simp, (h.stored j x).1⟩
  · refine ⟨l, rfl, ?_⟩
    obtain ⟨h1, h2⟩ := h
    refine ⟨h1, ?_⟩
    rcases h2 with h2 | ⟨g', cap, cur, rfl, hg, hh, r⟩
    · exact .inl h2
    · exact .inr ⟨g', cap, cur, rfl, hg, (Below.heap_setCell _ _ _ _ (fun e' => e (by simp [Value.ownBlock, e']))).trans hh, r⟩
end

/-- Rows of numbers and of statements stay such rows. -/
def KeepsRows (w w' : World) : Prop := (∀ lo hi v n, AnyInts w lo hi v n → AnyInts w' lo hi v n) ∧ (∀ lo hi v n, AnyStmts w lo hi v n → AnyStmts w' lo hi v n)
theorem KeepsRows.refl (w : World) : KeepsRows w w := ⟨fun _ _ _ _ h => h, fun _ _ _ _ h => h⟩
theorem KeepsRows.trans {a b c : World} (h : KeepsRows a b) (k : KeepsRows b c) : KeepsRows a c := ⟨fun lo hi v n x => k.1 lo hi v n (h.1 lo hi v n x), fun lo hi v n x => k.2 lo hi v n (h.2 lo hi v n x)⟩
theorem KeepsRows.setCell {a w : World} (h : KeepsRows a w) (g j : Nat) (x : Int) : KeepsRows a (w.setCell ⟨g, j, none⟩ (.int .i64 x)) := by
  refine h.trans ⟨fun lo hi v n => ?_, fun lo hi v n => ?_⟩
  · rintro ⟨l, hl, hi1, hb⟩
    obtain ⟨l', hl', h'⟩ := hi1.setAny g j x
    exact ⟨l', by omega, h', hb⟩
  · rintro ⟨l, hl, hi1, hb⟩
    obtain ⟨l', hl', h'⟩ := hi1.setAny g j x
    exact ⟨l', by omega, h', hb⟩
theorem KeepsRows.alloc {a w : World} (h : KeepsRows a w) (o : Obj) : KeepsRows a (w.alloc o) := by
  refine h.trans ⟨fun lo hi v n => ?_, fun lo hi v n => ?_⟩
  · rintro ⟨l, hl, hi1, hb⟩
    exact ⟨l, hl, hi1.keep al1, hb⟩
  · rintro ⟨l, hl, hi1, hb⟩
    exact ⟨l, hl, own_keep hi1 al1, hb⟩

/-! ### one row -/
set_option maxRecDepth 100000 in
theorem markIntS_any (v : Value) (l : List Int) (lo : Nat) (k : Int) (w : World) (hv : Ints w lo v l) (hk : 0 ≤ k) (hk2 : k + l.length ≤ 1099511627776) :
    Calls Try.prog 61 #[v, .int .i64 k] w fun e w' => e = .returned (.int .i64 (k + l.length)) ∧ Ints w' lo v (seqI k l.length) ∧ w.grownBy w' v.ownBlock ∧ KeepsRows w w' := by
  obtain ⟨A, C, g, rfl, hn, hc, hA, hg, hcell, hf⟩ := hv.rd
  unfold maxLen at hc
  have hst : Ints w lo (.slice A l.length C) (seqTo k 0 l) := by rw [seqTo_zero]; exact hv
  clear hcell hf hv
  go_enter Try.func61, Try.ntmps61
  go_wp2
  go_loopw [1, 5] (fun q i wr => ∃ j : Nat, j ≤ l.length ∧ i = .int .i64 j ∧ q = .int .i64 (k + j) ∧ Ints wr lo (.slice A l.length C) (seqTo k j l) ∧ w.grownBy wr (Value.ownBlock (.slice A l.length C)) ∧ KeepsRows w wr) (fun _ i _ => l.length - (intOf i).toNat)
  case atStart => exact ⟨0, Nat.zero_le _, rfl, by simp, hst, World.grownBy.refl _ _, KeepsRows.refl _⟩
  case round =>
    obtain ⟨j, hj, rfl, rfl, hown, hgr, hkr⟩ := hrel
    by_cases hlt : j < l.length
    · obtain rfl := hA (by omega)
      have hlen := length_seqTo (k := k) hj
      obtain ⟨_, C', g', e', _, _, hA', hg', hcell', hf'⟩ := hown.rd
      rw [hlen] at e' hA' hg' hcell' hf'
      obtain ⟨rfl, rfl⟩ : C = C' ∧ g = g' := by
        rw [hA' (by omega)] at e'
        simp only [Value.slice.injEq, Option.some.injEq, Addr.mk.injEq, and_true, true_and] at e'
        exact ⟨e'.2, e'.1⟩
      have hc1 := hcell' j hlt
      have hf1 := hf' (by omega) j
      have hgl := (hg' (by omega)).2
      have HO := Lib.hid hown
      clear e' hA' hg' hcell' hf' hlen hown
      go_wp2
      go_roundw
      case rel => exact ⟨j + 1, by omega, by go_num, by go_num, by rw [← seqTo_set hlt]; exact (HO.out.stored j _).1, hgr.trans ((HO.out.stored j _).2), hkr.setCell _ _ _⟩
      case measure => simp [intOf]; omega
    · obtain rfl : j = l.length := by omega
      rw [seqTo_all] at hown
      go_wp2
      go_ret
      exact ⟨rfl, hown, hgr, hkr⟩

theorem heldIntS_any (v : Value) (n lo : Nat) (k : Int) (w : World) (hv : Ints w lo v (seqI k n)) (hk : 0 ≤ k) (hk2 : k + n ≤ 1099511627776) :
    Calls Try.prog 62 #[v, .int .i64 k] w fun e w' => e = .returned (.int .i64 (k + n)) ∧ w = w' := by
  obtain ⟨A, C, g, rfl, hn, hc, hA, hg, hcell, hf⟩ := hv.rd
  rw [length_seqI] at hn hA hg hcell ⊢
  unfold maxLen at hc
  clear hf hv
  go_enter Try.func62, Try.ntmps62
  go_wp2
  go_loop [1, 5] (fun q i => ∃ j : Nat, j ≤ n ∧ i = .int .i64 j ∧ q = .int .i64 (k + j)) (fun _ i => n - (intOf i).toNat)
  case atStart => exact ⟨0, Nat.zero_le _, rfl, by simp⟩
  case round =>
    obtain ⟨j, hj, rfl, rfl⟩ := hrel
    by_cases hlt : j < n
    · obtain rfl := hA (by omega)
      have hc1 := hcell j hlt
      rw [seqI_getD n k j hlt] at hc1
      have hb : ((k + (j : Int)) != (k + (j : Int))) = false := by simp
      clear hA hg hcell
      go_wp2
      go_round
      case rel => exact ⟨j + 1, by omega, by go_num, by go_num⟩
      case measure => simp [intOf]; omega
    · obtain rfl : j = n := by omega
      go_wp2
      go_ret
      exact ⟨rfl, rfl⟩

theorem Raw.four {w : World} {lo n g C j : Nat} {k x0 x1 x2 x3 : Int} {l : List Int} (h : Raw w lo (.slice (some ⟨g, 0, none⟩) n C) n (seqTo k (j * 4) l)) (hl : l.length = n * 4) (hj : j < n)
    (e0 : x0 = k + (j * 4 : Nat)) (e1 : x1 = k + (j * 4 + 1 : Nat)) (e2 : x2 = k + (j * 4 + 2 : Nat)) (e3 : x3 = k + (j * 4 + 3 : Nat)) :
    Raw ((((w.setCell ⟨g, j * 4, none⟩ (.int .i64 x0)).setCell ⟨g, j * 4 + 1, none⟩ (.int .i64 x1)).setCell ⟨g, j * 4 + 2, none⟩ (.int .i64 x2)).setCell ⟨g, j * 4 + 3, none⟩ (.int .i64 x3)) lo (.slice (some ⟨g, 0, none⟩) n C) n (seqTo k ((j + 1) * 4) l) ∧
    w.grownBy ((((w.setCell ⟨g, j * 4, none⟩ (.int .i64 x0)).setCell ⟨g, j * 4 + 1, none⟩ (.int .i64 x1)).setCell ⟨g, j * 4 + 2, none⟩ (.int .i64 x2)).setCell ⟨g, j * 4 + 3, none⟩ (.int .i64 x3)) (some g) := by
  subst e0 e1 e2 e3
  have a0 := h.stored (j * 4) (k + (j * 4 : Nat))
  rw [seqTo_set (by omega)] at a0
  have a1 := a0.1.stored (j * 4 + 1) (k + (j * 4 + 1 : Nat))
  rw [seqTo_set (by omega)] at a1
  have a2 := a1.1.stored (j * 4 + 2) (k + (j * 4 + 2 : Nat))
  rw [seqTo_set (by omega)] at a2
  have a3 := a2.1.stored (j * 4 + 3) (k + (j * 4 + 3 : Nat))
  rw [seqTo_set (by omega)] at a3
  rw [show (j + 1) * 4 = j * 4 + 3 + 1 by omega]
  exact ⟨a3.1, ((a0.2.trans a1.2).trans a2.2).trans a3.2⟩

set_option maxRecDepth 100000 in
theorem markStmtS_any (v : Value) (n : Nat) (l : List Int) (lo : Nat) (k : Int) (w : World) (hv : Raw w lo v n l) (hk : 0 ≤ k) (hk2 : k + n * 4 ≤ 1099511627776) :
    Calls Try.prog 92 #[v, .int .i64 k] w fun e w' => e = .returned (.int .i64 (k + n * 4)) ∧ Raw w' lo v n (seqI k (n * 4)) ∧ w.grownBy w' v.ownBlock ∧ KeepsRows w w' := by
  obtain ⟨A, C, g, rfl, hn, hc, hA, hg, hcell, hf⟩ := own_rd hv
  have hl : l.length = n * 4 := by have := hv.1; rwa [List.length_map] at this
  unfold maxLen at hc
  have hst : Raw w lo (.slice A n C) n (seqTo k 0 l) := by rw [seqTo_zero]; exact hv
  clear hcell hf hv
  go_enter Try.func92, Try.ntmps92
  go_wp2
  go_loopw [1, 5] (fun q i wr => ∃ j : Nat, j ≤ n ∧ i = .int .i64 j ∧ q = .int .i64 (k + j * 4) ∧ Raw wr lo (.slice A n C) n (seqTo k (j * 4) l) ∧ w.grownBy wr (Value.ownBlock (.slice A n C)) ∧ KeepsRows w wr) (fun _ i _ => n - (intOf i).toNat)
  case atStart => exact ⟨0, Nat.zero_le _, rfl, by simp, hst, World.grownBy.refl _ _, KeepsRows.refl _⟩
  case round =>
    obtain ⟨j, hj, rfl, rfl, hown, hgr, hkr⟩ := hrel
    by_cases hlt : j < n
    · obtain rfl := hA (by omega)
      obtain ⟨_, C', g', e', _, _, hA', hg', hcell', hf'⟩ := own_rd hown
      obtain ⟨rfl, rfl⟩ : C = C' ∧ g = g' := by
        rw [hA' (by omega)] at e'
        simp only [Value.slice.injEq, Option.some.injEq, Addr.mk.injEq, and_true, true_and] at e'
        exact ⟨e'.2, e'.1⟩
      have hlen := length_seqTo (k := k) (j := j * 4) (l := l) (by omega)
      have is : ∀ c, c < 4 → (wr.cell? ⟨g, j * 4 + c, none⟩).isSome = true := fun c hc => by
        rw [hcell' (j * 4 + c) (by omega)]; rfl
      obtain ⟨a0, h0⟩ := Option.isSome_iff_exists.1 (is 0 (by omega))
      obtain ⟨a1, h1⟩ := Option.isSome_iff_exists.1 (is 1 (by omega))
      obtain ⟨a2, h2⟩ := Option.isSome_iff_exists.1 (is 2 (by omega))
      obtain ⟨a3, h3⟩ := Option.isSome_iff_exists.1 (is 3 (by omega))
      rw [Nat.add_zero] at h0
      have hf0 := hf' (by omega)
      have hgl := (hg' (by omega)).2
      have HO := Lib.hid hown
      clear e' hA' hg' hcell' hf' hlen hown is
      go_wp2
      go_roundw
      case rel =>
        have h4 := HO.out.four (x0 := k + (j : Int) * 4) (x1 := k + (j : Int) * 4 + 1) (x2 := k + (j : Int) * 4 + 1 + 1) (x3 := k + (j : Int) * 4 + 1 + 1 + 1) hl hlt (by omega) (by omega) (by omega) (by omega)
        exact ⟨j + 1, by omega, by go_num, by go_num, h4.1, hgr.trans h4.2, (((hkr.setCell _ _ _).setCell _ _ _).setCell _ _ _).setCell _ _ _⟩
      case measure => simp [intOf]; omega
    · obtain rfl : j = n := by omega
      have e : seqTo k (j * 4) l = seqI k (j * 4) := by rw [← hl, seqTo_all]
      rw [e] at hown
      go_wp2
      go_ret
      exact ⟨rfl, hown, hgr, hkr⟩

/-! ### programs -/
def Bk.marks (k : Bk) : Nat := 2 + k.params.length + k.body.length * 4
def marksTo : Pr → Nat
  | [] => 0
  | k :: p => k.marks + marksTo p
theorem marksTo_succ : ∀ (p : Pr) (i : Nat), i < p.length → marksTo (p.take (i + 1)) = marksTo (p.take i) + (p.getD i default).marks
  | [], i, h => absurd h (by simp)
  | k :: p, 0, _ => by simp [marksTo]
  | k :: p, i + 1, h => by
    have := marksTo_succ p i (by simpa using h)
    simp only [List.take_succ_cons, marksTo, this, List.getD_cons_succ]
    omega
theorem marksTo_le (p : Pr) (i : Nat) : marksTo (p.take i) ≤ marksTo p := by
  induction p generalizing i with
  | nil => simp [marksTo]
  | cons k p ih =>
    cases i with
    | zero => simp [marksTo]
    | succ i => simp only [List.take_succ_cons, marksTo]; have := ih i; omega
theorem marksTo_size : ∀ p : Pr, marksTo p ≤ 4 * Pr.size p
  | [] => by simp [marksTo]
  | k :: p => by
    have := marksTo_size p
    have e : Pr.size (k :: p) = (p.length + 1) + (k.size + sizes p) := by simp [Pr.size, sizes]
    have e2 : Pr.size p = p.length + sizes p := rfl
    have e3 : k.size = k.params.length + k.body.length := rfl
    simp only [marksTo, Bk.marks]
    omega

/-- The blocks' row while it is marked: where the blocks' own rows lie stays. -/
def BRow (w : World) (lo hi g N n : Nat) (pv bv : Nat → Value) (p : Pr) : Prop :=
  ∃ f : Nat → Value, w.rowIs g 56 N f ∧ n * 4 ≤ N ∧ ∀ j, j < n → (∃ a, f (j * 4) = .int .i64 a) ∧ (∃ b, f (j * 4 + 1) = .int .i64 b) ∧ f (j * 4 + 2) = pv j ∧ f (j * 4 + 3) = bv j ∧
    AnyInts w lo hi (pv j) (p.getD j default).params.length ∧ AnyStmts w lo hi (bv j) (p.getD j default).body.length

theorem BRow.grown {w w' : World} {lo hi g N n : Nat} {pv bv : Nat → Value} {p : Pr} (h : BRow w lo hi g N n pv bv p) (hk : KeepsRows w w') (he : w'.heap[g]? = w.heap[g]?) : BRow w' lo hi g N n pv bv p := by
  obtain ⟨f, h1, h2, h3⟩ := h
  exact ⟨f, h1.of_block he, h2, fun j hj => ⟨(h3 j hj).1, (h3 j hj).2.1, (h3 j hj).2.2.1, (h3 j hj).2.2.2.1, hk.1 _ _ _ _ (h3 j hj).2.2.2.2.1, hk.2 _ _ _ _ (h3 j hj).2.2.2.2.2⟩⟩

theorem BRow.set2 {w : World} {lo hi g N n i : Nat} {pv bv : Nat → Value} {p : Pr} (h : BRow w lo hi g N n pv bv p) (x y : Int) :
    BRow ((w.setCell ⟨g, i * 4, none⟩ (.int .i64 x)).setCell ⟨g, i * 4 + 1, none⟩ (.int .i64 y)) lo hi g N n pv bv p := by
  obtain ⟨f, h1, h2, h3⟩ := h
  have hk := ((KeepsRows.refl w).setCell g (i * 4) x).setCell g (i * 4 + 1) y
  refine ⟨_, (h1.set (i * 4) (.int .i64 x)).set (i * 4 + 1) (.int .i64 y), h2, fun j hj => ?_⟩
  obtain ⟨⟨a, ha⟩, ⟨b, hb⟩, hc, hd, he, hf⟩ := h3 j hj
  refine ⟨?_, ?_, ?_, ?_, hk.1 _ _ _ _ he, hk.2 _ _ _ _ hf⟩
  · by_cases e : j = i
    · subst e; exact ⟨x, by rw [if_neg (by omega), if_pos rfl]⟩
    · exact ⟨a, by rw [if_neg (by omega), if_neg (by omega)]; exact ha⟩
  · by_cases e : j = i
    · subst e; exact ⟨y, by rw [if_pos rfl]⟩
    · exact ⟨b, by rw [if_neg (by omega), if_neg (by omega)]; exact hb⟩
  · rw [if_neg (by omega), if_neg (by omega)]; exact hc
  · rw [if_neg (by omega), if_neg (by omega)]; exact hd

theorem ints_not_blocks {w : World} {lo g : Nat} {v : Value} {l : List Int} {c : Array Value} (h : Ints w lo v l) (hg : w.heap[g]? = some (.cells c 56 (0, 0))) : ∀ k, v.ownBlock = some k → k ≠ g := by
  rintro k hk rfl
  rcases h.2 with ⟨rfl, _⟩ | ⟨g', cap, cur, rfl, _, hh, _⟩
  · cases hk
  · simp only [Value.ownBlock, Option.some.injEq] at hk
    subst hk
    rw [hh] at hg
    simp at hg
theorem stmts_not_blocks {w : World} {lo g : Nat} {v : Value} {m : Nat} {l : List Int} {c : Array Value} (h : Raw w lo v m l) (hg : w.heap[g]? = some (.cells c 56 (0, 0))) : ∀ k, v.ownBlock = some k → k ≠ g := by
  rintro k hk rfl
  rcases h.2 with ⟨rfl, _⟩ | ⟨g', cap, cur, rfl, _, hh, _⟩
  · cases hk
  · simp only [Value.ownBlock, Option.some.injEq] at hk
    subst hk
    rw [hh] at hg
    simp at hg

theorem Blks.brow {w : World} {lo : Nat} {v : Value} {p : Pr} (h : Blks w lo v p) (hp : 0 < p.length) : ∃ (g C N : Nat) (pv bv : Nat → Value), v = .slice (some ⟨g, 0, none⟩) p.length C ∧ lo ≤ g ∧ g < w.heap.size ∧ p.length ≤ C ∧ C ≤ maxLen ∧ BRow w lo w.heap.size g N p.length pv bv p := by
  obtain ⟨xs, ⟨hx, hr⟩, hb⟩ := h
  rcases hr with ⟨_, h0⟩ | ⟨g, cap, cur, hv, hg, hh, hn, hm, hs, ht⟩
  · omega
  · have at_ : ∀ j c, j < p.length → c < 4 → ((xs.drop (j * 4)).take 4)[c]? = some (cur[j * 4 + c]?.getD undef) := fun j c hj hc => by
      rw [List.getElem?_take, if_pos hc, List.getElem?_drop, ← ht, List.getElem?_take, if_pos (by omega), Array.getElem?_toList, Array.getElem?_eq_getElem (by omega)]
      rfl
    have hcs := hb
    refine ⟨g, cap, cap * 4, fun j => cur[j * 4 + 2]?.getD undef, fun j => cur[j * 4 + 3]?.getD undef, hv, hg, lt_of_block hh, hn, hm, fun i => cur[i]?.getD undef, ⟨cur, hh, hs, fun i hi => by simp [Array.getElem?_eq_getElem (show i < cur.size by omega)]⟩, by omega, fun j hj => ?_⟩
    obtain ⟨pv, bv, e, h1, h2⟩ := hb j hj
    have a0 := at_ j 0 hj (by omega)
    have a1 := at_ j 1 hj (by omega)
    have a2 := at_ j 2 hj (by omega)
    have a3 := at_ j 3 hj (by omega)
    rw [e] at a0 a1 a2 a3
    simp only [List.getElem?_cons_zero, List.getElem?_cons_succ, Option.some.injEq, Nat.add_zero] at a0 a1 a2 a3
    refine ⟨⟨_, a0.symm⟩, ⟨_, a1.symm⟩, rfl, rfl, ?_, ?_⟩
    · show AnyInts w lo _ (cur[j * 4 + 2]?.getD undef) _
      rw [← a2]; exact h1.any (Nat.le_refl _)
    · show AnyStmts w lo _ (cur[j * 4 + 3]?.getD undef) _
      rw [← a3]; exact h2.any (Nat.le_refl _)

set_option maxRecDepth 100000 in
theorem markBlockS_any (g C N lo hi : Nat) (pv bv : Nat → Value) (p : Pr) (k : Int) (w : World) (hv : BRow w lo hi g N p.length pv bv p) (hlg : lo ≤ g) (hgh : g < hi) (hn : p.length ≤ C) (hC : C ≤ maxLen) (hk : 0 ≤ k) (hk2 : k + marksTo p ≤ 1099511627776) :
    Calls Try.prog 60 #[.slice (some ⟨g, 0, none⟩) p.length C, .int .i64 k] w fun e w' => e = .returned (.int .i64 (k + marksTo p)) ∧ Only lo hi w w' ∧ KeepsRows w w' := by
  unfold maxLen at hC
  have HV := Lib.hid hv
  clear hv
  have ha : marksTo (p.take p.length) = marksTo p := by rw [List.take_length]
  have HA := Lib.hid ha
  clear ha
  go_enter Try.func60, Try.ntmps60
  go_wp2
  go_loopw [1, 5] (fun q i wr => ∃ j : Nat, j ≤ p.length ∧ i = .int .i64 j ∧ q = .int .i64 (k + marksTo (p.take j)) ∧ BRow wr lo hi g N p.length pv bv p ∧ Only lo hi w wr ∧ KeepsRows w wr) (fun _ i _ => p.length - (intOf i).toNat)
  case atStart => exact ⟨0, Nat.zero_le _, rfl, by simp [marksTo], HV.out, Only.refl _ _ _, KeepsRows.refl _⟩
  case round =>
    obtain ⟨j, hj, rfl, rfl, hrow, ho, hkr⟩ := hrel
    have HR := Lib.hid hrow
    by_cases hlt : j < p.length
    · obtain ⟨f, hr1, hr2, hr3⟩ := hrow
      obtain ⟨⟨a, ha⟩, ⟨b, hb⟩, hc, hd, he, hf⟩ := hr3 j hlt
      have c0 := hr1.cell (i := j * 4) (by omega)
      have c1 := hr1.cell (i := j * 4 + 1) (by omega)
      have c2 := hr1.cell (i := j * 4 + 2) (by omega)
      rw [ha] at c0
      rw [hb] at c1
      rw [hc] at c2
      have hf0 := hr1.frozen
      have hgl := hr1.lt
      have hs := marksTo_succ p j hlt
      have hle := marksTo_le p (j + 1)
      have hm : (p.getD j default).marks = 2 + (p.getD j default).params.length + (p.getD j default).body.length * 4 := rfl
      generalize hnp : (p.getD j default).params.length = np at *
      generalize hnb : (p.getD j default).body.length = nb at *
      generalize (p.getD j default).marks = mk at *
      rw [hs] at hle
      generalize hT : marksTo (p.take j) = T at *
      have HS := Lib.hid hs
      have HM := Lib.hid hm
      have hmk : 2 + np + nb * 4 ≤ mk := by omega
      have HNP := Lib.hid hnp
      have HNB := Lib.hid hnb
      have hidx : (j : Int) < (p.length : Int) := by omega
      generalize hpv : pv j = pj at *
      generalize hbv : bv j = bj at *
      have HPV := Lib.hid hpv
      have HBV := Lib.hid hbv
      clear ha hb hc hd he hf hr1 hr3 hs hm hT hpv hbv hnp hnb
      go_wp2_with fail
      have hr1 := (HR.out.set2 (i := j) (k + (T : Int)) (k + (T : Int) + 1))
      have ho1 := (ho.setCell (p := ⟨g, j * 4, none⟩) hlg hgh (.int .i64 (k + (T : Int)))).setCell (p := ⟨g, j * 4 + 1, none⟩) hlg hgh (.int .i64 (k + (T : Int) + 1))
      have hk1 := (hkr.setCell g (j * 4) (k + (T : Int))).setCell g (j * 4 + 1) (k + (T : Int) + 1)
      obtain ⟨f1, hf1, _, hf3⟩ := id hr1
      obtain ⟨_, _, _, hd1, ⟨l1, hl1, hi1, hb1⟩, _⟩ := hf3 j hlt
      obtain ⟨cu, hcu, _⟩ := id hf1
      rw [HPV.out] at hi1 hb1
      rw [HNP.out] at hl1
      have hne := ints_not_blocks hi1 hcu
      refine (markIntS_any _ l1 lo _ _ hi1 (by omega) (by omega)).mono ?_
      rintro e W2 ⟨rfl, hi2, hg2, hk2'⟩
      rw [hl1]
      have he2 := hg2.block g (by simpa using hgl) (fun e => hne _ e.symm rfl)
      have hr2 := hr1.grown hk2' he2
      have ho2 := ho1.grown hg2 (fun q hq => ⟨own_block_ge hi1 q hq, hb1 q hq⟩)
      have hk2 := hk1.trans hk2'
      obtain ⟨f2, hf2, _, hf4⟩ := id hr2
      obtain ⟨_, _, _, hd2, _, ⟨l2, hl2, hi3, hb3⟩⟩ := hf4 j hlt
      have c3 := hf2.cell (i := j * 4 + 3) (by omega)
      rw [hd2, HBV.out] at c3
      rw [HBV.out, HNB.out] at hi3
      rw [HBV.out] at hb3
      rw [HNB.out] at hl2
      obtain ⟨cu2, hcu2, _⟩ := id hf2
      have hne2 := stmts_not_blocks hi3 hcu2
      have hgl2 := hf2.lt
      have HR2 := Lib.hid hr2
      have HC := Lib.hid hcu2
      clear hr1 ho1 hk1 hf1 hf3 hd1 hi1 hb1 hcu hne hi2 hg2 he2 hr2 hf2 hf4 hd2 hcu2 c0 c1 c2
      go_wp2_with fail
      refine (markStmtS_any _ nb l2 lo _ _ hi3 (by omega) (by omega)).mono ?_
      rintro e W3 ⟨rfl, hi4, hg3, hk3'⟩
      have he3 := hg3.block g hgl2 (fun e => hne2 _ e.symm rfl)
      have hr3 := HR2.out.grown hk3' he3
      have ho3 := ho2.grown hg3 (fun q hq => ⟨own_block_ge hi3 q hq, hb3 q hq⟩)
      have hk3 := hk2.trans hk3'
      clear hne2 hi3 hb3 hi4 hg3 he3 c3
      go_wp2
      go_roundw
      case rel => exact ⟨j + 1, by omega, by go_num, by rw [HS.out, HM.out]; go_num, hr3, ho3, hk3⟩
      case measure => simp [intOf]; omega
    · obtain rfl : j = p.length := by omega
      go_wp2
      go_ret
      exact ⟨ret_int (by rw [HA.out]), ho, hkr⟩

theorem markBlockS_nil (A : Option Addr) (C : Nat) (k : Int) (w : World) :
    Calls Try.prog 60 #[.slice A 0 C, .int .i64 k] w fun e w' => e = .returned (.int .i64 k) ∧ w = w' := by
  go_enter Try.func60, Try.ntmps60
  go_wp2
  refine wp_loop_rounds 1 ?_
  rw [rounds_succ]
  go_wp2
  go_ret
  exact ⟨rfl, rfl⟩

theorem KeepsRows.of_below {w w' : World} (hb : Below w.heap.size w w') : KeepsRows w w' := by
  refine ⟨fun lo hi v n => ?_, fun lo hi v n => ?_⟩
  · rintro ⟨l, hl, hi1, h⟩
    exact ⟨l, hl, hi1.keep hb, h⟩
  · rintro ⟨l, hl, hi1, h⟩
    exact ⟨l, hl, own_keep hi1 hb, h⟩

theorem BRow.keep {w w' : World} {lo hi g N n : Nat} {pv bv : Nat → Value} {p : Pr} (h : BRow w lo hi g N n pv bv p) (hb : Below w.heap.size w w') : BRow w' lo hi g N n pv bv p := by
  have hg : g < w.heap.size := by
    obtain ⟨f, h1, _⟩ := h
    exact h1.lt
  exact h.grown (KeepsRows.of_below hb) (hb.block g hg)

theorem markProgram_any (sl : Value) (p : Pr) (lo : Nat) (k : Int) (w1 w : World) (hv : Blks w1 lo sl p) (hb : Below w1.heap.size w1 w) (hk : 0 ≤ k) (hk2 : k + marksTo p ≤ 1099511627776) :
    Calls Try.prog 24 #[.agg #[sl], .int .i64 k] w fun e w' => e = .returned (.int .i64 (k + marksTo p)) ∧ Only lo w1.heap.size w w' := by
  rcases Nat.eq_zero_or_pos p.length with h0 | h0
  · obtain rfl : p = [] := List.eq_nil_of_length_eq_zero h0
    obtain ⟨A, C, rfl⟩ := hv.form
    clear hv
    go_enter Try.func24, Try.ntmps24
    go_wp2_with (go_at_call 60; refine (markBlockS_nil A C k _).mono ?_; rintro e w' ⟨rfl, rfl⟩)
    go_ret
    exact ⟨ret_int (by simp [marksTo]), (Only.refl _ _ _).alloc _⟩
  · obtain ⟨g, C, N, pv, bv, rfl, h1, h2, h3, h4, h5⟩ := hv.brow h0
    have HV := Lib.hid h5
    have HB := Lib.hid hb
    clear hv h5 hb
    go_enter Try.func24, Try.ntmps24
    go_wp2_with (go_at_call 60; refine (markBlockS_any g C N lo _ pv bv p k _ ((HV.out.keep HB.out).keep al1) h1 h2 h3 h4 hk hk2).mono ?_; rintro e w' ⟨rfl, ho, _⟩)
    go_ret
    exact ⟨rfl, ((Only.refl _ _ _).alloc _).trans ho⟩

end Go.Proofs.Ytiemhadpepbcjaa
