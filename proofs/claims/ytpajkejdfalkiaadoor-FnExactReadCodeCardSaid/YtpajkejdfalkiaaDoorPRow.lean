/-
  Memory: rows of statements and of blocks that a call builds: appends to them, stores into them. No condition but that the rows read as lists.
-/
import Derived.Test.YtpajkejdfalkiaaDoorLists
namespace Go.Proofs.YtpajkejdfalkiaaDoor
open Go.RowKit
set_option linter.unusedVariables false

/-! ### what an append may be fed with -/
/-- A slice whose cells are read: nil, or cells behind an address. -/
def Feed (w : World) (size : Nat) (v : Value) (m : Nat) (ys : List Value) : Prop :=
  ys.length = m * size ∧ ((v = .slice none 0 0 ∧ m = 0) ∨ ∃ ad c, v = .slice (some ad) m c ∧ ∀ j u, ys[j]? = some u → w.cell? (ad.add j) = some u)
theorem Feed.of_row {w : World} {lo : Nat} {e : TypeId} {size m : Nat} {v : Value} {ys : List Value} (h : w.ownsRow lo e size v m ys) : Feed w size v m ys := by
  refine ⟨h.1, ?_⟩
  rcases h.2 with ⟨rfl, rfl⟩ | ⟨g, cap, cur, rfl, hg, hh, hr⟩
  · exact .inl ⟨rfl, rfl⟩
  · exact .inr ⟨_, cap, rfl, own_news h⟩
/-- A part of a row. -/
theorem Feed.part {w : World} {lo : Nat} {e : TypeId} {size n C g : Nat} {xs : List Value} (h : w.ownsRow lo e size (.slice (some ⟨g, 0, none⟩) n C) n xs) (at_ m C' o : Nat) (ha : at_ + m ≤ n) (ho : o = at_ * size) :
    Feed w size (.slice (some ⟨g, o, none⟩) m C') m ((xs.drop (at_ * size)).take (m * size)) := by
  subst ho
  have hl := h.1
  have hm : at_ * size + m * size ≤ n * size := by rw [← Nat.add_mul]; exact Nat.mul_le_mul_right _ ha
  refine ⟨by rw [List.length_take, List.length_drop]; omega, .inr ⟨_, _, rfl, fun j u hu => ?_⟩⟩
  rw [List.getElem?_take] at hu
  split at hu
  case isTrue hj =>
    rw [List.getElem?_drop] at hu
    have := own_news h _ _ hu
    rw [Go.WideShapes.add_plain] at this ⊢
    rw [Nat.zero_add] at this
    exact this
  case isFalse => cases hu
theorem Feed.keep {w w' : World} {size m : Nat} {v : Value} {ys : List Value} (h : Feed w size v m ys) (hsz : 0 < size) (hb : Below w.heap.size w w') : Feed w' size v m ys := by
  refine ⟨h.1, ?_⟩
  rcases h.2 with h2 | ⟨ad, c, rfl, hc⟩
  · exact .inl h2
  · refine .inr ⟨ad, c, rfl, fun j u hu => ?_⟩
    have h1 := hc j u hu
    exact (hb.cell (p := ad.add j) (World.block_lt_of_cell? _ _ h1)).trans h1

/-- The law on append, fed with cells. -/
theorem wpList_append_feed {P : Program} {w : World} {ops : Array Oper} {rest : List Oper} {o : Oper} {a : Act} {Q : Exit → Act → World → Prop} (hgd : o.guard = none) (s x : Operand) (t : TypeId)
    (ho : o.op = .call { callee := .builtin .append, args := #[s, x], argTypes := #[t, t] })
    (base : Nat) (e : TypeId) (z : Value) (size bytes : Nat) (ht : P.underlying t = some (.slice e)) (hinfo : (P.info? e).map (fun i => (i.zero, i.size, i.bytes)) = some (some z, size, bytes))
    (hzs : z.cells.size = size) (hsz : 0 < size)
    (v v2 : Value) (n m : Nat) (xs ys : List Value) (hs : a.eval s = v) (hx : a.eval x = v2) (hown : w.ownsRow base e size v n xs) (hfeed : Feed w size v2 m ys) (h1 : ∀ u ∈ ys, u.oneCell' = true)
    (h63 : n + m ≤ maxLen) (hbytes : (n + m) * bytes ≤ 140737488355328) (hbase : base ≤ w.heap.size)
    (h : ∀ v' w', w'.ownsRow base e size v' (n + m) (xs ++ ys) → w.grownBy w' v.ownBlock → Below base w w' → RowFrom v v' w.heap.size → wpList P ops Q rest (a.put o.dst v') w') :
    wpList P ops Q (o :: rest) a w := by
  obtain ⟨i, hi, hz0, hz1, hz2⟩ := info_parts hinfo
  obtain ⟨hl, hf⟩ := hfeed
  rcases hf with ⟨rfl, rfl⟩ | ⟨ad, c, rfl, hnews⟩
  · refine wpList_append_own_none hgd s x t ho base e i size ht hi v n xs hs hown hx ?_
    have : ys = [] := List.eq_nil_of_length_eq_zero (by omega)
    subst this
    exact h v w (by simpa using hown) (World.grownBy.refl w _) (Below.refl _ _) (.inl rfl)
  · refine wpList_append_own_at w hgd s x t ho base e i z size bytes ht hi hz0 hz1 hz2 hzs hsz v n xs hs hown ad m c ys hx hl hnews h1 h63 hbytes hbase ?_
    intro v' w' h2 h3 h4 h5
    refine h v' w' h2 h3 ((Below.refl base w).grown h3 hbase (own_block_ge hown)) ?_
    rcases h5 with h5 | h5
    · exact .inl h5
    · exact .inr ⟨_, h5, Nat.le_refl _⟩

/-- The same at a step of a region that draws its order. -/
theorem step_append_feed {P : Program} {w : World} {ops : Array Oper} {o : Oper} {a : Act} {K : Act → World → Prop} {Q : Exit → Act → World → Prop} {E : Prop} (hgd : o.guard = none) (s x : Operand) (t : TypeId)
    (ho : o.op = .call { callee := .builtin .append, args := #[s, x], argTypes := #[t, t] })
    (base : Nat) (e : TypeId) (z : Value) (size bytes : Nat) (ht : P.underlying t = some (.slice e)) (hinfo : (P.info? e).map (fun i => (i.zero, i.size, i.bytes)) = some (some z, size, bytes))
    (hzs : z.cells.size = size) (hsz : 0 < size)
    (v v2 : Value) (n m : Nat) (xs ys : List Value) (hs : a.eval s = v) (hx : a.eval x = v2) (hown : w.ownsRow base e size v n xs) (hfeed : Feed w size v2 m ys) (h1 : ∀ u ∈ ys, u.oneCell' = true)
    (h63 : n + m ≤ maxLen) (hbytes : (n + m) * bytes ≤ 140737488355328) (hbase : base ≤ w.heap.size)
    (h : ∀ v' w', w'.ownsRow base e size v' (n + m) (xs ++ ys) → w.grownBy w' v.ownBlock → Below base w w' → RowFrom v v' w.heap.size → K (a.put o.dst v') w') :
    if Region.wanted o (yielded ops a.tmps) = true then Oper.wp P o a w K Q else E := by
  have hw : Region.wanted o (yielded ops a.tmps) = true := by simp [Region.wanted, hgd]
  rw [if_pos hw]
  obtain ⟨i, hi, hz0, hz1, hz2⟩ := info_parts hinfo
  obtain ⟨hl, hf⟩ := hfeed
  rcases hf with ⟨rfl, rfl⟩ | ⟨ad, c, rfl, hnews⟩
  · have : ys = [] := List.eq_nil_of_length_eq_zero (by omega)
    subst this
    have hrun := run_append_owned_none (P := P) (w := w) base t o.type e i size ht hi v n _ hown
    unfold Oper.wp
    simp [execOp, ho, resolve, invoke, builtin, hs, hx, hrun, Result.andThen]
    exact h v w (by simpa using hown) (World.grownBy.refl w _) (Below.refl _ _) (.inl rfl)
  · obtain ⟨v', w', hrun, h2, h3, _, h5⟩ := run_append_own_at (P := P) w base t o.type e i z size bytes ht hi hz0 hz1 hz2 hzs hsz v n _ hown ad m c _ hl hnews h1 h63 hbytes hbase
    unfold Oper.wp execOp
    simp only [ho, resolve, invoke, builtin, Sem.run_bind, Sem.run_pure, Result.andThen_ok, List.map_toArray, List.map_cons, List.map_nil, hs, hx, hrun]
    refine h v' w' h2 h3 ((Below.refl base w).grown h3 hbase (own_block_ge hown)) ?_
    rcases h5 with h5 | h5
    · exact .inl h5
    · exact .inr ⟨_, h5, Nat.le_refl _⟩

/-! ### statements -/
theorem inf_Stmt : (Tryd.prog.info? 118).map (fun i => (i.zero, i.size, i.bytes)) = some (some (.agg #[.int .i64 0, .int .i64 0, .int .i64 0, .int .i64 0]), 4, 32) := by kernel_rfl
theorem st_oneCell (l : List St) : ∀ u ∈ stCells l, u.oneCell' = true := by
  rw [stCells_raw]
  exact ints_oneCell _ _
theorem stCells_append (l m : List St) : stCells (l ++ m) = stCells l ++ stCells m := by simp [stCells]
theorem stCells_drop : ∀ (l : List St) (k : Nat), (stCells l).drop (k * 4) = stCells (l.drop k)
  | [], k => by simp [stCells]
  | s :: l, 0 => by simp
  | s :: l, k + 1 => by
    have := stCells_drop l k
    simp only [stCells, List.flatMap_cons, List.drop_succ_cons] at this ⊢
    rw [show (k + 1) * 4 = k * 4 + 4 by omega, ← this]
    simp
theorem stCells_take : ∀ (l : List St) (k : Nat), (stCells l).take (k * 4) = stCells (l.take k)
  | [], k => by simp [stCells]
  | s :: l, 0 => by simp [stCells]
  | s :: l, k + 1 => by
    have := stCells_take l k
    simp only [stCells, List.flatMap_cons, List.take_succ_cons] at this ⊢
    rw [show (k + 1) * 4 = k * 4 + 4 by omega, ← this]
    simp
/-- A slice of statements that is read: l. -/
def FeedS (w : World) (v : Value) (l : List St) : Prop := Feed w 4 v l.length (stCells l)
theorem Stmts.feed {w : World} {lo : Nat} {v : Value} {l : List St} (h : Stmts w lo v l) : FeedS w v l := Feed.of_row h
theorem FeedS.keep {w w' : World} {v : Value} {l : List St} (h : FeedS w v l) (hb : Below w.heap.size w w') : FeedS w' v l := Feed.keep h (by omega) hb
theorem Stmts.from_ {w : World} {lo g n C : Nat} {l : List St} (h : Stmts w lo (.slice (some ⟨g, 0, none⟩) n C) l) (k m C' o : Nat) (hm : m = l.length - k) (hk : k ≤ l.length) (ho : o = k * 4) : FeedS w (.slice (some ⟨g, o, none⟩) m C') (l.drop k) := by
  obtain ⟨_, _, e⟩ := h.form
  simp only [Value.slice.injEq] at e
  have hn := e.2.1
  subst hn
  have := Feed.part h k m C' o (by omega) ho
  unfold FeedS
  rw [stCells_drop, List.take_of_length_le (by rw [length_stCells, List.length_drop]; omega)] at this
  rw [List.length_drop, ← hm]
  exact this
theorem Stmts.upto_ {w : World} {lo g n C : Nat} {l : List St} (h : Stmts w lo (.slice (some ⟨g, 0, none⟩) n C) l) (k C' : Nat) (hk : k ≤ l.length) : FeedS w (.slice (some ⟨g, 0, none⟩) k C') (l.take k) := by
  obtain ⟨_, _, e⟩ := h.form
  simp only [Value.slice.injEq] at e
  have hn := e.2.1
  subst hn
  have := Feed.part h 0 k C' 0 (by omega) (by omega)
  unfold FeedS
  rw [Nat.zero_mul, List.drop_zero, stCells_take] at this
  rw [List.length_take, Nat.min_eq_left hk]
  exact this
theorem Stmts.lit {w : World} {B lo : Nat} (hB : w.heap.size = B) (hl : lo ≤ B) (l : List St) (hn : l.length ≤ 1048576) : Stmts (w.alloc (.cells (stCells l).toArray 118)) lo (.slice (some ⟨B, 0, none⟩) l.length l.length) l := by
  subst hB
  have h := World.ownsRow_lit (base := lo) (e := 118) (size := 4) w (stCells l).toArray l.length hl (by unfold maxLen; omega) (by simp [length_stCells])
  simpa [Stmts] using h
theorem Stmts.zero {w : World} {B lo : Nat} (hB : w.heap.size = B) (hl : lo ≤ B) : Stmts (w.alloc (.cells #[] 118)) lo (.slice (some ⟨B, 0, none⟩) 0 0) [] := by
  have := Stmts.lit hB hl [] (by simp)
  simpa [stCells] using this
theorem Stmts.one {w : World} {B lo : Nat} (hB : w.heap.size = B) (hl : lo ≤ B) (a b c d : Int) : Stmts (w.alloc (.cells #[.int .i64 a, .int .i64 b, .int .i64 c, .int .i64 d] 118)) lo (.slice (some ⟨B, 0, none⟩) 1 1) [⟨a, b, c, d⟩] := by
  have := Stmts.lit hB hl [⟨a, b, c, d⟩] (by simp)
  simpa [stCells] using this
theorem Stmts.kept {w w' : World} {lo : Nat} {v : Value} {l : List St} {row : Option Nat} (h : Stmts w lo v l) (hg : w.grownBy w' row) (hne : v.ownBlock = none ∨ v.ownBlock ≠ row) : Stmts w' lo v l := World.ownsRow.kept h hg hne

theorem wpList_append_stmts {w : World} {ops : Array Oper} {rest : List Oper} {o : Oper} {a : Act} {Q : Exit → Act → World → Prop} (hgd : o.guard = none) (s x : Operand)
    (ho : o.op = .call { callee := .builtin .append, args := #[s, x], argTypes := #[73, 73] })
    (v v2 : Value) (l l2 : List St) (base : Nat) (hs : a.eval s = v) (hx : a.eval x = v2) (hown : Stmts w base v l) (hfeed : FeedS w v2 l2) (hlen : l.length + l2.length ≤ 1048576) (hbase : base ≤ w.heap.size)
    (h : ∀ v' w', Stmts w' base v' (l ++ l2) → w.grownBy w' v.ownBlock → Below base w w' → RowFrom v v' w.heap.size → wpList Tryd.prog ops Q rest (a.put o.dst v') w') :
    wpList Tryd.prog ops Q (o :: rest) a w := by
  refine wpList_append_feed hgd s x _ ho base 118 _ 4 32 Tryd.underlying73 inf_Stmt rfl (by decide) v v2 l.length l2.length _ _ hs hx hown hfeed (st_oneCell _) (by unfold maxLen; omega) (by omega) hbase ?_
  intro v' w' h2 h3 h4 h5
  refine h v' w' ?_ h3 h4 h5
  unfold Stmts
  rw [List.length_append, stCells_append]
  exact h2
theorem step_append_stmts {w : World} {ops : Array Oper} {o : Oper} {a : Act} {K : Act → World → Prop} {Q : Exit → Act → World → Prop} {E : Prop} (hgd : o.guard = none) (s x : Operand)
    (ho : o.op = .call { callee := .builtin .append, args := #[s, x], argTypes := #[73, 73] })
    (v v2 : Value) (l l2 : List St) (base : Nat) (hs : a.eval s = v) (hx : a.eval x = v2) (hown : Stmts w base v l) (hfeed : FeedS w v2 l2) (hlen : l.length + l2.length ≤ 1048576) (hbase : base ≤ w.heap.size)
    (h : ∀ v' w', Stmts w' base v' (l ++ l2) → w.grownBy w' v.ownBlock → Below base w w' → RowFrom v v' w.heap.size → K (a.put o.dst v') w') :
    if Region.wanted o (yielded ops a.tmps) = true then Oper.wp Tryd.prog o a w K Q else E := by
  refine step_append_feed hgd s x _ ho base 118 _ 4 32 Tryd.underlying73 inf_Stmt rfl (by decide) v v2 l.length l2.length _ _ hs hx hown hfeed (st_oneCell _) (by unfold maxLen; omega) (by omega) hbase ?_
  intro v' w' h2 h3 h4 h5
  refine h v' w' ?_ h3 h4 h5
  unfold Stmts
  rw [List.length_append, stCells_append]
  exact h2

/-! ### blocks in a row of their own, the bodies apart from each other -/
/-- xs: the cells of the blocks; of the body of the block k nothing is said. -/
structure PRowX (w : World) (lo : Nat) (v : Value) (xs : List Value) (p : Pr) (k : Nat) : Prop where
  own : w.ownsRow lo 75 4 v p.length xs
  head : ∀ i, i < p.length → xs.getD (i * 4) undef = .int .i64 (p.getD i default).kind ∧ xs.getD (i * 4 + 1) undef = .int .i64 (p.getD i default).parent
  pars : ∀ i, i < p.length → Ints w lo (xs.getD (i * 4 + 2) undef) (p.getD i default).params
  body : ∀ i, i < p.length → i ≠ k → Stmts w lo (xs.getD (i * 4 + 3) undef) (p.getD i default).body
  apart : ∀ i j, i < p.length → j < p.length → i ≠ k → j ≠ k → i ≠ j → Apart (xs.getD (i * 4 + 3) undef) (xs.getD (j * 4 + 3) undef)
abbrev PRow (w : World) (lo : Nat) (v : Value) (xs : List Value) (p : Pr) : Prop := PRowX w lo v xs p p.length

section
variable {w w' : World} {lo k : Nat} {v : Value} {xs : List Value} {p : Pr}
theorem PRowX.keep (h : PRowX w lo v xs p k) (hb : Below w.heap.size w w') : PRowX w' lo v xs p k :=
  ⟨own_keep h.own hb, h.head, fun i hi => (h.pars i hi).keep hb, fun i hi hk => (h.body i hi hk).keep hb, h.apart⟩
theorem PRowX.lo_ {lo' : Nat} (h : PRowX w lo v xs p k) (hl : lo' ≤ lo) : PRowX w lo' v xs p k :=
  ⟨own_lo h.own hl, h.head, fun i hi => (h.pars i hi).lo_ hl, fun i hi hk => (h.body i hi hk).lo_ hl, h.apart⟩
theorem PRowX.only {a b : Nat} (h : PRowX w lo v xs p k) (ho : Only a b w w') (hb : b ≤ lo) : PRowX w' lo v xs p k :=
  ⟨own_only h.own ho fun r hr => .inr (Nat.le_trans hb (own_block_ge h.own r hr)), h.head, fun i hi => own_only (h.pars i hi) ho fun r hr => .inr (Nat.le_trans hb (own_block_ge (h.pars i hi) r hr)),
    fun i hi hk => own_only (h.body i hi hk) ho fun r hr => .inr (Nat.le_trans hb (own_block_ge (h.body i hi hk) r hr)), h.apart⟩
theorem Ints.only {a b : Nat} {l : List Int} (h : Ints w lo v l) (ho : Only a b w w') (hb : b ≤ lo) : Ints w' lo v l := own_only h ho fun r hr => .inr (Nat.le_trans hb (own_block_ge h r hr))
theorem Stmts.only {a b : Nat} {l : List St} (h : Stmts w lo v l) (ho : Only a b w w') (hb : b ≤ lo) : Stmts w' lo v l := own_only h ho fun r hr => .inr (Nat.le_trans hb (own_block_ge h r hr))
theorem cell_only {a b g j : Nat} {u : Value} (ho : Only a b w w') (hc : w.cell? ⟨g, j, none⟩ = some u) (hg : g < a ∨ b ≤ g) : w'.cell? ⟨g, j, none⟩ = some u :=
  (World.cell?_of_block (a := ⟨g, j, none⟩) (ho.block g (World.block_lt_of_cell? _ _ hc) hg)).trans hc
theorem PRowX.full (h : PRow w lo v xs p) {i : Nat} (hi : i < p.length) : Stmts w lo (xs.getD (i * 4 + 3) undef) (p.getD i default).body := h.body i hi (by omega)
theorem PRowX.blks (h : PRow w lo v xs p) : Blks w lo v p := by
  have hl := h.own.1
  refine ⟨xs, h.own, fun i hi => ⟨xs.getD (i * 4 + 2) undef, xs.getD (i * 4 + 3) undef, ?_, h.pars i hi, h.full hi⟩⟩
  obtain ⟨h0, h1⟩ := h.head i hi
  rw [← h0, ← h1]
  apply List.ext_getElem
  · simp; omega
  · intro j hj hj'
    have h4 : j < 4 := by simpa using hj'
    have e : j = 0 ∨ j = 1 ∨ j = 2 ∨ j = 3 := by omega
    rcases e with rfl | rfl | rfl | rfl <;> simp [List.getD, show i * 4 < xs.length by omega, show i * 4 + 1 < xs.length by omega, show i * 4 + 2 < xs.length by omega, show i * 4 + 3 < xs.length by omega]
/-- Behind an append to the body of the block k. -/
theorem PRowX.grown (h : PRow w lo v xs p) (hk : k < p.length) (hg : w.grownBy w' (xs.getD (k * 4 + 3) undef).ownBlock) : PRowX w' lo v xs p k :=
  ⟨World.ownsRow.kept h.own hg (own_types h.own (h.full hk) (by decide)), h.head, fun i hi => Ints.kept (h.pars i hi) hg (own_types (h.pars i hi) (h.full hk) (by decide)),
    fun i hi hik => Stmts.kept (h.full hi) hg (h.apart k i hk hi (by omega) (by omega) (by omega)).kept, fun i j hi hj _ _ hij => h.apart i j hi hj (by omega) (by omega) hij⟩
theorem PRowX.part (h : PRow w lo v xs p) (k : Nat) : PRowX w lo v xs p k := ⟨h.own, h.head, h.pars, fun i hi _ => h.full hi, fun i j hi hj _ _ hij => h.apart i j hi hj (by omega) (by omega) hij⟩
theorem PRowX.rd (h : PRowX w lo v xs p k) (hp : 0 < p.length) : ∃ g C, v = .slice (some ⟨g, 0, none⟩) p.length C ∧ p.length ≤ C ∧ C ≤ maxLen ∧ lo ≤ g ∧ g < w.heap.size ∧ (∀ j, j < p.length * 4 → w.cell? ⟨g, j, none⟩ = some (xs.getD j undef)) ∧ (∀ j, w.frozen? ⟨g, j, none⟩ = false) := by
  obtain ⟨A, C, g, hv, hn, hc, hA, hg, hcell, hf⟩ := own_rd h.own
  exact ⟨g, C, by rw [hv, hA hp], hn, hc, (hg hp).1, (hg hp).2, hcell, hf hp⟩
end
theorem getD_set_ne {α : Type} (xs : List α) (a b : Nat) (u d : α) (h : b ≠ a) : (xs.set a u).getD b d = xs.getD b d := by
  simp [List.getD, Ne.symm h]
theorem getD_set_eq {α : Type} (xs : List α) (a : Nat) (u d : α) (h : a < xs.length) : (xs.set a u).getD a d = u := by
  simp [List.getD, h]
section
variable {w w' : World} {lo k g n C : Nat} {xs : List Value} {p : Pr}
theorem PRowX.setBody {U : Value} {l : List St} (h : PRowX w lo (.slice (some ⟨g, 0, none⟩) n C) xs p k) (hk : k < p.length) (hU : Stmts w lo U l) (hap : ∀ i, i < p.length → i ≠ k → Apart (xs.getD (i * 4 + 3) undef) U) :
    PRow (w.setCell ⟨g, k * 4 + 3, none⟩ U) lo (.slice (some ⟨g, 0, none⟩) n C) (xs.set (k * 4 + 3) U) (p.set k { p.getD k default with body := l }) := by
  obtain ⟨_, _, _, e, _⟩ := own_rd h.own
  simp only [Value.slice.injEq] at e
  obtain ⟨_, rfl, _⟩ := e
  have hl := h.own.1
  obtain ⟨h1, h2⟩ := World.ownsRow.stored (w := w) h.own (k * 4 + 3) U
  have kI : ∀ i, i < p.length → Ints (w.setCell ⟨g, k * 4 + 3, none⟩ U) lo (xs.getD (i * 4 + 2) undef) (p.getD i default).params := fun i hi => Ints.kept (h.pars i hi) h2 (by have := own_types (h.pars i hi) h.own (by decide); simpa [Value.ownBlock] using this)
  have kS : ∀ V m, Stmts w lo V m → Stmts (w.setCell ⟨g, k * 4 + 3, none⟩ U) lo V m := fun V m hV => Stmts.kept hV h2 (by have := own_types hV h.own (by decide); simpa [Value.ownBlock] using this)
  have gs : ∀ j, j ≠ k * 4 + 3 → (xs.set (k * 4 + 3) U).getD j undef = xs.getD j undef := fun j hj => getD_set_ne _ _ _ _ _ hj
  have gk : (xs.set (k * 4 + 3) U).getD (k * 4 + 3) undef = U := getD_set_eq _ _ _ _ (by omega)
  have ps : ∀ i, i ≠ k → (p.set k { p.getD k default with body := l }).getD i default = p.getD i default := fun i hi => getD_set_ne _ _ _ _ _ hi
  have pk : (p.set k { p.getD k default with body := l }).getD k default = { p.getD k default with body := l } := getD_set_eq _ _ _ _ hk
  refine ⟨by rw [List.length_set]; exact h1, fun i hi => ?_, fun i hi => ?_, fun i hi _ => ?_, fun i j hi hj _ _ hij => ?_⟩
  · rw [List.length_set] at hi
    rw [gs _ (by omega), gs _ (by omega)]
    by_cases e : i = k
    · subst e; rw [pk]; exact h.head i hi
    · rw [ps i e]; exact h.head i hi
  · rw [List.length_set] at hi
    rw [gs _ (by omega)]
    by_cases e : i = k
    · subst e; rw [pk]; exact kI i hi
    · rw [ps i e]; exact kI i hi
  · rw [List.length_set] at hi
    by_cases e : i = k
    · subst e; rw [pk, gk]; exact kS _ _ hU
    · rw [ps i e, gs _ (by omega)]; exact kS _ _ (h.body i hi e)
  · rw [List.length_set] at hi hj
    by_cases e : i = k
    · subst e
      rw [gk, gs _ (by omega)]
      exact fun r hr hr' => hap j hj (by omega) r hr' hr
    · rw [gs _ (by omega)]
      by_cases e' : j = k
      · subst e'
        rw [gk]
        exact hap i hi e
      · rw [gs _ (by omega)]
        exact h.apart i j hi hj e e' hij
theorem PRowX.setParent {x : Int} (h : PRow w lo (.slice (some ⟨g, 0, none⟩) n C) xs p) (hk : k < p.length) :
    PRow (w.setCell ⟨g, k * 4 + 1, none⟩ (.int .i64 x)) lo (.slice (some ⟨g, 0, none⟩) n C) (xs.set (k * 4 + 1) (.int .i64 x)) (p.set k { p.getD k default with parent := x }) := by
  obtain ⟨_, _, _, e, _⟩ := own_rd h.own
  simp only [Value.slice.injEq] at e
  obtain ⟨_, rfl, _⟩ := e
  have hl := h.own.1
  obtain ⟨h1, h2⟩ := World.ownsRow.stored (w := w) h.own (k * 4 + 1) (.int .i64 x)
  have kI : ∀ i, i < p.length → Ints (w.setCell ⟨g, k * 4 + 1, none⟩ (.int .i64 x)) lo (xs.getD (i * 4 + 2) undef) (p.getD i default).params := fun i hi => Ints.kept (h.pars i hi) h2 (by have := own_types (h.pars i hi) h.own (by decide); simpa [Value.ownBlock] using this)
  have kS : ∀ V m, Stmts w lo V m → Stmts (w.setCell ⟨g, k * 4 + 1, none⟩ (.int .i64 x)) lo V m := fun V m hV => Stmts.kept hV h2 (by have := own_types hV h.own (by decide); simpa [Value.ownBlock] using this)
  have gs : ∀ j, j ≠ k * 4 + 1 → (xs.set (k * 4 + 1) (.int .i64 x)).getD j undef = xs.getD j undef := fun j hj => getD_set_ne _ _ _ _ _ hj
  have gk : (xs.set (k * 4 + 1) (.int .i64 x)).getD (k * 4 + 1) undef = .int .i64 x := getD_set_eq _ _ _ _ (by omega)
  have ps : ∀ i, i ≠ k → (p.set k { p.getD k default with parent := x }).getD i default = p.getD i default := fun i hi => getD_set_ne _ _ _ _ _ hi
  have pk : (p.set k { p.getD k default with parent := x }).getD k default = { p.getD k default with parent := x } := getD_set_eq _ _ _ _ hk
  refine ⟨by rw [List.length_set]; exact h1, fun i hi => ?_, fun i hi => ?_, fun i hi _ => ?_, fun i j hi hj _ _ hij => ?_⟩
  · rw [List.length_set] at hi
    rw [gs _ (by omega)]
    by_cases e : i = k
    · subst e; rw [pk, gk]; exact ⟨(h.head i hi).1, rfl⟩
    · rw [ps i e, gs _ (by omega)]; exact h.head i hi
  · rw [List.length_set] at hi
    rw [gs _ (by omega)]
    by_cases e : i = k
    · subst e; rw [pk]; exact kI i hi
    · rw [ps i e]; exact kI i hi
  · rw [List.length_set] at hi
    rw [gs _ (by omega)]
    by_cases e : i = k
    · subst e; rw [pk]; exact kS _ _ (h.full hi)
    · rw [ps i e]; exact kS _ _ (h.full hi)
  · rw [List.length_set] at hi hj
    rw [gs _ (by omega), gs _ (by omega)]
    exact h.apart i j hi hj (by omega) (by omega) hij
theorem PRowX.setParams {U : Value} {l : List Int} (h : PRow w lo (.slice (some ⟨g, 0, none⟩) n C) xs p) (hk : k < p.length) (hU : Ints w lo U l) :
    PRow (w.setCell ⟨g, k * 4 + 2, none⟩ U) lo (.slice (some ⟨g, 0, none⟩) n C) (xs.set (k * 4 + 2) U) (p.set k { p.getD k default with params := l }) := by
  obtain ⟨_, _, _, e, _⟩ := own_rd h.own
  simp only [Value.slice.injEq] at e
  obtain ⟨_, rfl, _⟩ := e
  have hl := h.own.1
  obtain ⟨h1, h2⟩ := World.ownsRow.stored (w := w) h.own (k * 4 + 2) U
  have kI : ∀ V m, Ints w lo V m → Ints (w.setCell ⟨g, k * 4 + 2, none⟩ U) lo V m := fun V m hV => Ints.kept hV h2 (by have := own_types hV h.own (by decide); simpa [Value.ownBlock] using this)
  have kS : ∀ V m, Stmts w lo V m → Stmts (w.setCell ⟨g, k * 4 + 2, none⟩ U) lo V m := fun V m hV => Stmts.kept hV h2 (by have := own_types hV h.own (by decide); simpa [Value.ownBlock] using this)
  have gs : ∀ j, j ≠ k * 4 + 2 → (xs.set (k * 4 + 2) U).getD j undef = xs.getD j undef := fun j hj => getD_set_ne _ _ _ _ _ hj
  have gk : (xs.set (k * 4 + 2) U).getD (k * 4 + 2) undef = U := getD_set_eq _ _ _ _ (by omega)
  have ps : ∀ i, i ≠ k → (p.set k { p.getD k default with params := l }).getD i default = p.getD i default := fun i hi => getD_set_ne _ _ _ _ _ hi
  have pk : (p.set k { p.getD k default with params := l }).getD k default = { p.getD k default with params := l } := getD_set_eq _ _ _ _ hk
  refine ⟨by rw [List.length_set]; exact h1, fun i hi => ?_, fun i hi => ?_, fun i hi _ => ?_, fun i j hi hj _ _ hij => ?_⟩
  · rw [List.length_set] at hi
    rw [gs _ (by omega), gs _ (by omega)]
    by_cases e : i = k
    · subst e; rw [pk]; exact h.head i hi
    · rw [ps i e]; exact h.head i hi
  · rw [List.length_set] at hi
    by_cases e : i = k
    · subst e; rw [pk, gk]; exact kI _ _ hU
    · rw [ps i e, gs _ (by omega)]; exact kI _ _ (h.pars i hi)
  · rw [List.length_set] at hi
    rw [gs _ (by omega)]
    by_cases e : i = k
    · subst e; rw [pk]; exact kS _ _ (h.full hi)
    · rw [ps i e]; exact kS _ _ (h.full hi)
  · rw [List.length_set] at hi hj
    rw [gs _ (by omega), gs _ (by omega)]
    exact h.apart i j hi hj (by omega) (by omega) hij
end

/-- One block, written out. -/
def bkCells (k : Bk) (pv bv : Value) : List Value := [.int .i64 k.kind, .int .i64 k.parent, pv, bv]
theorem PRowX.add {w w' : World} {lo : Nat} {v v' pv bv : Value} {xs : List Value} {p : Pr} {k : Bk} (h : PRow w lo v xs p) (hg : w.grownBy w' v.ownBlock) (hown : w'.ownsRow lo 75 4 v' (p.length + 1) (xs ++ bkCells k pv bv))
    (hp : Ints w lo pv k.params) (hb : Stmts w lo bv k.body) (hap : ∀ i, i < p.length → Apart (xs.getD (i * 4 + 3) undef) bv) : PRow w' lo v' (xs ++ bkCells k pv bv) (p ++ [k]) := by
  have hl := h.own.1
  have kI : ∀ V m, Ints w lo V m → Ints w' lo V m := fun V m hV => Ints.kept hV hg (own_types hV h.own (by decide))
  have kS : ∀ V m, Stmts w lo V m → Stmts w' lo V m := fun V m hV => Stmts.kept hV hg (own_types hV h.own (by decide))
  have gs : ∀ j, j < xs.length → (xs ++ bkCells k pv bv).getD j undef = xs.getD j undef := fun j hj => by simp [List.getD, List.getElem?_append_left hj]
  have ge : ∀ j, (xs ++ bkCells k pv bv).getD (p.length * 4 + j) undef = (bkCells k pv bv).getD j undef := fun j => by rw [← hl]; simp [List.getD, List.getElem?_append_right]
  have g0 := ge 0
  rw [Nat.add_zero] at g0
  have ps : ∀ i, i < p.length → (p ++ [k]).getD i default = p.getD i default := fun i hi => by simp [List.getD, List.getElem?_append_left hi]
  have pk : (p ++ [k]).getD p.length default = k := by simp [List.getD]
  have hsplit : ∀ i, i < (p ++ [k]).length → i < p.length ∨ i = p.length := fun i hi => by rw [List.length_append] at hi; simp at hi; omega
  refine ⟨by rw [List.length_append]; exact hown, fun i hi => ?_, fun i hi => ?_, fun i hi _ => ?_, fun i j hi hj _ _ hij => ?_⟩
  · rcases hsplit i hi with e | rfl
    · rw [gs _ (by omega), gs _ (by omega), ps i e]; exact h.head i e
    · rw [g0, ge, pk]; exact ⟨rfl, rfl⟩
  · rcases hsplit i hi with e | rfl
    · rw [gs _ (by omega), ps i e]; exact kI _ _ (h.pars i e)
    · rw [ge, pk]; exact kI _ _ hp
  · rcases hsplit i hi with e | rfl
    · rw [gs _ (by omega), ps i e]; exact kS _ _ (h.full e)
    · rw [ge, pk]; exact kS _ _ hb
  · rcases hsplit i hi with e | rfl
    · rw [gs _ (by omega)]
      rcases hsplit j hj with e' | rfl
      · rw [gs _ (by omega)]; exact h.apart i j e e' (by omega) (by omega) hij
      · rw [ge]; exact hap i e
    · rw [ge]
      rcases hsplit j hj with e' | rfl
      · rw [gs _ (by omega)]; exact fun r hr hr' => hap j e' r hr' hr
      · exact absurd rfl hij
theorem PRowX.nil (w : World) (lo : Nat) : PRow w lo (.slice none 0 0) [] [] :=
  ⟨World.ownsRow_nil w lo _ _, fun i hi => absurd hi (Nat.not_lt_zero _), fun i hi => absurd hi (Nat.not_lt_zero _), fun i hi => absurd hi (Nat.not_lt_zero _), fun i j hi => absurd hi (Nat.not_lt_zero _)⟩
theorem PRowX.lit {w : World} {B lo : Nat} {pv bv : Value} {k : Bk} (hB : w.heap.size = B) (hl : lo ≤ B) (hp : Ints w lo pv k.params) (hb : Stmts w lo bv k.body) :
    PRow (w.alloc (.cells (bkCells k pv bv).toArray 75)) lo (.slice (some ⟨B, 0, none⟩) 1 1) (bkCells k pv bv) [k] := by
  subst hB
  have hown : (w.alloc (.cells (bkCells k pv bv).toArray 75)).ownsRow lo 75 4 (.slice (some ⟨w.heap.size, 0, none⟩) 1 1) 1 (bkCells k pv bv) := by
    have h := World.ownsRow_lit (base := lo) (e := 75) (size := 4) w (bkCells k pv bv).toArray 1 hl (by unfold maxLen; omega) (by simp [bkCells])
    simpa using h
  have := PRowX.add (PRowX.nil w lo) (World.grownBy_alloc w _ _) (v' := .slice (some ⟨w.heap.size, 0, none⟩) 1 1) (k := k) (pv := pv) (bv := bv) hown hp hb (fun i hi => absurd hi (Nat.not_lt_zero _))
  exact this
theorem bk_oneCell {w : World} {lo : Nat} {pv bv : Value} {k : Bk} (hp : Ints w lo pv k.params) (hb : Stmts w lo bv k.body) : ∀ u ∈ bkCells k pv bv, u.oneCell' = true := by
  obtain ⟨_, _, rfl⟩ := hp.form
  obtain ⟨_, _, rfl⟩ := hb.form
  intro u hu
  simp only [bkCells, List.mem_cons, List.not_mem_nil, or_false] at hu
  rcases hu with rfl | rfl | rfl | rfl <;> rfl
theorem inf_Block : (Tryd.prog.info? 75).map (fun i => (i.zero, i.size, i.bytes)) = some (some (.agg #[.int .i64 0, .int .i64 0, .slice none 0 0, .slice none 0 0]), 4, 64) := by kernel_rfl
theorem bk_row {w : World} {B lo : Nat} {pv bv : Value} {k : Bk} (hB : w.heap.size = B) (hl : lo ≤ B) : (w.alloc (.cells (bkCells k pv bv).toArray 75)).ownsRow lo 75 4 (.slice (some ⟨B, 0, none⟩) 1 1) 1 (bkCells k pv bv) := by
  subst hB
  have h := World.ownsRow_lit (base := lo) (e := 75) (size := 4) w (bkCells k pv bv).toArray 1 hl (by unfold maxLen; omega) (by simp [bkCells])
  simpa using h
/-- append of one block. -/
theorem wpList_append_block {w : World} {ops : Array Oper} {rest : List Oper} {o : Oper} {a : Act} {Q : Exit → Act → World → Prop} (hgd : o.guard = none) (s x : Operand)
    (ho : o.op = .call { callee := .builtin .append, args := #[s, x], argTypes := #[33, 33] })
    (v pv bv : Value) (xs : List Value) (p : Pr) (k : Bk) (base B : Nat) (hB : w.heap.size = B) (hs : a.eval s = v) (hx : a.eval x = .slice (some ⟨B, 0, none⟩) 1 1)
    (hr : PRow w base v xs p) (hp : Ints w base pv k.params) (hb : Stmts w base bv k.body) (hap : ∀ i, i < p.length → Apart (xs.getD (i * 4 + 3) undef) bv) (hlen : p.length + 1 ≤ 1000) (hbase : base ≤ w.heap.size)
    (h : ∀ v' w', PRow w' base v' (xs ++ bkCells k pv bv) (p ++ [k]) → (w.alloc (.cells (bkCells k pv bv).toArray 75)).grownBy w' v.ownBlock → Below base w w' → RowFrom v v' (w.heap.size + 1) → wpList Tryd.prog ops Q rest (a.put o.dst v') w') :
    wpList Tryd.prog ops Q (o :: rest) a (w.alloc (.cells (bkCells k pv bv).toArray 75)) := by
  refine wpList_append_feed hgd s x _ ho base 75 _ 4 64 Tryd.underlying33 inf_Block rfl (by decide) v _ p.length 1 _ (bkCells k pv bv) hs hx (own_keep hr.own al1) (Feed.of_row (bk_row (lo := base) hB (by omega))) (bk_oneCell hp hb) (by unfold maxLen; omega) (by omega) (by rw [World.size_alloc]; omega) ?_
  intro v' w' h2 h3 h4 h5
  rw [World.size_alloc] at h5
  exact h v' w' (PRowX.add (hr.keep al1) h3 h2 (hp.keep al1) (hb.keep al1) hap) h3 ((al1.mono hbase).trans h4) h5
theorem step_append_block {w : World} {ops : Array Oper} {o : Oper} {a : Act} {K : Act → World → Prop} {Q : Exit → Act → World → Prop} {E : Prop} (hgd : o.guard = none) (s x : Operand)
    (ho : o.op = .call { callee := .builtin .append, args := #[s, x], argTypes := #[33, 33] })
    (v v2 pv bv : Value) (xs : List Value) (p : Pr) (k : Bk) (base lo2 : Nat) (hs : a.eval s = v) (hx : a.eval x = v2)
    (hr : PRow w base v xs p) (h2' : w.ownsRow lo2 75 4 v2 1 (bkCells k pv bv)) (hp : Ints w base pv k.params) (hb : Stmts w base bv k.body) (hap : ∀ i, i < p.length → Apart (xs.getD (i * 4 + 3) undef) bv) (hlen : p.length + 1 ≤ 1000) (hbase : base ≤ w.heap.size)
    (h : ∀ v' w', PRow w' base v' (xs ++ bkCells k pv bv) (p ++ [k]) → w.grownBy w' v.ownBlock → Below base w w' → RowFrom v v' w.heap.size → K (a.put o.dst v') w') :
    if Region.wanted o (yielded ops a.tmps) = true then Oper.wp Tryd.prog o a w K Q else E := by
  refine step_append_feed hgd s x _ ho base 75 _ 4 64 Tryd.underlying33 inf_Block rfl (by decide) v _ p.length 1 _ (bkCells k pv bv) hs hx hr.own (Feed.of_row h2') (bk_oneCell hp hb) (by unfold maxLen; omega) (by omega) hbase ?_
  intro v' w' h2 h3 h4 h5
  exact h v' w' (PRowX.add hr h3 h2 hp hb hap) h3 h4 h5

end Go.Proofs.YtpajkejdfalkiaaDoor
