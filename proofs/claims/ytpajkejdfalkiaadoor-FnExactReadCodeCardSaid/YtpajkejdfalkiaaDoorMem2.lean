/-
  Appending to rows that the call owns: the kit's law, said of lists of numbers and of statements. No condition but that the rows read as lists.
-/
import Derived.Test.YtpajkejdfalkiaaDoorMem
import Derived.Maps.AppendAt
import Derived.Laws.AppendOwnNone
namespace Go.Proofs.YtpajkejdfalkiaaDoor
set_option linter.unusedVariables false
open Go.RowKit

/-- Where a row has come to lie behind an append: where it was, or in a new block. -/
def RowFrom (v v' : Value) (n : Nat) : Prop := v'.ownBlock = v.ownBlock ∨ ∃ g, v'.ownBlock = some g ∧ n ≤ g

theorem own_block_ge {w : World} {lo : Nat} {e : TypeId} {size n : Nat} {v : Value} {xs : List Value} (h : w.ownsRow lo e size v n xs) : ∀ k, v.ownBlock = some k → lo ≤ k := by
  intro k hk
  rcases h.2 with ⟨rfl, _⟩ | ⟨g, cap, cur, rfl, hg, _⟩
  · cases hk
  · simp only [Value.ownBlock, Option.some.injEq] at hk
    omega

theorem own_block_lt {w : World} {lo : Nat} {e : TypeId} {size n : Nat} {v : Value} {xs : List Value} (h : w.ownsRow lo e size v n xs) : ∀ k, v.ownBlock = some k → k < w.heap.size := by
  intro k hk
  rcases h.2 with ⟨rfl, _⟩ | ⟨g, cap, cur, rfl, hg, hh, _⟩
  · cases hk
  · simp only [Value.ownBlock, Option.some.injEq] at hk
    have := lt_of_block hh
    omega

theorem own_news {w : World} {lo : Nat} {e : TypeId} {size n c : Nat} {ad : Addr} {xs : List Value} (h : w.ownsRow lo e size (.slice (some ad) n c) n xs) : ∀ j u, xs[j]? = some u → w.cell? (ad.add j) = some u := by
  intro j u hu
  obtain ⟨hj, _⟩ := List.getElem?_eq_some_iff.1 hu
  rcases h.2 with ⟨hv, _⟩ | ⟨g, cap, cur, hv, _⟩
  · cases hv
  · simp only [Value.slice.injEq, Option.some.injEq] at hv
    obtain ⟨rfl, _, rfl⟩ := hv
    have hl := h.1
    have h2 := h.cellAt j (by omega)
    rw [Go.WideShapes.add_plain, Nat.zero_add]
    rw [h2, hu]

/-- The law on append, the cells handed in as a row: both may be nil. -/
theorem wpList_append_rows {P : Program} {w : World} {ops : Array Oper} {rest : List Oper} {o : Oper} {a : Act} {Q : Exit → Act → World → Prop} (hgd : o.guard = none) (s x : Operand) (t : TypeId)
    (ho : o.op = .call { callee := .builtin .append, args := #[s, x], argTypes := #[t, t] })
    (base lo2 : Nat) (e : TypeId) (z : Value) (size bytes : Nat) (ht : P.underlying t = some (.slice e)) (hinfo : (P.info? e).map (fun i => (i.zero, i.size, i.bytes)) = some (some z, size, bytes))
    (hzs : z.cells.size = size) (hsz : 0 < size)
    (v v2 : Value) (n m : Nat) (xs ys : List Value) (hs : a.eval s = v) (hx : a.eval x = v2) (hown : w.ownsRow base e size v n xs) (hown2 : w.ownsRow lo2 e size v2 m ys) (h1 : ∀ u ∈ ys, u.oneCell' = true)
    (h63 : n + m ≤ maxLen) (hbytes : (n + m) * bytes ≤ 140737488355328) (hbase : base ≤ w.heap.size)
    (h : ∀ v' w', w'.ownsRow base e size v' (n + m) (xs ++ ys) → w.grownBy w' v.ownBlock → Below base w w' → RowFrom v v' w.heap.size → wpList P ops Q rest (a.put o.dst v') w') :
    wpList P ops Q (o :: rest) a w := by
  obtain ⟨i, hi, hz0, hz1, hz2⟩ := info_parts hinfo
  rcases hown2.2 with ⟨rfl, rfl⟩ | ⟨g, cap, cur, rfl, hg, hh, hr⟩
  · refine wpList_append_own_none hgd s x t ho base e i size ht hi v n xs hs hown hx ?_
    have hl := hown2.1
    have : ys = [] := List.eq_nil_of_length_eq_zero (by omega)
    subst this
    exact h v w (by simpa using hown) (World.grownBy.refl w _) (Below.refl _ _) (.inl rfl)
  · refine wpList_append_own_at w hgd s x t ho base e i z size bytes ht hi hz0 hz1 hz2 hzs hsz v n xs hs hown ⟨g, 0, none⟩ m cap ys hx hown2.1 (own_news hown2) h1 h63 hbytes hbase ?_
    intro v' w' h2 h3 h4 h5
    refine h v' w' h2 h3 ((Below.refl base w).grown h3 hbase (own_block_ge hown)) ?_
    rcases h5 with h5 | h5
    · exact .inl h5
    · exact .inr ⟨_, h5, Nat.le_refl _⟩

/-- append on lists of numbers. -/
theorem wpList_append_ints {w : World} {ops : Array Oper} {rest : List Oper} {o : Oper} {a : Act} {Q : Exit → Act → World → Prop} (hgd : o.guard = none) (s x : Operand)
    (ho : o.op = .call { callee := .builtin .append, args := #[s, x], argTypes := #[50, 50] })
    (v v2 : Value) (l l2 : List Int) (base lo2 : Nat) (hs : a.eval s = v) (hx : a.eval x = v2) (hown : Ints w base v l) (hown2 : Ints w lo2 v2 l2) (hlen : l.length + l2.length ≤ 1048576) (hbase : base ≤ w.heap.size)
    (h : ∀ v' w', Ints w' base v' (l ++ l2) → w.grownBy w' v.ownBlock → Below base w w' → RowFrom v v' w.heap.size → wpList Tryd.prog ops Q rest (a.put o.dst v') w') :
    wpList Tryd.prog ops Q (o :: rest) a w := by
  refine wpList_append_rows hgd s x _ ho base lo2 3 (.int .i64 0) 1 8 Tryd.underlying50 Tryd.info3 rfl (by decide) v v2 l.length l2.length _ _ hs hx hown hown2 (ints_oneCell _ _) (by unfold maxLen; omega) (by omega) hbase ?_
  intro v' w' h2 h3 h4 h5
  refine h v' w' ?_ h3 h4 h5
  unfold Ints
  rw [List.length_append, List.map_append]
  exact h2

end Go.Proofs.YtpajkejdfalkiaaDoor
