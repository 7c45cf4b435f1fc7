/-
  Walks: the reference's used. Condition: the argument reads as a program of a valid shape, the block is one of it.
-/
import Derived.Test.YtiemhadpepbcjaaSpec8
import Derived.Test.YtiemhadpepbcjaaHeld
import Derived.Deep.AppendLies
namespace Go.Proofs.Ytiemhadpepbcjaa
open Go.RowKit
set_option linter.unusedVariables false

/-- append on lists of numbers, at a step of a region that draws its order. -/
theorem step_append_ints {w : World} {ops : Array Oper} {o : Oper} {a : Act} {K : Act → World → Prop} {Q : Exit → Act → World → Prop} {E : Prop} (hgd : o.guard = none) (s x : Operand)
    (ho : o.op = .call { callee := .builtin .append, args := #[s, x], argTypes := #[31, 31] })
    (v v2 : Value) (l l2 : List Int) (base lo2 : Nat) (hs : a.eval s = v) (hx : a.eval x = v2) (hown : Ints w base v l) (hown2 : Ints w lo2 v2 l2) (hlen : l.length + l2.length ≤ 1048576) (hbase : base ≤ w.heap.size)
    (h : ∀ v' w', Ints w' base v' (l ++ l2) → w.grownBy w' v.ownBlock → Below base w w' → RowFrom v v' w.heap.size → K (a.put o.dst v') w') :
    if Region.wanted o (yielded ops a.tmps) = true then Oper.wp Try.prog o a w K Q else E := by
  have hw : Region.wanted o (yielded ops a.tmps) = true := by simp [Region.wanted, hgd]
  rw [if_pos hw]
  obtain ⟨i, hi, hz0, hz1, hz2⟩ := info_parts Try.info3
  have hfin : ∀ u ∈ l2.map (Value.int .i64), u.oneCell' = true := ints_oneCell _ _
  rcases hown2.2 with ⟨rfl, h0⟩ | ⟨g, cap, cur, rfl, hg, hh, hr⟩
  · have hl := hown2.1
    have e : l2 = [] := List.eq_nil_of_length_eq_zero h0
    subst e
    have hrun := run_append_owned_none (P := Try.prog) (w := w) base 31 o.type 3 i 1 Try.underlying31 hi v l.length _ hown
    unfold Oper.wp
    simp [execOp, ho, resolve, invoke, builtin, hs, hx, hrun, Result.andThen]
    exact h v w (by simpa using hown) (World.grownBy.refl w _) (Below.refl _ _) (.inl rfl)
  · obtain ⟨v', w', hrun, h2, h3, _, h5⟩ := run_append_own_at (P := Try.prog) w base 31 o.type 3 i (.int .i64 0) 1 8 Try.underlying31 hi hz0 hz1 hz2 rfl (by decide) v l.length _ hown ⟨g, 0, none⟩ l2.length cap _ hown2.1 (own_news hown2) hfin (by unfold maxLen; omega) (by omega) hbase
    unfold Oper.wp execOp
    simp only [ho, resolve, invoke, builtin, Sem.run_bind, Sem.run_pure, Result.andThen_ok, List.map_toArray, List.map_cons, List.map_nil, hs, hx, hrun]
    refine h v' w' ?_ h3 ((Below.refl base w).grown h3 hbase (own_block_ge hown)) ?_
    · unfold Ints
      rw [List.length_append, List.map_append]
      exact h2
    · rcases h5 with h5 | h5
      · exact .inl h5
      · exact .inr ⟨_, h5, Nat.le_refl _⟩

theorem Ints.kept {w w' : World} {lo : Nat} {v : Value} {l : List Int} {row : Option Nat} (h : Ints w lo v l) (hg : w.grownBy w' row) (hne : v.ownBlock = none ∨ v.ownBlock ≠ row) : Ints w' lo v l := World.ownsRow.kept h hg hne

theorem usedF_eq (p : Pr) (b : Int) : nms (hasF (((readF p b ++ boundF p b) ++ declF p b 9) ++ declF p b 10)) = usedF p b := by
  refine nms_congr fun x h0 h1 => ?_
  have e : ∀ l : List Int, hasF l x = l.contains x := fun _ => rfl
  rw [e, List.contains_append, List.contains_append, List.contains_append, ← e, ← e, ← e, ← e]
  unfold readF boundF declF
  rw [hasF_nms _ x h0 h1, hasF_nms _ x h0 h1, hasF_nms _ x h0 h1, hasF_nms _ x h0 h1]
  unfold Bk.usesB Bk.declsB
  rw [Bool.or_assoc ((p.bk b).readB x || (p.bk b).boundB x)]

end Go.Proofs.Ytiemhadpepbcjaa
