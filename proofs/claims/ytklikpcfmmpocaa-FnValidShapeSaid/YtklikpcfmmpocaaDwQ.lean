/-
  Memory: a copy of a row of blocks; plain Lean: what a program with one body turned answers. Condition: what the arguments name stands in memory.
-/
import Derived.Test.YtklikpcfmmpocaaDwA
import Derived.Test.YtklikpcfmmpocaaDwM
namespace Go.Proofs.Ytklikpcfmmpocaa
open Go.RowKit
set_option linter.unusedVariables false

theorem PRowX.cells1 {w : World} {lo : Nat} {v : Value} {xs : List Value} {p : Pr} (h : PRow w lo v xs p) : ∀ u ∈ xs, u.oneCell' = true := by
  intro u hu
  obtain ⟨j, hj, rfl⟩ := List.mem_iff_getElem.1 hu
  have hl := h.own.1
  have e : xs[j] = xs.getD (j / 4 * 4 + j % 4) undef := by rw [show j / 4 * 4 + j % 4 = j by omega]; simp [List.getD, hj]
  have hi : j / 4 < p.length := by omega
  obtain ⟨h0, h1⟩ := h.head (j / 4) hi
  have hr : j % 4 = 0 ∨ j % 4 = 1 ∨ j % 4 = 2 ∨ j % 4 = 3 := by omega
  rcases hr with r | r | r | r <;> rw [e, r]
  · rw [Nat.add_zero, h0]; rfl
  · rw [h1]; rfl
  · obtain ⟨_, _, e2⟩ := (h.pars (j / 4) hi).form
    rw [e2]; rfl
  · obtain ⟨_, _, e2⟩ := (PRowX.full h hi).form
    rw [e2]; rfl

/-- append of all blocks to an empty row. -/
theorem wpList_append_blocks {w : World} {ops : Array Oper} {rest : List Oper} {o : Oper} {a : Act} {Q : Exit → Act → World → Prop} (hgd : o.guard = none) (s x : Operand)
    (ho : o.op = .call { callee := .builtin .append, args := #[s, x], argTypes := #[28, 28] })
    (sl : Value) (xs : List Value) (p : Pr) (base B : Nat) (hB : w.heap.size = B) (hs : a.eval s = .slice (some ⟨B, 0, none⟩) 0 0) (hx : a.eval x = sl)
    (hr : PRow w base sl xs p) (hlen : p.length ≤ 1000) (hbase : base ≤ w.heap.size)
    (h : ∀ v' w', PRow w' base v' xs p → Below w.heap.size w w' → (∀ g, v'.ownBlock = some g → w.heap.size ≤ g) → wpList Try.prog ops Q rest (a.put o.dst v') w') :
    wpList Try.prog ops Q (o :: rest) a (w.alloc (.cells #[] 36)) := by
  subst hB
  have hlit : (w.alloc (.cells #[] 36)).ownsRow w.heap.size 36 4 (.slice (some ⟨w.heap.size, 0, none⟩) 0 0) 0 [] := by
    have h := World.ownsRow_lit (base := w.heap.size) (e := 36) (size := 4) w #[] 0 (Nat.le_refl _) (by unfold maxLen; omega) (by simp)
    simpa using h
  refine wpList_append_feed hgd s x _ ho w.heap.size 36 _ 4 64 Try.underlying28 inf_Block rfl (by decide) _ sl 0 p.length [] xs hs hx hlit (Feed.of_row (own_keep hr.own al1)) (PRowX.cells1 hr) (by unfold maxLen; omega) (by omega) (by rw [World.size_alloc]; omega) ?_
  intro v' w' h2 h3 h4 h5
  have hb : Below w.heap.size w w' := al1.trans h4
  rw [Nat.zero_add, List.nil_append] at h2
  exact h v' w' ⟨own_lo h2 hbase, hr.head, fun i hi => (hr.pars i hi).keep hb, fun i hi _ => (PRowX.full hr hi).keep hb, hr.apart⟩ hb (fun g hg => own_block_ge h2 g hg)

theorem rev_take (l : List St) (j : Nat) (h : j < l.length) : l.reverse.take (l.length - j) = l.reverse.take (l.length - (j + 1)) ++ [l.getD j default] := by
  have e : l.getD j default = l[j] := by simp [List.getD, h]
  have h2 : l.length - (j + 1) < l.reverse.length := by rw [List.length_reverse]; omega
  rw [e, show l.length - j = l.length - (j + 1) + 1 by omega, List.take_succ_eq_append_getElem h2, List.getElem_reverse]
  congr 3
  omega
theorem declB_reverse (k : Bk) (d x : Int) : ({ k with body := k.body.reverse } : Bk).declB d x = k.declB d x := by
  unfold Bk.declB
  rw [Bool.eq_iff_iff, List.any_eq_true, List.any_eq_true]
  simp
/-- Declarations are the same with the body in reverse order. -/
theorem rDecl_reverse {p : Pr} {b : Nat} {d : Int} (hs : shape p = true) (hb : b < p.length) : shape (withBody p b (p.bk b).body.reverse) = true ∧ rDecl (withBody p b (p.bk b).body.reverse) b d = rDecl p b d := by
  have ht := shape_turned (turned_reverse hb) hs
  refine ⟨ht, ?_⟩
  have hl : (withBody p b (p.bk b).body.reverse).length = p.length := by simp [withBody]
  unfold rDecl declF
  rw [shapeAt_iff.2 ⟨ht, by omega, by omega⟩, shapeAt_iff.2 ⟨hs, by omega, by omega⟩]
  have e : (withBody p b (p.bk b).body.reverse).bk (b : Int) = { p.bk (b : Int) with body := (p.bk (b : Int)).body.reverse } := by rw [withBody_bk hb, if_pos (by omega)]
  rw [e]
  split
  · exact nms_congr fun x _ _ => declB_reverse _ _ _
  · rfl

end Go.Proofs.Ytklikpcfmmpocaa
