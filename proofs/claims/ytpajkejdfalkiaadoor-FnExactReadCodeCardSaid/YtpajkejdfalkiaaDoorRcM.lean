/-
  Memory: rows of strings and of orders that a call owns, appends to them. No condition but that the rows read as lists.
-/
import Derived.Test.YtpajkejdfalkiaaDoorRcP
import Derived.Test.YtpajkejdfalkiaaDoorLists
import Derived.Test.YtpajkejdfalkiaaDoorPRow
import Derived.BigQuiet
namespace Go.Proofs.YtpajkejdfalkiaaDoor
open Go.RowKit
set_option linter.unusedVariables false

theorem inf_Str : (Tryd.prog.info? 9).map (fun i => (i.zero, i.size, i.bytes)) = some (some (.string ByteArray.empty), 1, 16) := by kernel_rfl
theorem inf_Op : (Tryd.prog.info? 24).map (fun i => (i.zero, i.size, i.bytes)) = some (some (.agg #[.int .i64 0, .int .i64 0]), 2, 16) := by kernel_rfl
def Strs (w : World) (lo : Nat) (v : Value) (l : List ByteArray) : Prop := w.ownsRow lo 9 1 v l.length (l.map Value.string)
def opCells (l : List (Int × Int)) : List Value := l.flatMap fun o => [.int .i64 o.1, .int .i64 o.2]
theorem opCells_len : ∀ l : List (Int × Int), (opCells l).length = l.length * 2
  | [] => rfl
  | o :: l => by
    have := opCells_len l
    simp only [opCells, List.flatMap_cons, List.length_append, List.length_cons, List.length_nil] at this ⊢
    omega
theorem opCells_at : ∀ (l : List (Int × Int)) (i : Nat), i < l.length → (opCells l)[i * 2]? = some (.int .i64 (l.getD i default).1) ∧ (opCells l)[i * 2 + 1]? = some (.int .i64 (l.getD i default).2)
  | [], i, h => absurd h (by simp)
  | o :: l, 0, _ => by simp [opCells]
  | o :: l, i + 1, h => by
    have ih := opCells_at l i (by simpa using h)
    have e : ∀ k, (opCells (o :: l))[(i + 1) * 2 + k]? = (opCells l)[i * 2 + k]? := fun k => by
      rw [show (i + 1) * 2 + k = i * 2 + k + 2 by omega]
      simp [opCells]
    have e0 := e 0
    simp only [Nat.add_zero] at e0
    rw [e0, e 1]
    simpa using ih
theorem opCells_append (l m : List (Int × Int)) : opCells (l ++ m) = opCells l ++ opCells m := by simp [opCells]
theorem opCells_one (l : List (Int × Int)) : ∀ u ∈ opCells l, u.oneCell' = true := by
  intro u hu
  obtain ⟨o, _, ho⟩ := List.mem_flatMap.1 hu
  simp only [List.mem_cons, List.not_mem_nil, or_false] at ho
  rcases ho with rfl | rfl <;> rfl
def Ops (w : World) (lo : Nat) (v : Value) (l : List (Int × Int)) : Prop := w.ownsRow lo 24 2 v l.length (opCells l)

section
variable {w w' : World} {lo : Nat} {v : Value}
theorem Strs.keep {l : List ByteArray} (h : Strs w lo v l) (hb : Below w.heap.size w w') : Strs w' lo v l := own_keep h hb
theorem Strs.lo_ {lo' : Nat} {l : List ByteArray} (h : Strs w lo v l) (hl : lo' ≤ lo) : Strs w lo' v l := own_lo h hl
theorem Strs.form {l : List ByteArray} (h : Strs w lo v l) : ∃ (A : Option Addr) (C : Nat), v = .slice A l.length C := by
  obtain ⟨A, C, _, hv, _⟩ := own_rd h
  exact ⟨A, C, hv⟩
theorem Strs.rd {l : List ByteArray} (h : Strs w lo v l) : ∃ (A : Option Addr) (C g : Nat), v = .slice A l.length C ∧ l.length ≤ C ∧ C ≤ maxLen ∧ (0 < l.length → A = some ⟨g, 0, none⟩) ∧ (0 < l.length → lo ≤ g ∧ g < w.heap.size) ∧
    (∀ j, j < l.length → w.cell? ⟨g, j, none⟩ = some (.string (l.getD j default))) := by
  obtain ⟨A, C, g, hv, hn, hc, hA, hg, hcell, hf⟩ := own_rd h
  refine ⟨A, C, g, hv, hn, hc, hA, hg, fun j hj => ?_⟩
  rw [hcell j (by omega)]
  simp [List.getD, List.getElem?_eq_getElem hj]
theorem Strs.lit {B : Nat} (hB : w.heap.size = B) (hl : lo ≤ B) (l : List ByteArray) (hn : l.length ≤ 1048576) : Strs (w.alloc (.cells (l.map Value.string).toArray 9)) lo (.slice (some ⟨B, 0, none⟩) l.length l.length) l := by
  subst hB
  have h := World.ownsRow_lit (base := lo) (e := 9) (size := 1) w (l.map Value.string).toArray l.length hl (by unfold maxLen; omega) (by simp)
  simpa [Strs] using h
theorem Strs.litC {B : Nat} (hB : w.heap.size = B) (hl : lo ≤ B) (l : List ByteArray) (n : Nat) (hn : n = l.length) (h0 : l.length ≤ 1048577) : Strs (w.alloc (.cells (l.map Value.string).toArray 9)) lo (.slice (some ⟨B, 0, none⟩) n n) l := by
  subst hn
  subst hB
  have h := World.ownsRow_lit (base := lo) (e := 9) (size := 1) w (l.map Value.string).toArray l.length hl (by unfold maxLen; omega) (by simp)
  simpa [Strs] using h
theorem Strs.kept {l : List ByteArray} {row : Option Nat} (h : Strs w lo v l) (hg : w.grownBy w' row) (hne : v.ownBlock = none ∨ v.ownBlock ≠ row) : Strs w' lo v l := World.ownsRow.kept h hg hne
theorem Ops.keep {l : List (Int × Int)} (h : Ops w lo v l) (hb : Below w.heap.size w w') : Ops w' lo v l := own_keep h hb
theorem Ops.lo_ {lo' : Nat} {l : List (Int × Int)} (h : Ops w lo v l) (hl : lo' ≤ lo) : Ops w lo' v l := own_lo h hl
theorem Ops.nil (w : World) (lo : Nat) : Ops w lo (.slice none 0 0) [] := World.ownsRow_nil w lo _ _
theorem Ops.form {l : List (Int × Int)} (h : Ops w lo v l) : ∃ (A : Option Addr) (C : Nat), v = .slice A l.length C := by
  obtain ⟨A, C, _, hv, _⟩ := own_rd h
  exact ⟨A, C, hv⟩
theorem Ops.rd {l : List (Int × Int)} (h : Ops w lo v l) : ∃ (A : Option Addr) (C g : Nat), v = .slice A l.length C ∧ l.length ≤ C ∧ C ≤ maxLen ∧ (0 < l.length → A = some ⟨g, 0, none⟩) ∧ (0 < l.length → lo ≤ g ∧ g < w.heap.size) ∧
    (∀ j, j < l.length → w.cell? ⟨g, j * 2, none⟩ = some (.int .i64 (l.getD j default).1) ∧ w.cell? ⟨g, j * 2 + 1, none⟩ = some (.int .i64 (l.getD j default).2)) ∧ (0 < l.length → ∀ j, w.frozen? ⟨g, j, none⟩ = false) := by
  obtain ⟨A, C, g, hv, hn, hc, hA, hg, hcell, hf⟩ := own_rd h
  refine ⟨A, C, g, hv, hn, hc, hA, hg, fun j hj => ?_, hf⟩
  obtain ⟨a0, a1⟩ := opCells_at l j hj
  rw [hcell (j * 2) (by omega), hcell (j * 2 + 1) (by omega)]
  simp only [List.getD, a0, a1, Option.getD_some]
  exact ⟨trivial, trivial⟩
theorem Ops.lit0 {B : Nat} (hB : w.heap.size = B) (hl : lo ≤ B) : Ops (w.alloc (.cells #[] 24)) lo (.slice (some ⟨B, 0, none⟩) 0 0) [] := by
  subst hB
  have h := World.ownsRow_lit (base := lo) (e := 24) (size := 2) w #[] 0 hl (by unfold maxLen; omega) (by simp)
  simpa [Ops, opCells] using h
theorem Ops.lit1 {B : Nat} (hB : w.heap.size = B) (hl : lo ≤ B) (a b : Int) : Ops (w.alloc (.cells #[.int .i64 a, .int .i64 b] 24)) lo (.slice (some ⟨B, 0, none⟩) 1 1) [(a, b)] := by
  subst hB
  have h := World.ownsRow_lit (base := lo) (e := 24) (size := 2) w #[.int .i64 a, .int .i64 b] 1 hl (by unfold maxLen; omega) (by simp)
  simpa [Ops, opCells] using h
theorem Strs.lit1 {B : Nat} (hB : w.heap.size = B) (hl : lo ≤ B) (a : ByteArray) : Strs (w.alloc (.cells #[.string a] 9)) lo (.slice (some ⟨B, 0, none⟩) 1 1) [a] := by
  simpa using Strs.lit hB hl [a] (by simp)
theorem Strs.lit0 {B : Nat} (hB : w.heap.size = B) (hl : lo ≤ B) : Strs (w.alloc (.cells #[] 9)) lo (.slice (some ⟨B, 0, none⟩) 0 0) [] := by
  simpa using Strs.lit hB hl [] (by simp)
end

theorem wpList_append_strs {w : World} {ops : Array Oper} {rest : List Oper} {o : Oper} {a : Act} {Q : Exit → Act → World → Prop} (hgd : o.guard = none) (s x : Operand)
    (ho : o.op = .call { callee := .builtin .append, args := #[s, x], argTypes := #[57, 57] })
    (v v2 : Value) (l l2 : List ByteArray) (base lo2 : Nat) (hs : a.eval s = v) (hx : a.eval x = v2) (hown : Strs w base v l) (hown2 : Strs w lo2 v2 l2) (hlen : l.length + l2.length ≤ 2097152) (hbase : base ≤ w.heap.size)
    (h : ∀ v' w', Strs w' base v' (l ++ l2) → w.grownBy w' v.ownBlock → Below base w w' → RowFrom v v' w.heap.size → wpList Tryd.prog ops Q rest (a.put o.dst v') w') :
    wpList Tryd.prog ops Q (o :: rest) a w := by
  refine wpList_append_rows hgd s x _ ho base lo2 9 (.string ByteArray.empty) 1 16 Tryd.underlying57 inf_Str rfl (by decide) v v2 l.length l2.length _ _ hs hx hown hown2 (by
    intro u hu
    obtain ⟨b, _, rfl⟩ := List.mem_map.1 hu
    rfl) (by unfold maxLen; omega) (by omega) hbase ?_
  intro v' w' h2 h3 h4 h5
  refine h v' w' ?_ h3 h4 h5
  unfold Strs
  rw [List.length_append, List.map_append]
  exact h2
theorem wpList_append_ops {w : World} {ops : Array Oper} {rest : List Oper} {o : Oper} {a : Act} {Q : Exit → Act → World → Prop} (hgd : o.guard = none) (s x : Operand)
    (ho : o.op = .call { callee := .builtin .append, args := #[s, x], argTypes := #[40, 40] })
    (v v2 : Value) (l l2 : List (Int × Int)) (base lo2 : Nat) (hs : a.eval s = v) (hx : a.eval x = v2) (hown : Ops w base v l) (hown2 : Ops w lo2 v2 l2) (hlen : l.length + l2.length ≤ 2097152) (hbase : base ≤ w.heap.size)
    (h : ∀ v' w', Ops w' base v' (l ++ l2) → w.grownBy w' v.ownBlock → Below base w w' → RowFrom v v' w.heap.size → wpList Tryd.prog ops Q rest (a.put o.dst v') w') :
    wpList Tryd.prog ops Q (o :: rest) a w := by
  refine wpList_append_rows hgd s x _ ho base lo2 24 (.agg #[.int .i64 0, .int .i64 0]) 2 16 Tryd.underlying40 inf_Op rfl (by decide) v v2 l.length l2.length _ _ hs hx hown hown2 (opCells_one _) (by unfold maxLen; omega) (by omega) hbase ?_
  intro v' w' h2 h3 h4 h5
  refine h v' w' ?_ h3 h4 h5
  unfold Ops
  rw [List.length_append, opCells_append]
  exact h2
end Go.Proofs.YtpajkejdfalkiaaDoor
