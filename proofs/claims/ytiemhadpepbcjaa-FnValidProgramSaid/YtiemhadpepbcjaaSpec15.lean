/-
  Walks: the reference's cellPlace, captures, CapturesOf. Condition: the argument reads as a program.
-/
import Derived.Test.YtiemhadpepbcjaaSpec14
namespace Go.Proofs.Ytiemhadpepbcjaa
open Go.RowKit
set_option linter.unusedVariables false

/-- The place of a name among the cells that a function's value carries. -/
def cplF (p : Pr) (c x : Int) : Int := if 0 ≤ plc (cellsF p c) x then plc (cellsF p c) x else (cellsF p c).length + plc (freesF p c) x
def capF (p : Pr) (b : Int) : List Int := (freesF p b).map (cplF p (p.bk b).parent)
def rCaps (p : Pr) (b : Int) : List Int := if validB p b && decide (b ≠ 0) then capF p b else []
theorem rCaps_len (p : Pr) (b : Int) : (rCaps p b).length ≤ 1000000 := by
  unfold rCaps
  split
  · unfold capF
    rw [List.length_map]
    exact nms_lenB _
  · simp
def capTo (g : Int → Int) (l : List Int) (k : Nat) : List Int := (l.take k).map g
theorem capTo_zero (g : Int → Int) (l : List Int) : capTo g l 0 = [] := rfl
theorem capTo_succ (g : Int → Int) (l : List Int) (k : Nat) (h : k < l.length) : capTo g l (k + 1) = capTo g l k ++ [g (l.getD k 0)] := by
  unfold capTo
  rw [List.take_succ_eq_append_getElem h, List.map_append]
  simp [List.getD, h]
theorem capTo_all (g : Int → Int) (l : List Int) : capTo g l l.length = l.map g := by unfold capTo; rw [List.take_length]
theorem capTo_len (g : Int → Int) (l : List Int) (k : Nat) : (capTo g l k).length ≤ l.length := by
  unfold capTo
  rw [List.length_map]
  exact List.length_take_le' k l
theorem Ints.cellAt {w : World} {lo g n C : Nat} {l : List Int} (h : Ints w lo (.slice (some ⟨g, 0, none⟩) n C) l) (j : Nat) (hj : j < l.length) : w.cell? ⟨g, j, none⟩ = some (.int .i64 (l.getD j 0)) := by
  obtain ⟨A, C', g', e, _, _, hA, _, hc, _⟩ := h.rd
  obtain rfl := hA (by omega)
  obtain ⟨rfl, _, _⟩ : g = g' ∧ n = l.length ∧ C = C' := by simpa using e
  exact hc j hj
theorem freesF_len (p : Pr) (b : Int) : (freesF p b).length ≤ 8 := nms_len _
theorem cellsF_len (p : Pr) (b : Int) : (cellsF p b).length ≤ 8 := nms_len _

end Go.Proofs.Ytiemhadpepbcjaa
