/-
  Walks: the program's ReadIn, BoundIn. Condition: the argument reads as a program.
-/
import Derived.Test.YtiemhadpepbcjaaImpl6
import Derived.Test.YtiemhadpepbcjaaImpl7
namespace Go.Proofs.Ytiemhadpepbcjaa
open Go.RowKit
set_option linter.unusedVariables false

section
variable {p : Pr} (h : shape p = true) (b : Int) (h0 : 0 ≤ b) (h1 : b < p.length)
theorem body_mem (l : List St) (j : Nat) (hj : j < l.length) : l.getD j default ∈ l := by
  have : l.getD j default = l[j] := by simp [List.getD, hj]
  rw [this]
  exact List.getElem_mem hj
include h h0 h1
theorem shape_kinds : ∀ j, j < (p.bk b).body.length → 0 ≤ ((p.bk b).body.getD j default).kind ∧ ((p.bk b).body.getD j default).kind ≤ 11 :=
  fun j hj => stmtS_kind (shape_stmt h b h0 h1 _ (body_mem _ j hj))
theorem shape_tos : ∀ j, j < (p.bk b).body.length → 0 ≤ ((p.bk b).body.getD j default).to ∧ ((p.bk b).body.getD j default).to ≤ 7 :=
  fun j hj => stmtS_to (shape_stmt h b h0 h1 _ (body_mem _ j hj))
theorem shape_rds : ∀ j, j < (p.bk b).body.length → ∀ x ∈ ((p.bk b).body.getD j default).reads, 0 ≤ x ∧ x ≤ 7 :=
  fun j hj => stmtS_reads (shape_stmt h b h0 h1 _ (body_mem _ j hj))
end

set_option maxRecDepth 100000 in
theorem I_BoundIn (v : Value) (p : Pr) (lo : Nat) (b : Int) (w : World) (hv : Prog w lo v p) :
    Calls Try.prog 16 #[v, .int .i64 b] w fun e w' => ∃ v', e = .returned v' ∧ Ints w' w.heap.size v' (rBound p b) ∧ Below w.heap.size w w' := by
  obtain ⟨sl, rfl, hv⟩ := hv
  have HV := Lib.hid hv
  obtain ⟨A, C, rfl⟩ := hv.form
  clear hv
  cases hs : shape p
  · have HS := Lib.hid hs
    have hat : shapeAt p b = false := by unfold shapeAt; rw [hs]; rfl
    have HAT := Lib.hid hat
    clear hs hat
    go_enter Try.func16, Try.ntmps16
    go_wp2_with (go_at_call 10; refine (I_ValidShape _ p lo _ ⟨_, rfl, HV.out.keep al1⟩).mono ?_; rintro e w3 ⟨rfl, hb3⟩; rw [HS.out]; have cb3 := boxAt1 hb3; have hB3 := bthen (al1 (w := w)) hb3; have hz3 := hB3.size; clear hb3)
    go_ret
    have hB := hB3
    exact ⟨_, rfl, by unfold rBound; rw [HAT.out]; exact Ints.nil _ _, hB⟩
  have HS := Lib.hid hs
  cases hi : inR b 0 (p.length - 1)
  · have HI := Lib.hid hi
    have hat : shapeAt p b = false := by unfold shapeAt; rw [hs, hi]; rfl
    have HAT := Lib.hid hat
    clear hs hi hat
    go_enter Try.func16, Try.ntmps16
    go_wp2_with (first
      | (go_at_call 10; refine (I_ValidShape _ p lo _ ⟨_, rfl, HV.out.keep al1⟩).mono ?_; rintro e w3 ⟨rfl, hb3⟩; rw [HS.out]; have cb3 := boxAt1 hb3; have hB3 := bthen (al1 (w := w)) hb3; have hz3 := hB3.size; clear hb3)
      | (go_at_call 48; refine (I_isBlock _ p lo b _ (HV.out.keep hB3)).mono ?_; rintro e w4 ⟨rfl, hb4⟩; rw [HI.out]; have cb := cell_later hb4 cb3; have hB4 := bthen hB3 hb4; have hz4 := hB4.size; clear hb4 cb3))
    go_ret
    have hB := hB4
    exact ⟨_, rfl, by unfold rBound; rw [HAT.out]; exact Ints.nil _ _, hB⟩
  have HI := Lib.hid hi
  have hat : shapeAt p b = true := by unfold shapeAt; rw [hs, hi]; rfl
  have HAT := Lib.hid hat
  obtain ⟨hsh, hb0, hb1⟩ := shapeAt_iff.1 hat
  have hl := shape_len hsh
  clear hs hi hsh hat

  obtain ⟨g, C', e, hg⟩ := HV.out.formS (by omega)
  obtain ⟨rfl, rfl⟩ : A = some ⟨g, 0, none⟩ ∧ C = C' := by simpa using e
  clear e
  have hR : rBound p b = boundF p b := by unfold rBound; rw [HAT.out]; rfl
  have HR := Lib.hid hR
  clear hR
  go_enter Try.func16, Try.ntmps16
  go_wp2_with (first
    | (go_at_call 10; refine (I_ValidShape _ p lo _ ⟨_, rfl, HV.out.keep al1⟩).mono ?_; rintro e w3 ⟨rfl, hb3⟩; rw [HS.out]; have cb3 := boxAt1 hb3; have hB3 := bthen (al1 (w := w)) hb3; have hz3 := hB3.size; clear hb3)
    | (go_at_call 48; refine (I_isBlock _ p lo b _ (HV.out.keep hB3)).mono ?_; rintro e w4 ⟨rfl, hb4⟩; rw [HI.out]; have cb := cell_later hb4 cb3; have hB4 := bthen hB3 hb4; have hz4 := hB4.size; clear hb4 cb3; obtain ⟨hg4, A2, A3, C2, C3, c0, c1, c2, c3, hps, hbs⟩ := Prog.atg (HV.out.keep hB4) b hb0 hb1)
    | (go_at_call 49; refine (I_boundSet (p.bk b) A2 A3 C2 C3 lo _ hps hbs (shape_params HS.out b hb0 hb1).2 (shape_tos HS.out b hb0 hb1)).mono ?_; rintro e w5 ⟨rfl, hb5⟩; have hB5 := bthen hB4 hb5; have hz5 := hB5.size)
    | (go_at_call 50; refine (I_list _ _).mono ?_; rintro e w6 ⟨rv, rfl, hi6, hb6⟩))
  go_ret
  exact ⟨_, rfl, by rw [HR.out]; exact hi6.lo_ hz5, bthen hB5 hb6⟩

end Go.Proofs.Ytiemhadpepbcjaa
