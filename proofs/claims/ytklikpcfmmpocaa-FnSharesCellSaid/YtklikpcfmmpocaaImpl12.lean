/-
  Walks: the program's CellsOf, FastsOf, SymbolOf. Condition: the argument reads as a program.
-/
import Derived.Test.YtklikpcfmmpocaaImpl11
namespace Go.Proofs.Ytklikpcfmmpocaa
open Go.RowKit
set_option linter.unusedVariables false

set_option maxRecDepth 100000 in
theorem I_CellsOf (v : Value) (p : Pr) (lo : Nat) (b : Int) (w : World) (hv : Prog w lo v p) :
    Calls Try.prog 95 #[v, .int .i64 b] w fun e w' => ∃ v', e = .returned v' ∧ Ints w' w.heap.size v' (rCells p b) ∧ Below w.heap.size w w' := by
  obtain ⟨sl, rfl, hv⟩ := hv
  have HV := Lib.hid hv
  obtain ⟨A, C, rfl⟩ := hv.form
  clear hv
  cases hs : validP p
  · have HS := Lib.hid hs
    have hno : (validB p b) = false := by unfold validB; rw [hs]; rfl
    have HNO := Lib.hid hno
    clear hs hno
    go_enter Try.func95, Try.ntmps95
    go_wp2_with (go_at_call 78; refine (I_ValidProgram _ p lo _ ⟨_, rfl, HV.out.keep al1⟩).mono ?_; rintro e w3 ⟨rfl, hb3⟩; rw [HS.out]; have cb3 := boxAt1 hb3; have hB3 := bthen (al1 (w := w)) hb3; have hz3 := hB3.size; clear hb3)
    go_ret
    have hB := hB3
    exact ⟨_, rfl, by unfold rCells; rw [HNO.out]; exact Ints.nil _ _, hB⟩
  have HS := Lib.hid hs
  cases hi : inR b 0 (p.length - 1)
  · have HI := Lib.hid hi
    have hno : (validB p b) = false := by unfold validB; rw [hs, hi]; rfl
    have HNO := Lib.hid hno
    clear hs hi hno
    go_enter Try.func95, Try.ntmps95
    go_wp2_with (first
      | (go_at_call 78; refine (I_ValidProgram _ p lo _ ⟨_, rfl, HV.out.keep al1⟩).mono ?_; rintro e w3 ⟨rfl, hb3⟩; rw [HS.out]; have cb3 := boxAt1 hb3; have hB3 := bthen (al1 (w := w)) hb3; have hz3 := hB3.size; clear hb3)
      | (go_at_call 130; refine (I_isBlock _ p lo b _ (HV.out.keep hB3)).mono ?_; rintro e w4 ⟨rfl, hb4⟩; rw [HI.out]; have cb := cell_later hb4 cb3; have hB4 := bthen hB3 hb4; have hz4 := hB4.size; clear hb4 cb3))
    go_ret
    have hB := hB4
    exact ⟨_, rfl, by unfold rCells; rw [HNO.out]; exact Ints.nil _ _, hB⟩
  have HI := Lib.hid hi
  have hat : validB p b = true := by unfold validB; rw [hs, hi]; rfl
  have HYES := Lib.hid hat
  have HVP := Lib.hid hs
  obtain ⟨hsh, hb0, hb1⟩ := shapeAt_iff.1 (validB_shape hat)
  have HSH := Lib.hid hsh
  have hl := shape_len hsh
  clear hs hi hsh hat

  have hR : rCells p b = nms (cellB p b) := by unfold rCells; rw [HYES.out]; rfl
  have HR := Lib.hid hR
  clear hR
  go_enter Try.func95, Try.ntmps95
  go_wp2_with (first
    | (go_at_call 78; refine (I_ValidProgram _ p lo _ ⟨_, rfl, HV.out.keep al1⟩).mono ?_; rintro e w3 ⟨rfl, hb3⟩; rw [HS.out]; have cb3 := boxAt1 hb3; have hB3 := bthen (al1 (w := w)) hb3; have hz3 := hB3.size; clear hb3)
    | (go_at_call 130; refine (I_isBlock _ p lo b _ (HV.out.keep hB3)).mono ?_; rintro e w4 ⟨rfl, hb4⟩; rw [HI.out]; have cb := cell_later hb4 cb3; have hB4 := bthen hB3 hb4; have hz4 := hB4.size; clear hb4 cb3)
    | (go_at_call 160; refine (I_scopesOf _ p lo _ (HV.out.keep hB4) HSH.out).mono ?_; rintro e w5 ⟨A', Bs, rfl, hBs, hrow, hsc, hb5⟩; have hB5 := bthen hB4 hb5; have hz5 := hB5.size)
    | (go_at_call 176; refine (I_cellSet A' p _ Bs b _ hrow hsc HSH.out hb0 hb1).mono ?_; unfold setV; rintro e w6 ⟨rfl, hb6⟩)
    | (go_at_call 133; refine (I_list (cellB p b) _).mono ?_; rintro e w7 ⟨rv, rfl, hi7, hb7⟩))
  go_ret
  have hB6 := bthen hB5 hb6
  exact ⟨_, rfl, by rw [HR.out]; exact hi7.lo_ hB6.size, bthen hB6 hb7⟩

set_option maxRecDepth 100000 in
theorem I_FastsOf (v : Value) (p : Pr) (lo : Nat) (b : Int) (w : World) (hv : Prog w lo v p) :
    Calls Try.prog 101 #[v, .int .i64 b] w fun e w' => ∃ v', e = .returned v' ∧ Ints w' w.heap.size v' (rFasts p b) ∧ Below w.heap.size w w' := by
  obtain ⟨sl, rfl, hv⟩ := hv
  have HV := Lib.hid hv
  obtain ⟨A, C, rfl⟩ := hv.form
  clear hv
  cases hs : validP p
  · have HS := Lib.hid hs
    have hno : (validB p b) = false := by unfold validB; rw [hs]; rfl
    have HNO := Lib.hid hno
    clear hs hno
    go_enter Try.func101, Try.ntmps101
    go_wp2_with (go_at_call 78; refine (I_ValidProgram _ p lo _ ⟨_, rfl, HV.out.keep al1⟩).mono ?_; rintro e w3 ⟨rfl, hb3⟩; rw [HS.out]; have cb3 := boxAt1 hb3; have hB3 := bthen (al1 (w := w)) hb3; have hz3 := hB3.size; clear hb3)
    go_ret
    have hB := hB3
    exact ⟨_, rfl, by unfold rFasts; rw [HNO.out]; exact Ints.nil _ _, hB⟩
  have HS := Lib.hid hs
  cases hi : inR b 0 (p.length - 1)
  · have HI := Lib.hid hi
    have hno : (validB p b) = false := by unfold validB; rw [hs, hi]; rfl
    have HNO := Lib.hid hno
    clear hs hi hno
    go_enter Try.func101, Try.ntmps101
    go_wp2_with (first
      | (go_at_call 78; refine (I_ValidProgram _ p lo _ ⟨_, rfl, HV.out.keep al1⟩).mono ?_; rintro e w3 ⟨rfl, hb3⟩; rw [HS.out]; have cb3 := boxAt1 hb3; have hB3 := bthen (al1 (w := w)) hb3; have hz3 := hB3.size; clear hb3)
      | (go_at_call 130; refine (I_isBlock _ p lo b _ (HV.out.keep hB3)).mono ?_; rintro e w4 ⟨rfl, hb4⟩; rw [HI.out]; have cb := cell_later hb4 cb3; have hB4 := bthen hB3 hb4; have hz4 := hB4.size; clear hb4 cb3))
    go_ret
    have hB := hB4
    exact ⟨_, rfl, by unfold rFasts; rw [HNO.out]; exact Ints.nil _ _, hB⟩
  have HI := Lib.hid hi
  have hat : validB p b = true := by unfold validB; rw [hs, hi]; rfl
  have HYES := Lib.hid hat
  have HVP := Lib.hid hs
  obtain ⟨hsh, hb0, hb1⟩ := shapeAt_iff.1 (validB_shape hat)
  have HSH := Lib.hid hsh
  have hl := shape_len hsh
  clear hs hi hsh hat

  have hR : rFasts p b = fastsF p b := by unfold rFasts; rw [HYES.out]; rfl
  have HR := Lib.hid hR
  clear hR
  go_enter Try.func101, Try.ntmps101
  go_wp2_with (first
    | (go_at_call 78; refine (I_ValidProgram _ p lo _ ⟨_, rfl, HV.out.keep al1⟩).mono ?_; rintro e w3 ⟨rfl, hb3⟩; rw [HS.out]; have cb3 := boxAt1 hb3; have hB3 := bthen (al1 (w := w)) hb3; have hz3 := hB3.size; clear hb3)
    | (go_at_call 130; refine (I_isBlock _ p lo b _ (HV.out.keep hB3)).mono ?_; rintro e w4 ⟨rfl, hb4⟩; rw [HI.out]; have cb := cell_later hb4 cb3; have hB4 := bthen hB3 hb4; have hz4 := hB4.size; clear hb4 cb3)
    | (go_at_call 160; refine (I_scopesOf _ p lo _ (HV.out.keep hB4) HSH.out).mono ?_; rintro e w5 ⟨A', Bs, rfl, hBs, hrow, hsc, hb5⟩; have hB5 := bthen hB4 hb5; have hz5 := hB5.size)
    | (go_at_call 180; refine (I_fastsOf A' p _ Bs b _ hrow hsc HSH.out hb0 hb1).mono ?_; rintro e w6 ⟨rv, rfl, hi6, hb6⟩))
  go_ret
  exact ⟨_, rfl, by rw [HR.out]; exact hi6.lo_ hz5, bthen hB5 hb6⟩

set_option maxRecDepth 100000 in
theorem I_SymbolOf (v : Value) (p : Pr) (lo : Nat) (b x : Int) (w : World) (hv : Prog w lo v p) :
    Calls Try.prog 104 #[v, .int .i64 b, .int .i64 x] w fun e w' => e = .returned (.int .i64 (rSym p b x)) ∧ Below w.heap.size w w' := by
  obtain ⟨sl, rfl, hv⟩ := hv
  have HV := Lib.hid hv
  obtain ⟨A, C, rfl⟩ := hv.form
  clear hv
  cases hs : validP p
  · have HS := Lib.hid hs
    have hno : (validB p b && isNm x) = false := by unfold validB; rw [hs]; rfl
    have HNO := Lib.hid hno
    clear hs hno
    go_enter Try.func104, Try.ntmps104
    go_wp2_with (go_at_call 78; refine (I_ValidProgram _ p lo _ ⟨_, rfl, HV.out.keep al1⟩).mono ?_; rintro e w3 ⟨rfl, hb3⟩; rw [HS.out]; have cb3 := boxAt1 hb3; have hB3 := bthen (al1 (w := w)) hb3; have hz3 := hB3.size; clear hb3)
    go_ret
    have hB := hB3
    exact ⟨ret_int (by unfold rSym; rw [HNO.out]; rfl), hB⟩
  have HS := Lib.hid hs
  cases hi : inR b 0 (p.length - 1)
  · have HI := Lib.hid hi
    have hno : (validB p b && isNm x) = false := by unfold validB; rw [hs, hi]; rfl
    have HNO := Lib.hid hno
    clear hs hi hno
    go_enter Try.func104, Try.ntmps104
    go_wp2_with (first
      | (go_at_call 78; refine (I_ValidProgram _ p lo _ ⟨_, rfl, HV.out.keep al1⟩).mono ?_; rintro e w3 ⟨rfl, hb3⟩; rw [HS.out]; have cb3 := boxAt1 hb3; have hB3 := bthen (al1 (w := w)) hb3; have hz3 := hB3.size; clear hb3)
      | (go_at_call 130; refine (I_isBlock _ p lo b _ (HV.out.keep hB3)).mono ?_; rintro e w4 ⟨rfl, hb4⟩; rw [HI.out]; have cb := cell_later hb4 cb3; have hB4 := bthen hB3 hb4; have hz4 := hB4.size; clear hb4 cb3))
    go_ret
    have hB := hB4
    exact ⟨ret_int (by unfold rSym; rw [HNO.out]; rfl), hB⟩
  have HI := Lib.hid hi
  have hat : validB p b = true := by unfold validB; rw [hs, hi]; rfl
  cases hn : isNm x
  · have HN := Lib.hid hn
    have hno : (validB p b && isNm x) = false := by rw [hn, Bool.and_false]
    have HNO := Lib.hid hno
    clear hs hi hn hat hno
    go_enter Try.func104, Try.ntmps104
    go_wp2_with (first
      | (go_at_call 78; refine (I_ValidProgram _ p lo _ ⟨_, rfl, HV.out.keep al1⟩).mono ?_; rintro e w3 ⟨rfl, hb3⟩; rw [HS.out]; have cb3 := boxAt1 hb3; have hB3 := bthen (al1 (w := w)) hb3; have hz3 := hB3.size; clear hb3)
      | (go_at_call 130; refine (I_isBlock _ p lo b _ (HV.out.keep hB3)).mono ?_; rintro e w4 ⟨rfl, hb4⟩; rw [HI.out]; have cb := cell_later hb4 cb3; have hB4 := bthen hB3 hb4; have hz4 := hB4.size; clear hb4 cb3)
      | (go_at_call 159; refine (I_isName _ _).mono ?_; rintro e w' ⟨rfl, rfl⟩; rw [HN.out]))
    go_ret
    have hB := hB4
    exact ⟨ret_int (by unfold rSym; rw [HNO.out]; rfl), hB⟩
  have HN := Lib.hid hn
  have hyes : (validB p b && isNm x) = true := by rw [hat, hn]; rfl
  have HYES := Lib.hid hyes
  obtain ⟨hx0, hx1⟩ := isNm_iff.1 hn
  have HVP := Lib.hid hs
  obtain ⟨hsh, hb0, hb1⟩ := shapeAt_iff.1 (validB_shape hat)
  have HSH := Lib.hid hsh
  have hl := shape_len hsh
  clear hs hi hsh hat hn hyes

  have hR : rSym p b x = symF p b x := by unfold rSym; rw [HYES.out]; rfl
  have HR := Lib.hid hR
  clear hR
  go_enter Try.func104, Try.ntmps104
  go_wp2_with (first
    | (go_at_call 78; refine (I_ValidProgram _ p lo _ ⟨_, rfl, HV.out.keep al1⟩).mono ?_; rintro e w3 ⟨rfl, hb3⟩; rw [HS.out]; have cb3 := boxAt1 hb3; have hB3 := bthen (al1 (w := w)) hb3; have hz3 := hB3.size; clear hb3)
    | (go_at_call 130; refine (I_isBlock _ p lo b _ (HV.out.keep hB3)).mono ?_; rintro e w4 ⟨rfl, hb4⟩; rw [HI.out]; have cb := cell_later hb4 cb3; have hB4 := bthen hB3 hb4; have hz4 := hB4.size; clear hb4 cb3)
    | (go_at_call 159; refine (I_isName _ _).mono ?_; rintro e w' ⟨rfl, rfl⟩; rw [HN.out])
    | (go_at_call 160; refine (I_scopesOf _ p lo _ (HV.out.keep hB4) HSH.out).mono ?_; rintro e w5 ⟨A', Bs, rfl, hBs, hrow, hsc, hb5⟩; have hB5 := bthen hB4 hb5; have hz5 := hB5.size)
    | (go_at_call 182; refine (I_symbolOf A' p _ Bs b x _ hrow hsc HSH.out hb0 hb1 hx0 hx1).mono ?_; rintro e w6 ⟨rfl, hb6⟩))
  go_ret
  exact ⟨ret_int HR.out.symm, bthen hB5 hb6⟩

end Go.Proofs.Ytklikpcfmmpocaa
