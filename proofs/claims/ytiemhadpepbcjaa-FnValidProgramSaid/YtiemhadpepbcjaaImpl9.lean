/-
  Walks: the program's ValidProgram, LocalIn, OuterOf, OwnerOf. Condition: the argument reads as a program.
-/
import Derived.Test.YtiemhadpepbcjaaSc6
namespace Go.Proofs.Ytiemhadpepbcjaa
open Go.RowKit
set_option linter.unusedVariables false

set_option maxRecDepth 100000 in
theorem I_ValidProgram (v : Value) (p : Pr) (lo : Nat) (w : World) (hv : Prog w lo v p) :
    Calls Try.prog 8 #[v] w fun e w' => e = .returned (.bool (validP p)) ∧ Below w.heap.size w w' := by
  obtain ⟨sl, rfl, hv⟩ := hv
  have HV := Lib.hid hv
  obtain ⟨A, C, rfl⟩ := hv.form
  clear hv
  cases hs : shape p
  · have HS := Lib.hid hs
    clear hs
    go_enter Try.func8, Try.ntmps8
    go_wp2_with (go_at_call 10; refine (I_ValidShape _ p lo _ ⟨_, rfl, HV.out.keep al1⟩).mono ?_; rintro e w3 ⟨rfl, hb3⟩; rw [HS.out])
    go_ret
    exact ⟨ret_bool (by unfold validP; rw [HS.out]; rfl), bthen al1 hb3⟩
  · have HS := Lib.hid hs
    have hl := shape_len hs
    have hR := validP_all hs
    generalize validP p = R at *
    have HR := Lib.hid hR
    clear hs hR
    go_enter Try.func8, Try.ntmps8
    go_wp2_with (first
      | (go_at_call 10; refine (I_ValidShape _ p lo _ ⟨_, rfl, HV.out.keep al1⟩).mono ?_; rintro e w3 ⟨rfl, hb3⟩; rw [HS.out]; have cb3 := boxAt1 hb3; have hB3 := bthen (al1 (w := w)) hb3; clear hb3)
      | (go_at_call 33; refine (I_scopesOf _ p lo _ (HV.out.keep hB3) HS.out).mono ?_; rintro e w5 ⟨A', Bs, rfl, hBs, hrow, hsc, hb5⟩))
    have HROW := Lib.hid hrow
    have HSC := Lib.hid hsc
    have hB5 := bthen hB3 hb5
    clear hrow hsc hb5 cb3
    go_loopw [11] (fun v wr => ∃ k : Nat, k ≤ p.length ∧ v = .int .i64 k ∧ (∀ i : Nat, i < k → vdecl p i = true) ∧ Below w5.heap.size w5 wr) (fun v _ => p.length - (intOf v).toNat)
    case atStart => exact ⟨0, Nat.zero_le _, rfl, fun i hi => absurd hi (Nat.not_lt_zero _), Below.refl _ _⟩
    case round =>
      obtain ⟨k, hk, rfl, hq, hB⟩ := hrel
      have HQ := Lib.hid hq
      clear hq
      by_cases hlt : k < p.length
      · have hrow := World.rowIs.of_block HROW.out (hB.block Bs (World.rowIs.lt HROW.out))
        have cr := hrow.cell (i := k) hlt
        have hgr := World.rowIs.lt hrow
        have HSK := Lib.hid (HSC.out.keep hB)
        clear hrow
        cases hd : vdecl p k
        · have HD := Lib.hid hd
          clear hd
          go_wp2_with (go_at_call 34; refine (I_validDeclarations A' p _ k _ HSK.out hlt HS.out).mono ?_; rintro e w6 ⟨rfl, hb6⟩; rw [HD.out])
          go_ret
          refine ⟨ret_bool ?_, bthen (bthen hB5 hB) hb6⟩
          rw [HR.out, eq_comm, Bool.eq_false_iff]
          intro h
          rw [List.all_eq_true] at h
          have := h k (by simpa using hlt)
          rw [HD.out] at this
          cases this
        · have HD := Lib.hid hd
          clear hd
          go_wp2_with (go_at_call 34; refine (I_validDeclarations A' p _ k _ HSK.out hlt HS.out).mono ?_; rintro e w6 ⟨rfl, hb6⟩; rw [HD.out])
          go_roundw
          case rel => exact ⟨k + 1, by omega, by go_num, fun i hi => by
            rcases Nat.lt_succ_iff_lt_or_eq.1 hi with h | rfl
            · exact HQ.out i h
            · exact HD.out, bthen hB hb6⟩
          case measure => simp [intOf]; omega
      · obtain rfl : k = p.length := by omega
        go_wp2
        go_ret
        refine ⟨ret_bool ?_, bthen hB5 hB⟩
        rw [HR.out, eq_comm, List.all_eq_true]
        exact fun i hi => HQ.out i (by simpa using hi)

set_option maxRecDepth 100000 in
theorem I_OwnerOf (v : Value) (p : Pr) (lo : Nat) (b x : Int) (w : World) (hv : Prog w lo v p) :
    Calls Try.prog 17 #[v, .int .i64 b, .int .i64 x] w fun e w' => e = .returned (.int .i64 (rOwner p b x)) ∧ Below w.heap.size w w' := by
  obtain ⟨sl, rfl, hv⟩ := hv
  have HV := Lib.hid hv
  obtain ⟨A, C, rfl⟩ := hv.form
  clear hv
  cases hs : validP p
  · have HS := Lib.hid hs
    have hno : (validB p b && isNm x) = false := by unfold validB; rw [hs]; rfl
    have HNO := Lib.hid hno
    clear hs hno
    go_enter Try.func17, Try.ntmps17
    go_wp2_with (go_at_call 8; refine (I_ValidProgram _ p lo _ ⟨_, rfl, HV.out.keep al1⟩).mono ?_; rintro e w3 ⟨rfl, hb3⟩; rw [HS.out]; have cb3 := boxAt1 hb3; have hB3 := bthen (al1 (w := w)) hb3; have hz3 := hB3.size; clear hb3)
    go_ret
    have hB := hB3
    exact ⟨ret_int (by unfold rOwner; rw [HNO.out]; rfl), hB⟩
  have HS := Lib.hid hs
  cases hi : inR b 0 (p.length - 1)
  · have HI := Lib.hid hi
    have hno : (validB p b && isNm x) = false := by unfold validB; rw [hs, hi]; rfl
    have HNO := Lib.hid hno
    clear hs hi hno
    go_enter Try.func17, Try.ntmps17
    go_wp2_with (first
      | (go_at_call 8; refine (I_ValidProgram _ p lo _ ⟨_, rfl, HV.out.keep al1⟩).mono ?_; rintro e w3 ⟨rfl, hb3⟩; rw [HS.out]; have cb3 := boxAt1 hb3; have hB3 := bthen (al1 (w := w)) hb3; have hz3 := hB3.size; clear hb3)
      | (go_at_call 48; refine (I_isBlock _ p lo b _ (HV.out.keep hB3)).mono ?_; rintro e w4 ⟨rfl, hb4⟩; rw [HI.out]; have cb := cell_later hb4 cb3; have hB4 := bthen hB3 hb4; have hz4 := hB4.size; clear hb4 cb3))
    go_ret
    have hB := hB4
    exact ⟨ret_int (by unfold rOwner; rw [HNO.out]; rfl), hB⟩
  have HI := Lib.hid hi
  have hat : validB p b = true := by unfold validB; rw [hs, hi]; rfl
  cases hn : isNm x
  · have HN := Lib.hid hn
    have hno : (validB p b && isNm x) = false := by rw [hn, Bool.and_false]
    have HNO := Lib.hid hno
    clear hs hi hn hat hno
    go_enter Try.func17, Try.ntmps17
    go_wp2_with (first
      | (go_at_call 8; refine (I_ValidProgram _ p lo _ ⟨_, rfl, HV.out.keep al1⟩).mono ?_; rintro e w3 ⟨rfl, hb3⟩; rw [HS.out]; have cb3 := boxAt1 hb3; have hB3 := bthen (al1 (w := w)) hb3; have hz3 := hB3.size; clear hb3)
      | (go_at_call 48; refine (I_isBlock _ p lo b _ (HV.out.keep hB3)).mono ?_; rintro e w4 ⟨rfl, hb4⟩; rw [HI.out]; have cb := cell_later hb4 cb3; have hB4 := bthen hB3 hb4; have hz4 := hB4.size; clear hb4 cb3)
      | (go_at_call 51; refine (I_isName _ _).mono ?_; rintro e w' ⟨rfl, rfl⟩; rw [HN.out]))
    go_ret
    have hB := hB4
    exact ⟨ret_int (by unfold rOwner; rw [HNO.out]; rfl), hB⟩
  have HN := Lib.hid hn
  have hyes : (validB p b && isNm x) = true := by rw [hat, hn]; rfl
  have HYES := Lib.hid hyes
  obtain ⟨hx0, hx1⟩ := isNm_iff.1 hn
  have HVP := Lib.hid hs
  obtain ⟨hsh, hb0, hb1⟩ := shapeAt_iff.1 (validB_shape hat)
  have HSH := Lib.hid hsh
  have hl := shape_len hsh
  clear hs hi hsh hat hn hyes

  have hR : rOwner p b x = ownerF p b x := by unfold rOwner; rw [HYES.out]; rfl
  have HR := Lib.hid hR
  clear hR
  go_enter Try.func17, Try.ntmps17
  go_wp2_with (first
    | (go_at_call 8; refine (I_ValidProgram _ p lo _ ⟨_, rfl, HV.out.keep al1⟩).mono ?_; rintro e w3 ⟨rfl, hb3⟩; rw [HS.out]; have cb3 := boxAt1 hb3; have hB3 := bthen (al1 (w := w)) hb3; have hz3 := hB3.size; clear hb3)
    | (go_at_call 48; refine (I_isBlock _ p lo b _ (HV.out.keep hB3)).mono ?_; rintro e w4 ⟨rfl, hb4⟩; rw [HI.out]; have cb := cell_later hb4 cb3; have hB4 := bthen hB3 hb4; have hz4 := hB4.size; clear hb4 cb3)
    | (go_at_call 51; refine (I_isName _ _).mono ?_; rintro e w' ⟨rfl, rfl⟩; rw [HN.out])
    | (go_at_call 33; refine (I_scopesOf _ p lo _ (HV.out.keep hB4) HSH.out).mono ?_; rintro e w5 ⟨A', Bs, rfl, hBs, hrow, hsc, hb5⟩; have cr := hrow.cell (i := b.toNat) (by omega); have hgr := World.rowIs.lt hrow; have hB5 := bthen hB4 hb5; have hz5 := hB5.size)
    | (go_at_call 52; refine (I_owner A' p _ b.toNat _ x hsc (by omega) HSH.out hx0 hx1).mono ?_; rw [Int.toNat_of_nonneg hb0]; rintro e w6 ⟨rfl, hb6⟩))
  go_ret
  exact ⟨ret_int HR.out.symm, bthen hB5 hb6⟩

end Go.Proofs.Ytiemhadpepbcjaa
