/-
  Walks: the reference's UsedIn, touched, TouchedBy. Condition: the argument reads as a program.
-/
import Derived.Test.YtklikpcfmmpocaaSpec9
namespace Go.Proofs.Ytklikpcfmmpocaa
open Go.RowKit
set_option linter.unusedVariables false

set_option maxRecDepth 100000 in
theorem S_UsedIn (v : Value) (p : Pr) (lo : Nat) (b : Int) (w : World) (hv : Prog w lo v p) :
    Calls Try.prog 84 #[v, .int .i64 b] w fun e w' => ∃ v', e = .returned v' ∧ Ints w' w.heap.size v' (rUsed p b) ∧ Below w.heap.size w w' := by
  obtain ⟨sl, rfl, hv⟩ := hv
  have HV := Lib.hid hv
  obtain ⟨A, C, rfl⟩ := hv.form
  clear hv
  cases hp : validP p
  · have HP := Lib.hid hp
    have hno : validB p b = false := by unfold validB; rw [hp]; rfl
    have HNO := Lib.hid hno
    clear hp hno
    go_enter Try.func84, Try.ntmps84
    go_wp2_with (go_at_call 139; refine (S_validProgram _ p lo _ (HV.out.keep al1)).mono ?_; rintro e w1 ⟨rfl, hb1'⟩; rw [HP.out]; have cb1 := boxAt1 hb1'; have hB1 := bthen (al1 (w := w)) hb1'; have hz1 := hB1.size; clear hb1')
    go_ret
    have hB := hB1
    exact ⟨_, rfl, by unfold rUsed; rw [HNO.out]; exact Ints.nil _ _, hB⟩
  have HP := Lib.hid hp
  have hl := shape_len (validP_shape hp)
  cases hi : inR b 0 (p.length - 1)
  · have HI := Lib.hid hi
    have hno : validB p b = false := by unfold validB; rw [hp, hi]; rfl
    have HNO := Lib.hid hno
    clear hp hi hno
    go_enter Try.func84, Try.ntmps84
    go_wp2_with (first
      | (go_at_call 139; refine (S_validProgram _ p lo _ (HV.out.keep al1)).mono ?_; rintro e w1 ⟨rfl, hb1'⟩; rw [HP.out]; have cb1 := boxAt1 hb1'; have hB1 := bthen (al1 (w := w)) hb1'; have hz1 := hB1.size; clear hb1')
      | (go_at_call 134; refine (S_inRange _ _ _ _).mono ?_; rintro e w' ⟨rfl, rfl⟩; rw [HI.out]))
    go_ret
    have hB := hB1
    exact ⟨_, rfl, by unfold rUsed; rw [HNO.out]; exact Ints.nil _ _, hB⟩
  have HI := Lib.hid hi
  have hat : validB p b = true := by unfold validB; rw [hp, hi]; rfl
  have HYES := Lib.hid hat
  obtain ⟨hsh, hb0, hb1⟩ := shapeAt_iff.1 (validB_shape hat)
  have HSH := Lib.hid hsh
  clear hp hi hsh hat

  have hR : rUsed p b = usedF p b := by unfold rUsed; rw [HYES.out]; rfl
  have HR := Lib.hid hR
  clear hR
  go_enter Try.func84, Try.ntmps84
  go_wp2_with (first
    | (go_at_call 139; refine (S_validProgram _ p lo _ (HV.out.keep al1)).mono ?_; rintro e w1 ⟨rfl, hb1'⟩; rw [HP.out]; have cb1 := boxAt1 hb1'; have hB1 := bthen (al1 (w := w)) hb1'; have hz1 := hB1.size; clear hb1')
    | (go_at_call 134; refine (S_inRange _ _ _ _).mono ?_; rintro e w' ⟨rfl, rfl⟩; rw [HI.out])
    | (go_at_call 170; refine (S_used _ p lo b _ (HV.out.keep hB1) HSH.out hb0 hb1).mono ?_; rintro e w4 ⟨rv, rfl, hi4, hb4⟩))
  go_ret
  exact ⟨_, rfl, by rw [HR.out]; exact hi4.lo_ hz1, bthen hB1 hb4⟩

set_option maxRecDepth 100000 in
set_option maxHeartbeats 1000000 in
theorem S_touched (sl : Value) (p : Pr) (lo : Nat) (b x : Int) (w : World) (hv : Blks w lo sl p) (hs : shape p = true) (hx0 : 0 ≤ x) (hx1 : x ≤ 7) :
    Calls Try.prog 187 #[.agg #[sl], .int .i64 b, .int .i64 x] w fun e w' => ∃ v', e = .returned v' ∧ Ints w' w.heap.size v' (touchF p b x) ∧ Below w.heap.size w w' := by
  have hl := shape_len hs
  obtain ⟨g, C, rfl, hg⟩ := hv.formS (by omega)
  have kn := knd (w := w) (W3 := w.alloc (.cells #[.slice (some ⟨g, 0, none⟩) p.length C] 30)) (lo := lo) (bx := w.heap.size) (w.heap.size + 1) (by simp) (by simp [go_sem]) (by omega) (hv.keep al1) al1
  have KN := Lib.hid kn
  have HSH := Lib.hid hs
  clear kn hv hs

  obtain ⟨f, hf⟩ : ∃ f : Int → Bool, f = fun c => (p.bk c).usesB x && ownerF p c x == b := ⟨_, rfl⟩
  have hfd : ∀ c, f c = ((p.bk c).usesB x && ownerF p c x == b) := fun c => by rw [hf]
  have hR : touchF p b x = upto f p.length := by rw [hf]; rfl
  generalize touchF p b x = R at *
  have HR := Lib.hid hR
  have HF := Lib.hid hfd
  clear hf hfd hR
  go_enter Try.func187, Try.ntmps187
  go_wp2
  go_loopw [7, 8] (fun o i wr => ∃ k : Nat, k ≤ p.length ∧ i = .int .i64 k ∧ Ints wr (w.heap.size + 1) o (upto f k) ∧ Below (w.heap.size + 1) (w.alloc (.cells #[.slice (some ⟨g, 0, none⟩) p.length C] 30)) wr) (fun _ i _ => p.length - (intOf i).toNat)
  case atStart => exact ⟨0, Nat.zero_le _, rfl, Ints.zero1 _ _, al1'⟩
  case round =>
    obtain ⟨k, hk, rfl, hown, hB⟩ := hrel
    obtain ⟨cb, hvr, hBw, hsz⟩ := KN.out wr hB
    have hlen := upto_len f k
    have HO := Lib.hid hown
    have HVR := Lib.hid hvr
    clear hown hvr
    by_cases hlt : k < p.length
    · have hfk := HF.out (k : Int)
      have hu : hasF (usedF p k) x = (p.bk k).usesB x := hasF_nms _ x hx0 hx1
      cases h1 : (p.bk k).usesB x
      · rw [h1, Bool.false_and] at hfk
        rw [h1] at hu
        have hs := upto_no f k hfk
        have HS := Lib.hid hs
        have HU := Lib.hid hu
        clear hs hfk hu h1
        go_wp2_with (first
          | (go_at_call 170; refine (S_used _ p lo k _ HVR.out HSH.out (by omega) (by omega)).mono ?_; rintro e w4 ⟨rv, rfl, hi4, hb4⟩; have hz4 := hb4.size)
          | (go_at_call 175; refine (S_has rv _ _ x _ hi4).mono ?_; rintro e w' ⟨rfl, rfl⟩; rw [HU.out]))
        go_roundw
        case rel => exact ⟨k + 1, by omega, by go_num, by rw [HS.out]; exact HO.out.keep hb4, hB.trans (hb4.mono hsz)⟩
        case measure => simp [intOf]; omega
      · rw [h1, Bool.true_and] at hfk
        rw [h1] at hu
        have HU := Lib.hid hu
        clear hu h1
        cases h2 : ownerF p k x == b
        · rw [h2] at hfk
          have hs := upto_no f k hfk
          have HS := Lib.hid hs
          clear hs hfk
          obtain ⟨ov, hov⟩ : ∃ ov : Int, ownerF p k x = ov := ⟨_, rfl⟩
          rw [hov] at h2
          have HOV := Lib.hid hov
          clear hov
          go_wp2_with (first
            | (go_at_call 170; refine (S_used _ p lo k _ HVR.out HSH.out (by omega) (by omega)).mono ?_; rintro e w4 ⟨rv, rfl, hi4, hb4⟩; have hz4 := hb4.size; have cb4 := cell_later hb4 cb)
            | (go_at_call 175; refine (S_has rv _ _ x _ hi4).mono ?_; rintro e w' ⟨rfl, rfl⟩; rw [HU.out])
            | (go_at_call 168; refine (S_owner _ p lo k x _ (HVR.out.keep hb4) HSH.out (by omega) (by omega) hx0 hx1).mono ?_; rintro e w5 ⟨rfl, hb5⟩; rw [HOV.out]; have hz5 := hb5.size))
          go_roundw
          case rel => exact ⟨k + 1, by omega, by go_num, by rw [HS.out]; exact (HO.out.keep hb4).keep hb5, hB.trans ((bthen hb4 hb5).mono hsz)⟩
          case measure => simp [intOf]; omega
        · rw [h2] at hfk
          have hs := upto_yes f k hfk
          have HS := Lib.hid hs
          clear hs hfk
          obtain ⟨ov, hov⟩ : ∃ ov : Int, ownerF p k x = ov := ⟨_, rfl⟩
          rw [hov] at h2
          have HOV := Lib.hid hov
          clear hov
          go_wp2_with (first
            | (go_at_call 170; refine (S_used _ p lo k _ HVR.out HSH.out (by omega) (by omega)).mono ?_; rintro e w4 ⟨rv, rfl, hi4, hb4⟩; have hz4 := hb4.size; have cb4 := cell_later hb4 cb)
            | (go_at_call 175; refine (S_has rv _ _ x _ hi4).mono ?_; rintro e w' ⟨rfl, rfl⟩; rw [HU.out])
            | (go_at_call 168; refine (S_owner _ p lo k x _ (HVR.out.keep hb4) HSH.out (by omega) (by omega) hx0 hx1).mono ?_; rintro e w5 ⟨rfl, hb5⟩; rw [HOV.out]; have hz5 := hb5.size)
            | (at_builtin; refine wpList_append_ints rfl _ _ rfl _ _ _ [(k : Int)] (w.heap.size + 1) _ rfl rfl (((HO.out.keep hb4).keep hb5).keep al1) (Ints.one' _ _ (by first | rfl | simp only [World.size_alloc]) _ _ (Nat.le_refl _)) (by show _ + 1 ≤ _; omega) (by simp only [World.size_alloc]; omega) ?_; intro v' w9 hown9 hgrow9 hbel9 hfrom9))
          go_roundw
          case rel => exact ⟨k + 1, by omega, by go_num, by rw [HS.out]; exact hown9, (hB.trans ((bthen hb4 hb5).mono hsz)).trans ((al1.mono (by omega)).trans hbel9)⟩
          case measure => simp [intOf]; omega
    · obtain rfl : k = p.length := by omega
      go_wp2
      go_ret
      exact ⟨_, rfl, by rw [HR.out]; exact HO.out.lo_ (by omega), hBw⟩

set_option maxRecDepth 100000 in
theorem S_TouchedBy (v : Value) (p : Pr) (lo : Nat) (b x : Int) (w : World) (hv : Prog w lo v p) :
    Calls Try.prog 112 #[v, .int .i64 b, .int .i64 x] w fun e w' => ∃ v', e = .returned v' ∧ Ints w' w.heap.size v' (rTouch p b x) ∧ Below w.heap.size w w' := by
  obtain ⟨sl, rfl, hv⟩ := hv
  have HV := Lib.hid hv
  obtain ⟨A, C, rfl⟩ := hv.form
  clear hv
  cases hp : validP p
  · have HP := Lib.hid hp
    have hno : (validB p b && isNm x) = false := by unfold validB; rw [hp]; rfl
    have HNO := Lib.hid hno
    clear hp hno
    go_enter Try.func112, Try.ntmps112
    go_wp2_with (go_at_call 139; refine (S_validProgram _ p lo _ (HV.out.keep al1)).mono ?_; rintro e w1 ⟨rfl, hb1'⟩; rw [HP.out]; have cb1 := boxAt1 hb1'; have hB1 := bthen (al1 (w := w)) hb1'; have hz1 := hB1.size; clear hb1')
    go_ret
    have hB := hB1
    exact ⟨_, rfl, by unfold rTouch; rw [HNO.out]; exact Ints.nil _ _, hB⟩
  have HP := Lib.hid hp
  have hl := shape_len (validP_shape hp)
  cases hs : shapeAt p b && isNm x
  · have HS := Lib.hid hs
    have hno : (validB p b && isNm x) = false := by
      rw [Bool.eq_false_iff]
      intro h
      rw [Bool.and_eq_true] at h
      rw [validB_shape h.1, h.2] at hs
      cases hs
    have HNO := Lib.hid hno
    clear hp hs hno
    go_enter Try.func112, Try.ntmps112
    go_wp2_with (first
      | (go_at_call 139; refine (S_validProgram _ p lo _ (HV.out.keep al1)).mono ?_; rintro e w1 ⟨rfl, hb1'⟩; rw [HP.out]; have cb1 := boxAt1 hb1'; have hB1 := bthen (al1 (w := w)) hb1'; have hz1 := hB1.size; clear hb1')
      | (go_at_call 162; refine (S_validUse _ p lo b x _ (HV.out.keep hB1)).mono ?_; rintro e w3 ⟨rfl, hb3⟩; rw [HS.out]; have cb := cell_later hb3 cb1; have hB3 := bthen hB1 hb3; have hz3 := hB3.size; clear hb3))
    go_ret
    have hB := hB3
    exact ⟨_, rfl, by unfold rTouch; rw [HNO.out]; exact Ints.nil _ _, hB⟩
  have HS := Lib.hid hs
  obtain ⟨h1, h2⟩ := Bool.and_eq_true_iff.1 hs
  obtain ⟨hsh, hb0, hb1⟩ := shapeAt_iff.1 h1
  obtain ⟨hx0, hx1⟩ := isNm_iff.1 h2
  have HSH := Lib.hid hsh
  have hyes : (validB p b && isNm x) = true := by rw [validB_iff.2 ⟨hp, hb0, hb1⟩, h2]; rfl
  have HYES := Lib.hid hyes
  clear hp hs h1 h2 hsh hyes

  have hR : rTouch p b x = touchF p b x := by unfold rTouch; rw [HYES.out]; rfl
  have HR := Lib.hid hR
  clear hR
  go_enter Try.func112, Try.ntmps112
  go_wp2_with (first
    | (go_at_call 139; refine (S_validProgram _ p lo _ (HV.out.keep al1)).mono ?_; rintro e w1 ⟨rfl, hb1'⟩; rw [HP.out]; have cb1 := boxAt1 hb1'; have hB1 := bthen (al1 (w := w)) hb1'; have hz1 := hB1.size; clear hb1')
    | (go_at_call 162; refine (S_validUse _ p lo b x _ (HV.out.keep hB1)).mono ?_; rintro e w3 ⟨rfl, hb3⟩; rw [HS.out]; have cb := cell_later hb3 cb1; have hB3 := bthen hB1 hb3; have hz3 := hB3.size; clear hb3)
    | (go_at_call 187; refine (S_touched _ p lo b x _ (HV.out.keep hB3) HSH.out hx0 hx1).mono ?_; rintro e w4 ⟨rv, rfl, hi4, hb4⟩))
  go_ret
  exact ⟨_, rfl, by rw [HR.out]; exact hi4.lo_ hz3, bthen hB3 hb4⟩

end Go.Proofs.Ytklikpcfmmpocaa
