/-
  Walks: the program's cellPlace, capturesOf, CapturesOf. Condition: the argument reads as a program.
-/
import Derived.Test.YtklikpcfmmpocaaImpl14
import Derived.Test.YtklikpcfmmpocaaSpec15
namespace Go.Proofs.Ytklikpcfmmpocaa
open Go.RowKit
set_option linter.unusedVariables false

set_option maxRecDepth 100000 in
set_option maxHeartbeats 1000000 in
theorem I_cellPlace (A : Nat → Nat) (p : Pr) (lo B : Nat) (c x : Int) (w : World) (hrow : w.rowIs B 101 p.length (fun j => .pointer (some ⟨A j, 0, none⟩))) (hsc : Scopes w lo A p) (hs : shape p = true) (hc0 : 0 ≤ c) (hc1 : c < p.length) :
    Calls Try.prog 223 #[.slice (some ⟨B, 0, none⟩) p.length p.length, .int .i64 c, .int .i64 x] w fun e w' => e = .returned (.int .i64 (cplF p c x)) ∧ Below w.heap.size w w' := by
  have hl := shape_len hs
  have HSH := Lib.hid hs
  have hSI := hsc.inn
  have HSI := Lib.hid hsc
  have HROW := Lib.hid hrow
  have hBl := World.rowIs.lt hrow
  have hR : cplF p c x = if 0 ≤ plc (cellsF p c) x then plc (cellsF p c) x else (cellsF p c).length + plc (freesF p c) x := rfl
  have hlc := cellsF_len p c
  have hlf := freesF_len p c
  have hp1 := plc_lt (cellsF p c) x
  have hq1 := plc_lt (freesF p c) x
  obtain ⟨pv, hpv⟩ : ∃ pv : Int, plc (cellsF p c) x = pv := ⟨_, rfl⟩
  obtain ⟨qv, hqv⟩ : ∃ qv : Int, plc (freesF p c) x = qv := ⟨_, rfl⟩
  rw [hpv, hqv] at hR
  rw [hpv] at hp1
  rw [hqv] at hq1
  have HPV := Lib.hid hpv
  have HQV := Lib.hid hqv
  have HS2 := HSI
  have HSI := Lib.hid hSI
  generalize cplF p c x = R at *
  clear hs hpv hqv hsc hSI hrow
  by_cases h0 : pv = -1
  · have hne : (pv != -1) = false := by simp [h0]
    rw [if_neg (by omega)] at hR
    have HR := Lib.hid hR
    clear hR h0 hp1
    go_enter Try.func223, Try.ntmps223
    go_wp2_with (first
      | (go_at_call 176; refine (I_cellSet A p lo B c _ HROW.out HS2.out HSH.out hc0 hc1).mono ?_; unfold setV; rintro e w1 ⟨rfl, hb1⟩)
      | (go_at_call 133; refine (I_list (cellB p c) _).mono ?_; rintro e w2 ⟨v1, rfl, hi1, hb2⟩; have hi1 : Ints _ _ _ (cellsF p c) := hi1; have HI1 := Lib.hid hi1; obtain ⟨A5, C5, g5, rfl, hn5, hC5, _⟩ := hi1.rd; have hB2 := bthen hb1 hb2; clear hi1 hb1 hb2)
      | (go_at_call 221; refine (I_placeOf _ _ _ x _ hi3).mono ?_; rintro e w' ⟨rfl, rfl⟩; rw [HQV.out])
      | (go_at_call 221; refine (I_placeOf _ _ _ x _ HI1.out).mono ?_; rintro e w' ⟨rfl, rfl⟩; rw [HPV.out])
      | (go_at_call 185; refine (I_freesOf A p 0 B c _ (World.rowIs.of_block HROW.out (hB2.block B hBl)) (HSI.out.below hB2).out HSH.out hc0 hc1).mono ?_; rintro e w3 ⟨v3, rfl, hi3, hb3⟩))
    go_ret
    exact ⟨ret_int HR.out.symm, bthen hB2 hb3⟩
  · have hne : (pv != -1) = true := by simp [h0]
    rw [if_pos (by omega)] at hR
    have HR := Lib.hid hR
    clear hR h0 hp1
    go_enter Try.func223, Try.ntmps223
    go_wp2_with (first
      | (go_at_call 176; refine (I_cellSet A p lo B c _ HROW.out HS2.out HSH.out hc0 hc1).mono ?_; unfold setV; rintro e w1 ⟨rfl, hb1⟩)
      | (go_at_call 133; refine (I_list (cellB p c) _).mono ?_; rintro e w2 ⟨v1, rfl, hi1, hb2⟩; have hi1 : Ints _ _ _ (cellsF p c) := hi1; have HI1 := Lib.hid hi1; obtain ⟨A5, C5, g5, rfl, hn5, hC5, _⟩ := hi1.rd; have hB2 := bthen hb1 hb2; clear hi1 hb1 hb2)
      | (go_at_call 221; refine (I_placeOf _ _ _ x _ HI1.out).mono ?_; rintro e w' ⟨rfl, rfl⟩; rw [HPV.out]))
    go_ret
    exact ⟨ret_int HR.out.symm, hB2⟩

set_option maxRecDepth 100000 in
set_option maxHeartbeats 2000000 in
theorem I_capturesOf (A : Nat → Nat) (p : Pr) (lo B : Nat) (lo2 : Nat) (b : Int) (sl : Value) (w : World) (hv : Blks w lo2 sl p) (hrow : w.rowIs B 101 p.length (fun j => .pointer (some ⟨A j, 0, none⟩))) (hsc : Scopes w lo A p) (hs : shape p = true) (hb0 : 0 < b) (hb1 : b < p.length) :
    Calls Try.prog 190 #[.agg #[sl], .slice (some ⟨B, 0, none⟩) p.length p.length, .int .i64 b] w fun e w' => ∃ v', e = .returned v' ∧ Ints w' w.heap.size v' (capF p b) ∧ Below w.heap.size w w' := by
  have hl := shape_len hs
  obtain ⟨g, C, rfl, hg⟩ := hv.formS (by omega)
  have kn := knd (w := w) (W3 := w.alloc (.cells #[.slice (some ⟨g, 0, none⟩) p.length C] 30)) (lo := lo2) (bx := w.heap.size) (w.heap.size + 1) (by simp) (by simp [go_sem]) (by omega) (hv.keep al1) al1
  have KN := Lib.hid kn
  have HSH := Lib.hid hs
  have hSI := hsc.inn
  have HSI := Lib.hid hSI
  have HROW := Lib.hid hrow
  have hBl := World.rowIs.lt hrow
  obtain ⟨_, A0, B0, C0, D0, _, e1, _, _, _, _⟩ := Prog.atg hv b (by omega) hb1
  have hpa := shape_par hs b hb0 hb1
  obtain ⟨h, hh⟩ : ∃ h : Int → Int, h = cplF p (p.bk b).parent := ⟨_, rfl⟩
  have hhx : ∀ x, cplF p (p.bk b).parent x = h x := fun x => by rw [hh]
  have hR : capF p b = (freesF p b).map h := by rw [hh]; rfl
  have hlf := freesF_len p b
  generalize capF p b = R at *
  have HR := Lib.hid hR
  have HH := Lib.hid hhx
  have E1 := Lib.hid e1
  generalize (p.bk b).parent = c at *
  obtain ⟨hc0, hc1⟩ := hpa
  have hb0' : 0 ≤ b := by omega
  clear kn hv hs hR hh hhx e1 hrow hsc hSI
  go_enter Try.func190, Try.ntmps190
  go_wp2_with fail
  refine (I_freesOf A p 0 B b _ (World.rowIs.alloc HROW.out _) (HSI.out.below al1).out HSH.out hb0' hb1).mono ?_
  rintro e w4 ⟨v4, rfl, hi4, hb4⟩
  have HI4 := Lib.hid hi4
  have hB4 : Below (w.heap.size + 1) (w.alloc (.cells #[.slice (some ⟨g, 0, none⟩) p.length C] 30)) w4 := hb4.mono (by simp)
  have hz4 := hB4.size
  obtain ⟨A5, C5, g5, rfl, hn5, hC5, _⟩ := hi4.rd
  generalize freesF p b = l at *
  unfold maxLen at hC5
  simp only [World.size_alloc] at hz4
  have HO4 := Lib.hid (Ints.nil w4 (w.heap.size + 1))
  have HAP : Apart (.slice none 0 0) (.slice A5 l.length C5) := fun k hk => by simp [Value.ownBlock] at hk
  obtain ⟨L4, hL4⟩ : ∃ L4 : Nat, L4 = (w.alloc (.cells #[.slice (some ⟨g, 0, none⟩) p.length C] 30)).heap.size := ⟨_, rfl⟩
  rw [← hL4] at HI4
  clear hi4 hb4 hL4
  go_wp2
  go_loopw [7, 14] (fun o i wi => ∃ j : Nat, j ≤ l.length ∧ i = .int .i64 j ∧ Ints wi (w.heap.size + 1) o (capTo h l j) ∧ Ints wi L4 (.slice A5 l.length C5) l ∧ Apart o (.slice A5 l.length C5) ∧ Below (w.heap.size + 1) (w.alloc (.cells #[.slice (some ⟨g, 0, none⟩) p.length C] 30)) wi) (fun _ i _ => l.length - (intOf i).toNat)
  case atStart => exact ⟨0, Nat.zero_le _, rfl, HO4.out, HI4.out, HAP, hB4⟩
  case round =>
    clear HAP
    obtain ⟨j, hj, rfl, hown, hint, hap, hB6⟩ := hrel
    obtain ⟨cbi, hvi, hBw, hsi⟩ := KN.out _ hB6
    have HIN := Lib.hid hint
    have HAP2 := Lib.hid hap
    clear hap
    have HOI := Lib.hid hown
    have hpl := capTo_len h l j
    by_cases hjl : j < l.length
    · obtain ⟨A6, C6, g6, e6, hn6, hC6, hA6, hg6, hcell6, _⟩ := hint.rd
      obtain ⟨rfl, rfl⟩ : A5 = A6 ∧ C5 = C6 := by simpa using e6
      have d0 := hcell6 j hjl
      obtain rfl := hA6 (by omega)
      have hgl6 := (hg6 (by omega)).2
      have hpy := capTo_succ h l j hjl
      have hk1 := ((hBw.cell (p := ⟨g, b.toNat * 4 + 1, none⟩) (by exact hg))).trans E1.out
      have hgw : g < wr.heap.size := by have := hBw.size; omega
      clear e6 hA6 hg6 hcell6 hown hvi hint
      generalize hy : l.getD j 0 = y at *
      have hhy := HH.out y
      obtain ⟨cv, hcv⟩ : ∃ cv : Int, h y = cv := ⟨_, rfl⟩
      rw [hcv] at hhy hpy
      have HCV := Lib.hid hhy
      have HPY := Lib.hid hpy
      clear hy hhy hcv hpy
      go_wp2_with (first
        | (go_at_call 223; refine (I_cellPlace A p 0 B c y _ (World.rowIs.of_block HROW.out (hBw.block B hBl)) (HSI.out.below hBw).out HSH.out hc0 (by omega)).mono ?_; rintro e w6 ⟨rfl, hb6⟩; rw [HCV.out]; have hz6 := hb6.size)
        | (at_builtin; refine wpList_append_ints rfl _ _ rfl _ _ _ [cv] (w.heap.size + 1) _ rfl rfl ((HOI.out.keep hb6).keep al1) (Ints.one' _ _ (by first | rfl | simp only [World.size_alloc]) _ _ (Nat.le_refl _)) (by show _ + 1 ≤ _; omega) (by simp only [World.size_alloc]; omega) ?_; intro v' w9 hown9 hgrow9 hbel9 hfrom9))
      go_roundw
      case rel => exact ⟨j + 1, by omega, by go_num, by rw [HPY.out]; exact hown9, Ints.kept ((HIN.out.keep hb6).keep al1) hgrow9 HAP2.out.kept, HAP2.out.from hfrom9 (fun q hq => by have := own_block_lt (HIN.out.keep hb6) q hq; simp only [World.size_alloc]; omega), (hB6.trans (hb6.mono hsi)).trans ((al1.mono (by omega)).trans hbel9)⟩
      case measure => simp [intOf]; omega
    · obtain rfl : j = l.length := by omega
      rw [capTo_all, ← HR.out] at hown
      go_wp2
      go_ret
      exact ⟨_, rfl, hown.lo_ (by omega), hBw⟩

set_option maxRecDepth 100000 in
set_option maxHeartbeats 1000000 in
theorem I_CapturesOf (v : Value) (p : Pr) (lo : Nat) (b : Int) (w : World) (hv : Prog w lo v p) :
    Calls Try.prog 117 #[v, .int .i64 b] w fun e w' => ∃ v', e = .returned v' ∧ Ints w' w.heap.size v' (rCaps p b) ∧ Below w.heap.size w w' := by
  obtain ⟨sl, rfl, hv⟩ := hv
  have HV := Lib.hid hv
  obtain ⟨A, C, rfl⟩ := hv.form
  clear hv
  cases hs : validP p
  · have HS := Lib.hid hs
    have hno : (validB p b) = false := by unfold validB; rw [hs]; rfl
    have HNO := Lib.hid hno
    clear hs hno
    go_enter Try.func117, Try.ntmps117
    go_wp2_with (go_at_call 78; refine (I_ValidProgram _ p lo _ ⟨_, rfl, HV.out.keep al1⟩).mono ?_; rintro e w3 ⟨rfl, hb3⟩; rw [HS.out]; have cb3 := boxAt1 hb3; have hB3 := bthen (al1 (w := w)) hb3; have hz3 := hB3.size; clear hb3)
    go_ret
    have hB := hB3
    exact ⟨_, rfl, by unfold rCaps; rw [HNO.out, Bool.false_and]; exact Ints.nil _ _, hB⟩
  have HS := Lib.hid hs
  cases hi : inR b 0 (p.length - 1)
  · have HI := Lib.hid hi
    have hno : (validB p b) = false := by unfold validB; rw [hs, hi]; rfl
    have HNO := Lib.hid hno
    clear hs hi hno
    go_enter Try.func117, Try.ntmps117
    go_wp2_with (first
      | (go_at_call 78; refine (I_ValidProgram _ p lo _ ⟨_, rfl, HV.out.keep al1⟩).mono ?_; rintro e w3 ⟨rfl, hb3⟩; rw [HS.out]; have cb3 := boxAt1 hb3; have hB3 := bthen (al1 (w := w)) hb3; have hz3 := hB3.size; clear hb3)
      | (go_at_call 130; refine (I_isBlock _ p lo b _ (HV.out.keep hB3)).mono ?_; rintro e w4 ⟨rfl, hb4⟩; rw [HI.out]; have cb := cell_later hb4 cb3; have hB4 := bthen hB3 hb4; have hz4 := hB4.size; clear hb4 cb3))
    go_ret
    have hB := hB4
    exact ⟨_, rfl, by unfold rCaps; rw [HNO.out, Bool.false_and]; exact Ints.nil _ _, hB⟩
  have HI := Lib.hid hi
  have hat : validB p b = true := by unfold validB; rw [hs, hi]; rfl
  have HYES := Lib.hid hat
  have HVP := Lib.hid hs
  obtain ⟨hsh, hb0, hb1⟩ := shapeAt_iff.1 (validB_shape hat)
  have HSH := Lib.hid hsh
  have hl := shape_len hsh
  clear hs hi hsh hat

  by_cases hz : b = 0
  · have hbz : (b == 0) = true := by simp [hz]
    have hR : rCaps p b = [] := by unfold rCaps; rw [decide_eq_false (by simp [hz]), Bool.and_false]; rfl
    have HR := Lib.hid hR
    clear hR hz
    go_enter Try.func117, Try.ntmps117
    go_wp2_with (first
      | (go_at_call 78; refine (I_ValidProgram _ p lo _ ⟨_, rfl, HV.out.keep al1⟩).mono ?_; rintro e w3 ⟨rfl, hb3⟩; rw [HS.out]; have cb3 := boxAt1 hb3; have hB3 := bthen (al1 (w := w)) hb3; have hz3 := hB3.size; clear hb3)
      | (go_at_call 130; refine (I_isBlock _ p lo b _ (HV.out.keep hB3)).mono ?_; rintro e w4 ⟨rfl, hb4⟩; rw [HI.out]; have cb := cell_later hb4 cb3; have hB4 := bthen hB3 hb4; have hz4 := hB4.size; clear hb4 cb3))
    go_ret
    exact ⟨_, rfl, by rw [HR.out]; exact Ints.nil _ _, hB4⟩
  · have hbz : (b == 0) = false := by simp [hz]
    have hpos : 0 < b := by omega
    have hR : rCaps p b = capF p b := by unfold rCaps; rw [HYES.out, decide_eq_true hz]; rfl
    have HR := Lib.hid hR
    clear hR hz
    go_enter Try.func117, Try.ntmps117
    go_wp2_with (first
      | (go_at_call 78; refine (I_ValidProgram _ p lo _ ⟨_, rfl, HV.out.keep al1⟩).mono ?_; rintro e w3 ⟨rfl, hb3⟩; rw [HS.out]; have cb3 := boxAt1 hb3; have hB3 := bthen (al1 (w := w)) hb3; have hz3 := hB3.size; clear hb3)
      | (go_at_call 130; refine (I_isBlock _ p lo b _ (HV.out.keep hB3)).mono ?_; rintro e w4 ⟨rfl, hb4⟩; rw [HI.out]; have cb := cell_later hb4 cb3; have hB4 := bthen hB3 hb4; have hz4 := hB4.size; clear hb4 cb3))
    have hcur : Below w4.heap.size w4 w4.drew := (Below.refl _ _).drew
    go_region_held3 (fun w' => w'.cell? ⟨w.heap.size, 0, none⟩ = some (.slice A p.length C))
      (first | go_keep | exact cell_later hcur cb)
      (first
        | (go_at_call 160
           refine (I_scopesOf _ p lo _ ((HV.out.keep hB4).keep hcur) HSH.out).mono ?_
           rintro e w5 ⟨A', Bs, rfl, hBs, hrow, hsc, hb5⟩
           have hcur := bthen hcur hb5)
        | (go_at_call 190
           refine (I_capturesOf A' p _ Bs lo b _ _ ((HV.out.keep hB4).keep hcur) hrow hsc HSH.out hpos hb1).mono ?_
           rintro e w6 ⟨rv, rfl, hi6, hb6⟩
           have hz5 := hcur.size
           have hcur := bthen hcur hb6))
    all_goals
      go_wp2
      go_ret
      exact ⟨_, rfl, by rw [HR.out]; exact hi6.lo_ (by omega), bthen hB4 hcur⟩

end Go.Proofs.Ytklikpcfmmpocaa
