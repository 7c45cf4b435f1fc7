/-
  Walks: the reference's ownersOf, OwnersOf. Condition: the argument reads as a program.
-/
import Derived.Test.YtelhemhbgpfokaaSpec17
namespace Go.Proofs.Ytelhemhbgpfokaa
open Go.RowKit
set_option linter.unusedVariables false

set_option maxRecDepth 100000 in
set_option maxHeartbeats 8000000 in
theorem S_ownersOf (sl : Value) (p : Pr) (lo : Nat) (w : World) (hv : Blks w lo sl p) (hs : shape p = true) :
    Calls Try.prog 44 #[.agg #[sl]] w fun e w' => ∃ v' us, e = .returned v' ∧ RowsOf w' w.heap.size v' us (ownRows p p.length) ∧ Below w.heap.size w w' := by
  have hl := shape_len hs
  obtain ⟨g, C, rfl, hg⟩ := hv.formS (by omega)
  have HV := Lib.hid hv
  have HSH := Lib.hid hs
  clear hv hs
  go_enter Try.func44, Try.ntmps44
  go_wp2
  obtain ⟨W0, hW0⟩ : ∃ W0 : World, W0 = w.alloc (.cells #[.slice (some ⟨g, 0, none⟩) p.length C] 25) := ⟨_, rfl⟩
  have c0 : W0.cell? ⟨w.heap.size, 0, none⟩ = some (.slice (some ⟨g, 0, none⟩) p.length C) := by rw [hW0]; simp [go_sem]
  have hb0 : Below w.heap.size w W0 := by rw [hW0]; exact al1
  have z0 : W0.heap.size = w.heap.size + 1 := by rw [hW0]; simp
  have HZ := Lib.hid z0
  have hz0 : w.heap.size ≤ W0.heap.size := by omega
  have HB0 := Lib.hid hb0
  rw [← hW0]
  clear hW0 hb0 z0
  go_loopw [3, 4] (fun o i wi => ∃ (k : Nat) (us : List Value), k ≤ p.length ∧ i = .int .i64 k ∧ RowsOf wi W0.heap.size o us (ownRows p k) ∧ Below W0.heap.size W0 wi) (fun _ i _ => p.length - (intOf i).toNat)
  case atStart => exact ⟨0, [], Nat.zero_le _, rfl, RowsOf.zero HZ.out (Nat.le_of_eq HZ.out), al1⟩
  case round =>
    obtain ⟨wo, rfl⟩ : ∃ wo : World, wo = wr := ⟨_, rfl⟩
    obtain ⟨k, us, hk, rfl, hrow, hB⟩ := hrel
    have c1 := cell_later hB c0
    have HV1 := Lib.hid (HV.out.keep (bthen HB0.out hB))
    have HROW := Lib.hid hrow
    have hzo := hB.size
    clear hrow
    by_cases hlt : k < p.length
    · have hlr : (readF p k).length ≤ 8 := nms_len _
      have hlb : (boundF p k).length ≤ 8 := nms_len _
      have hat := fun (x : Nat) (h : x < 8) => ownAt_eq (p := p) (c := (k : Int)) (x := (x : Int)) (by omega) (by omega)
      have hk0 : (0 : Int) ≤ (k : Int) := by omega
      have hk1 : (k : Int) < (p.length : Int) := by omega
      have HAT := Lib.hid hat
      clear hat
      go_wp2
      obtain ⟨W1, hW1⟩ : ∃ W1 : World, W1 = wo.alloc (.cells #[] 3) := ⟨_, rfl⟩
      have hx : Below wo.heap.size wo W1 := by rw [hW1]; exact al1
      have li : Ints W1 wo.heap.size (.slice (some ⟨wo.heap.size, 0, none⟩) 0 0) [] := by rw [hW1]; exact Ints.zero wo _ (Nat.le_refl _)
      have c2 := cell_later hx c1
      have HV2 := Lib.hid (HV1.out.keep hx)
      have hz1 := hx.size
      rw [← hW1]
      have hcur : Below W1.heap.size W1 W1.drew := (below0 _).drew
      have HX := Lib.hid hx
      have HLI := Lib.hid li
      clear hW1 hx li
      go_region_held3 (fun w' => w'.cell? ⟨w.heap.size, 0, none⟩ = some (.slice (some ⟨g, 0, none⟩) p.length C))
        (first | go_keep | exact cell_later hcur c2)
        (first
          | (go_at_call 85
             refine (S_read _ p lo k _ ⟨_, rfl, HV2.out.keep hcur⟩ hk0 hk1 (by omega) (Nat.le_trans (shape_body HSH.out k hk0 hk1) (by omega))).mono ?_
             rintro e wa ⟨vr, rfl, ir, br⟩
             have ir := ir.lo_ hcur.size
             have hcur := bthen hcur br)
          | (go_at_call 86
             refine (S_bound _ p lo k _ ⟨_, rfl, HV2.out.keep hcur⟩ hk0 hk1 (by omega) (Nat.le_trans (shape_body HSH.out k hk0 hk1) (by omega)) (Nat.le_trans (shape_params HSH.out k hk0 hk1).1 (by omega))).mono ?_
             rintro e wb ⟨vb, rfl, ib, bb⟩
             have ib := ib.lo_ hcur.size
             have ir := ir.keep bb
             have hcur := bthen hcur bb)
          | (refine step_append_ints rfl _ _ rfl vr vb _ _ W1.heap.size _ rfl rfl ir ib (by omega) hcur.size ?_
             intro v1 w1 i1 g1 b1 f1
             have hcur := hcur.trans b1))
      obtain ⟨LS, hLS⟩ : ∃ LS : List Int, LS = readF p k ++ boundF p k := ⟨_, rfl⟩
      have hat := HAT.out
      rw [← hLS] at i1 hat
      have HAT2 := Lib.hid hat
      obtain ⟨vA, vC, rfl⟩ := i1.form
      have c3 := cell_later hcur c2
      have hBw := bthen HX.out hcur
      have HV3 := Lib.hid (HV2.out.keep hcur)
      have hap0 : Apart (.slice (some ⟨wo.heap.size, 0, none⟩) 0 0) (.slice vA LS.length vC) := Apart.mk_ HLI.out i1 (Nat.le_refl _)
      have HI := Lib.hid i1
      have HLI2 := Lib.hid (HLI.out.keep hcur)
      clear hat hLS i1
      go_wp2
      go_loopw [5, 7] (fun r i wi => ∃ m : Nat, m ≤ 8 ∧ i = .int .i64 m ∧ Ints wi wo.heap.size r (ownTo p k m) ∧ Apart r (.slice vA LS.length vC) ∧ Ints wi W1.heap.size (.slice vA LS.length vC) LS ∧ Below wo.heap.size wo wi) (fun _ i _ => 8 - (intOf i).toNat)
      case atStart => exact ⟨0, by omega, rfl, HLI2.out, hap0, HI.out, hBw⟩
      case round =>
        obtain ⟨m, hm, rfl, hr, hap, hi, hBi⟩ := hrel
        have c4 := cell_later hBi c1
        have HV4 := Lib.hid (HV1.out.keep hBi)
        have hzi := hBi.size
        by_cases hlm : m < 8
        · have hle : (m : Int) ≤ 7 := by omega
          have hat := HAT2.out m hlm
          cases hh : hasF LS m
          · rw [hh] at hat
            have hat : ownAt p k m = -2 := hat
            have HE := Lib.hid hat
            clear hat
            go_wp2_with (first
              | (go_at_call 83; refine (S_has _ LS _ m _ hi).mono ?_; rintro e w' ⟨rfl, rfl⟩; rw [hh])
              | (at_builtin; refine wpList_append_ints rfl _ _ rfl _ _ _ [-2] wo.heap.size _ rfl rfl (hr.keep al1) (Ints.one' _ _ (by first | rfl | simp only [World.size_alloc]) _ _ (Nat.le_refl _)) (by show _ + 1 ≤ _; rw [ownTo_len]; omega) (by simp only [World.size_alloc]; omega) ?_; intro v9 w9 hown9 hgrow9 hbel9 hfrom9))
            have hi9 := (hi.keep al1).kept hgrow9 hap.kept
            have hap9 := hap.from hfrom9 (fun r hr => own_block_lt (hi.keep al1) r hr)
            go_roundw
            case rel => exact ⟨m + 1, by omega, by go_num, by rw [ownTo, HE.out]; exact hown9, hap9, hi9, (bal hBi _).trans hbel9⟩
            case measure => simp [intOf]; omega
          · rw [hh] at hat
            have hat : ownAt p k m = ownerF p k m := hat
            have HE := Lib.hid hat
            clear hat
            go_wp2_with fail
            refine (S_has _ LS _ m _ hi).mono ?_
            rintro e w' ⟨rfl, rfl⟩
            rw [hh]
            go_wp2_with fail
            refine (S_owner _ p lo k m _ HV4.out HSH.out hk0 hk1 (by omega) (by omega)).mono ?_
            rintro e w7 ⟨rfl, hb7⟩
            have hr := hr.keep hb7
            have hi := hi.keep hb7
            have hBi := bthen hBi hb7
            have hzi := hBi.size
            go_wp2_with (at_builtin; refine wpList_append_ints rfl _ _ rfl _ _ _ [(ownerF p k m)] wo.heap.size _ rfl rfl (hr.keep al1) (Ints.one' _ _ (by first | rfl | simp only [World.size_alloc]) _ _ (Nat.le_refl _)) (by show _ + 1 ≤ _; rw [ownTo_len]; omega) (by simp only [World.size_alloc]; omega) ?_; intro v9 w9 hown9 hgrow9 hbel9 hfrom9)
            have hi9 := (hi.keep al1).kept hgrow9 hap.kept
            have hap9 := hap.from hfrom9 (fun r hr => own_block_lt (hi.keep al1) r hr)
            go_roundw
            case rel => exact ⟨m + 1, by omega, by go_num, by rw [ownTo, HE.out]; exact hown9, hap9, hi9, (bal hBi _).trans hbel9⟩
            case measure => simp [intOf]; omega
        · obtain rfl : m = 8 := by omega
          have hle : ¬ (((8 : Nat) : Int) ≤ 7) := by omega
          have hrl := ownTo_len p k 8
          have hrows := HROW.out.keep hBi
          have hapr : ∀ i, i < (ownRows p k).length → Apart (us.getD i undef) _ := fun i hi' => Apart.mk_ (HROW.out.2.1 i hi') hr (Nat.le_refl _)
          obtain ⟨rA, rC, rfl⟩ := hr.form
          obtain ⟨oA, oC, rfl⟩ := HROW.out.form
          clear hrl
          go_wp2_with (at_builtin; go_loud (refine wpList_append_row rfl _ _ rfl (.slice oA (ownRows p k).length oC) (.slice rA (ownTo p k 8).length rC) us (ownRows p k) (ownTo p k 8) W0.heap.size _ rfl rfl rfl hrows (hr.lo_ hzo) hapr (by rw [ownRows_len]; omega) (by omega) ?_); intro v9 w9 hrow9 hbel9)
          go_roundw
          case rel => exact ⟨k + 1, _, by omega, by go_num, hrow9, (bthen hB hBi).trans hbel9⟩
          case measure => simp [intOf]; omega
    · obtain rfl : k = p.length := by omega
      go_wp2
      go_ret
      exact ⟨_, us, rfl, HROW.out.lo_ hz0, HB0.out.trans (hB.mono hz0)⟩

set_option maxRecDepth 100000 in
theorem S_OwnersOf (v : Value) (p : Pr) (lo : Nat) (w : World) (hv : Prog w lo v p) :
    Calls Try.prog 13 #[v] w fun e w' => ∃ v' us, e = .returned v' ∧ RowsOf w' w.heap.size v' us (rOwners p) ∧ Below w.heap.size w w' := by
  obtain ⟨sl, rfl, hv⟩ := hv
  have HV := Lib.hid hv
  obtain ⟨A, C, rfl⟩ := hv.form
  clear hv
  cases hp : validP p
  · have HP := Lib.hid hp
    have hR : rOwners p = [] := by unfold rOwners; rw [hp]; rfl
    rw [hR]
    clear hp hR
    go_enter Try.func13, Try.ntmps13
    go_wp2_with (go_at_call 43; refine (S_validProgram _ p lo _ (HV.out.keep al1)).mono ?_; rintro e w1 ⟨rfl, hb1'⟩; rw [HP.out]; have cb1 := boxAt1 hb1'; have hB1 := bthen (al1 (w := w)) hb1'; have hz1 := hB1.size; clear hb1')
    go_ret
    exact ⟨_, [], rfl, RowsOf.nil _ _, hB1⟩
  · have HP := Lib.hid hp
    have hR : rOwners p = ownRows p p.length := by unfold rOwners; rw [hp]; rfl
    rw [hR]
    clear hp hR
    go_enter Try.func13, Try.ntmps13
    go_wp2_with (first
      | (go_at_call 43; refine (S_validProgram _ p lo _ (HV.out.keep al1)).mono ?_; rintro e w1 ⟨rfl, hb1'⟩; rw [HP.out]; have cb1 := boxAt1 hb1'; have hB1 := bthen (al1 (w := w)) hb1'; have hz1 := hB1.size; clear hb1')
      | (go_at_call 44; refine (S_ownersOf _ p lo _ (HV.out.keep hB1) (validP_shape HP.out)).mono ?_; rintro e w2 ⟨v2, us, rfl, hr2, hb2⟩; have hB2 := bthen hB1 hb2))
    go_ret
    exact ⟨_, us, rfl, hr2.lo_ (by omega), hB2⟩

end Go.Proofs.Ytelhemhbgpfokaa
