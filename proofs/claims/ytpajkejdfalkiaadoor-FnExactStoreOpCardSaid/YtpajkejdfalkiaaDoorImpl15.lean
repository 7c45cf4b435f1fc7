/-
  Walks: the program's cellPlace, capturesOf, CapturesOf. Condition: the argument reads as a program.
-/
import Derived.Test.YtpajkejdfalkiaaDoorImpl14
import Derived.Test.YtpajkejdfalkiaaDoorSpec15
namespace Go.Proofs.YtpajkejdfalkiaaDoor
open Go.RowKit
set_option linter.unusedVariables false

set_option maxRecDepth 100000 in
set_option maxHeartbeats 1000000 in
theorem I_cellPlace (A : Nat → Nat) (p : Pr) (lo B : Nat) (c x : Int) (w : World) (hrow : w.rowIs B 81 p.length (fun j => .pointer (some ⟨A j, 0, none⟩))) (hsc : Scopes w lo A p) (hs : shape p = true) (hc0 : 0 ≤ c) (hc1 : c < p.length) :
    Calls Tryd.prog 92 #[.slice (some ⟨B, 0, none⟩) p.length p.length, .int .i64 c, .int .i64 x] w fun e w' => e = .returned (.int .i64 (cplF p c x)) ∧ Below w.heap.size w w' := by
  have hl := shape_len hs
  have HSH := Lib.hid hs
  have hSI := hsc.inn
  have HSI := Lib.hid hsc
  have HROW := Lib.hid hrow
  have hBl := World.rowIs.lt hrow
  have hR : cplF p c x = if 0 ≤ plc (cellsF p c) x then plc (cellsF p c) x else (cellsF p c).length + plc (freesF p c) x := rfl
  have hlc := cellsF_len p c
  have hlf := freesF_len p c
  have hp1 := plc_lt (cellsF p c) x
  have hq1 := plc_lt (freesF p c) x
  obtain ⟨pv, hpv⟩ : ∃ pv : Int, plc (cellsF p c) x = pv := ⟨_, rfl⟩
  obtain ⟨qv, hqv⟩ : ∃ qv : Int, plc (freesF p c) x = qv := ⟨_, rfl⟩
  rw [hpv, hqv] at hR
  rw [hpv] at hp1
  rw [hqv] at hq1
  have HPV := Lib.hid hpv
  have HQV := Lib.hid hqv
  have HS2 := HSI
  have HSI := Lib.hid hSI
  generalize cplF p c x = R at *
  clear hs hpv hqv hsc hSI hrow
  by_cases h0 : pv = -1
  · have hne : (pv != -1) = false := by simp [h0]
    rw [if_neg (by omega)] at hR
    have HR := Lib.hid hR
    clear hR h0 hp1
    go_enter Tryd.func92, Tryd.ntmps92
    go_wp2_with (first
      | (go_at_call 114; refine (I_cellSet A p lo B c _ HROW.out HS2.out HSH.out hc0 hc1).mono ?_; unfold setV; rintro e w1 ⟨rfl, hb1⟩)
      | (go_at_call 116; refine (I_list (cellB p c) _).mono ?_; rintro e w2 ⟨v1, rfl, hi1, hb2⟩; have hi1 : Ints _ _ _ (cellsF p c) := hi1; have HI1 := Lib.hid hi1; obtain ⟨A5, C5, g5, rfl, hn5, hC5, _⟩ := hi1.rd; have hB2 := bthen hb1 hb2; clear hi1 hb1 hb2)
      | (go_at_call 90; refine (I_placeOf _ _ _ x _ hi3).mono ?_; rintro e w' ⟨rfl, rfl⟩; rw [HQV.out])
      | (go_at_call 90; refine (I_placeOf _ _ _ x _ HI1.out).mono ?_; rintro e w' ⟨rfl, rfl⟩; rw [HPV.out])
      | (go_at_call 117; refine (I_freesOf A p 0 B c _ (World.rowIs.of_block HROW.out (hB2.block B hBl)) (HSI.out.below hB2).out HSH.out hc0 hc1).mono ?_; rintro e w3 ⟨v3, rfl, hi3, hb3⟩))
    go_ret
    exact ⟨ret_int HR.out.symm, bthen hB2 hb3⟩
  · have hne : (pv != -1) = true := by simp [h0]
    rw [if_pos (by omega)] at hR
    have HR := Lib.hid hR
    clear hR h0 hp1
    go_enter Tryd.func92, Tryd.ntmps92
    go_wp2_with (first
      | (go_at_call 114; refine (I_cellSet A p lo B c _ HROW.out HS2.out HSH.out hc0 hc1).mono ?_; unfold setV; rintro e w1 ⟨rfl, hb1⟩)
      | (go_at_call 116; refine (I_list (cellB p c) _).mono ?_; rintro e w2 ⟨v1, rfl, hi1, hb2⟩; have hi1 : Ints _ _ _ (cellsF p c) := hi1; have HI1 := Lib.hid hi1; obtain ⟨A5, C5, g5, rfl, hn5, hC5, _⟩ := hi1.rd; have hB2 := bthen hb1 hb2; clear hi1 hb1 hb2)
      | (go_at_call 90; refine (I_placeOf _ _ _ x _ HI1.out).mono ?_; rintro e w' ⟨rfl, rfl⟩; rw [HPV.out]))
    go_ret
    exact ⟨ret_int HR.out.symm, hB2⟩

end Go.Proofs.YtpajkejdfalkiaaDoor
