/-
  Walks: the reference's cellPlace, captures, CapturesOf. Condition: the argument reads as a program.
-/
import Derived.Test.YtpajkejdfalkiaaDoorSpec14
namespace Go.Proofs.YtpajkejdfalkiaaDoor
open Go.RowKit
set_option linter.unusedVariables false

/-- The place of a name among the cells that a function's value carries. -/
def cplF (p : Pr) (c x : Int) : Int := if 0 ≤ plc (cellsF p c) x then plc (cellsF p c) x else (cellsF p c).length + plc (freesF p c) x
def capF (p : Pr) (b : Int) : List Int := (freesF p b).map (cplF p (p.bk b).parent)
def rCaps (p : Pr) (b : Int) : List Int := if validB p b && decide (b ≠ 0) then capF p b else []
theorem rCaps_len (p : Pr) (b : Int) : (rCaps p b).length ≤ 1000000 := by
  unfold rCaps
  split
  · unfold capF
    rw [List.length_map]
    exact nms_lenB _
  · simp
def capTo (g : Int → Int) (l : List Int) (k : Nat) : List Int := (l.take k).map g
theorem capTo_zero (g : Int → Int) (l : List Int) : capTo g l 0 = [] := rfl
theorem capTo_succ (g : Int → Int) (l : List Int) (k : Nat) (h : k < l.length) : capTo g l (k + 1) = capTo g l k ++ [g (l.getD k 0)] := by
  unfold capTo
  rw [List.take_succ_eq_append_getElem h, List.map_append]
  simp [List.getD, h]
theorem capTo_all (g : Int → Int) (l : List Int) : capTo g l l.length = l.map g := by unfold capTo; rw [List.take_length]
theorem capTo_len (g : Int → Int) (l : List Int) (k : Nat) : (capTo g l k).length ≤ l.length := by
  unfold capTo
  rw [List.length_map]
  exact List.length_take_le' k l
theorem Ints.cellAt {w : World} {lo g n C : Nat} {l : List Int} (h : Ints w lo (.slice (some ⟨g, 0, none⟩) n C) l) (j : Nat) (hj : j < l.length) : w.cell? ⟨g, j, none⟩ = some (.int .i64 (l.getD j 0)) := by
  obtain ⟨A, C', g', e, _, _, hA, _, hc, _⟩ := h.rd
  obtain rfl := hA (by omega)
  obtain ⟨rfl, _, _⟩ : g = g' ∧ n = l.length ∧ C = C' := by simpa using e
  exact hc j hj
theorem freesF_len (p : Pr) (b : Int) : (freesF p b).length ≤ 8 := nms_len _
theorem cellsF_len (p : Pr) (b : Int) : (cellsF p b).length ≤ 8 := nms_len _

set_option maxRecDepth 100000 in
set_option maxHeartbeats 1000000 in
theorem S_cellPlace (sl : Value) (p : Pr) (lo : Nat) (c x : Int) (w : World) (hv : Blks w lo sl p) (hs : shape p = true) (hc0 : 0 ≤ c) (hc1 : c < p.length) :
    Calls Tryd.prog 48 #[.agg #[sl], .int .i64 c, .int .i64 x] w fun e w' => e = .returned (.int .i64 (cplF p c x)) ∧ Below w.heap.size w w' := by
  have hl := shape_len hs
  obtain ⟨g, C, rfl, hg⟩ := hv.formS (by omega)
  have HV := Lib.hid hv
  have HSH := Lib.hid hs
  have hR : cplF p c x = if 0 ≤ plc (cellsF p c) x then plc (cellsF p c) x else (cellsF p c).length + plc (freesF p c) x := rfl
  have hlc := cellsF_len p c
  have hlf := freesF_len p c
  have hp1 := plc_lt (cellsF p c) x
  have hq1 := plc_lt (freesF p c) x
  obtain ⟨pv, hpv⟩ : ∃ pv : Int, plc (cellsF p c) x = pv := ⟨_, rfl⟩
  obtain ⟨qv, hqv⟩ : ∃ qv : Int, plc (freesF p c) x = qv := ⟨_, rfl⟩
  rw [hpv, hqv] at hR
  rw [hpv] at hp1
  rw [hqv] at hq1
  have HPV := Lib.hid hpv
  have HQV := Lib.hid hqv
  generalize cplF p c x = R at *
  clear hv hs hpv hqv
  by_cases h0 : 0 ≤ pv
  · rw [if_pos h0] at hR
    have HR := Lib.hid hR
    clear hR
    go_enter Tryd.func48, Tryd.ntmps48
    go_wp2_with (first
      | (go_at_call 78; refine (S_cellNames _ p lo c _ (HV.out.keep al1) HSH.out hc0 hc1).mono ?_; rintro e w1 ⟨v1, rfl, hi1, hb1⟩; have HI1 := Lib.hid hi1; obtain ⟨A5, C5, g5, rfl, hn5, hC5, _⟩ := hi1.rd; have cb1 := boxAt1 hb1; have hB1 := bthen (al1 (w := w)) hb1; clear hi1 hb1)
      | (go_at_call 46; refine (S_placeIn _ _ _ x _ HI1.out).mono ?_; rintro e w' ⟨rfl, rfl⟩; rw [HPV.out]))
    go_ret
    exact ⟨ret_int HR.out.symm, hB1⟩
  · rw [if_neg h0] at hR
    have HR := Lib.hid hR
    clear hR
    go_enter Tryd.func48, Tryd.ntmps48
    go_wp2_with (first
      | (go_at_call 78; refine (S_cellNames _ p lo c _ (HV.out.keep al1) HSH.out hc0 hc1).mono ?_; rintro e w1 ⟨v1, rfl, hi1, hb1⟩; have HI1 := Lib.hid hi1; obtain ⟨A5, C5, g5, rfl, hn5, hC5, _⟩ := hi1.rd; have cb1 := boxAt1 hb1; have hB1 := bthen (al1 (w := w)) hb1; clear hi1 hb1)
      | (go_at_call 46; refine (S_placeIn _ _ _ x _ hi2).mono ?_; rintro e w' ⟨rfl, rfl⟩; rw [HQV.out])
      | (go_at_call 46; refine (S_placeIn _ _ _ x _ HI1.out).mono ?_; rintro e w' ⟨rfl, rfl⟩; rw [HPV.out])
      | (go_at_call 80; refine (S_frees _ p lo c _ (HV.out.keep hB1) HSH.out hc0 hc1).mono ?_; rintro e w2 ⟨v2, rfl, hi2, hb2⟩))
    go_ret
    exact ⟨ret_int HR.out.symm, bthen hB1 hb2⟩

end Go.Proofs.YtpajkejdfalkiaaDoor
