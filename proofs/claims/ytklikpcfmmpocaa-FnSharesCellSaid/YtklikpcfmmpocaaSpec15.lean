/-
  Walks: the reference's cellPlace, captures, CapturesOf. Condition: the argument reads as a program.
-/
import Derived.Test.YtklikpcfmmpocaaSpec14
namespace Go.Proofs.Ytklikpcfmmpocaa
open Go.RowKit
set_option linter.unusedVariables false

/-- The place of a name among the cells that a function's value carries. -/
def cplF (p : Pr) (c x : Int) : Int := if 0 ≤ plc (cellsF p c) x then plc (cellsF p c) x else (cellsF p c).length + plc (freesF p c) x
def capF (p : Pr) (b : Int) : List Int := (freesF p b).map (cplF p (p.bk b).parent)
def rCaps (p : Pr) (b : Int) : List Int := if validB p b && decide (b ≠ 0) then capF p b else []
theorem rCaps_len (p : Pr) (b : Int) : (rCaps p b).length ≤ 1000000 := by
  unfold rCaps
  split
  · unfold capF
    rw [List.length_map]
    exact nms_lenB _
  · simp
def capTo (g : Int → Int) (l : List Int) (k : Nat) : List Int := (l.take k).map g
theorem capTo_zero (g : Int → Int) (l : List Int) : capTo g l 0 = [] := rfl
theorem capTo_succ (g : Int → Int) (l : List Int) (k : Nat) (h : k < l.length) : capTo g l (k + 1) = capTo g l k ++ [g (l.getD k 0)] := by
  unfold capTo
  rw [List.take_succ_eq_append_getElem h, List.map_append]
  simp [List.getD, h]
theorem capTo_all (g : Int → Int) (l : List Int) : capTo g l l.length = l.map g := by unfold capTo; rw [List.take_length]
theorem capTo_len (g : Int → Int) (l : List Int) (k : Nat) : (capTo g l k).length ≤ l.length := by
  unfold capTo
  rw [List.length_map]
  exact List.length_take_le' k l
theorem Ints.cellAt {w : World} {lo g n C : Nat} {l : List Int} (h : Ints w lo (.slice (some ⟨g, 0, none⟩) n C) l) (j : Nat) (hj : j < l.length) : w.cell? ⟨g, j, none⟩ = some (.int .i64 (l.getD j 0)) := by
  obtain ⟨A, C', g', e, _, _, hA, _, hc, _⟩ := h.rd
  obtain rfl := hA (by omega)
  obtain ⟨rfl, _, _⟩ : g = g' ∧ n = l.length ∧ C = C' := by simpa using e
  exact hc j hj
theorem freesF_len (p : Pr) (b : Int) : (freesF p b).length ≤ 8 := nms_len _
theorem cellsF_len (p : Pr) (b : Int) : (cellsF p b).length ≤ 8 := nms_len _

set_option maxRecDepth 100000 in
set_option maxHeartbeats 1000000 in
theorem S_cellPlace (sl : Value) (p : Pr) (lo : Nat) (c x : Int) (w : World) (hv : Blks w lo sl p) (hs : shape p = true) (hc0 : 0 ≤ c) (hc1 : c < p.length) :
    Calls Try.prog 224 #[.agg #[sl], .int .i64 c, .int .i64 x] w fun e w' => e = .returned (.int .i64 (cplF p c x)) ∧ Below w.heap.size w w' := by
  have hl := shape_len hs
  obtain ⟨g, C, rfl, hg⟩ := hv.formS (by omega)
  have HV := Lib.hid hv
  have HSH := Lib.hid hs
  have hR : cplF p c x = if 0 ≤ plc (cellsF p c) x then plc (cellsF p c) x else (cellsF p c).length + plc (freesF p c) x := rfl
  have hlc := cellsF_len p c
  have hlf := freesF_len p c
  have hp1 := plc_lt (cellsF p c) x
  have hq1 := plc_lt (freesF p c) x
  obtain ⟨pv, hpv⟩ : ∃ pv : Int, plc (cellsF p c) x = pv := ⟨_, rfl⟩
  obtain ⟨qv, hqv⟩ : ∃ qv : Int, plc (freesF p c) x = qv := ⟨_, rfl⟩
  rw [hpv, hqv] at hR
  rw [hpv] at hp1
  rw [hqv] at hq1
  have HPV := Lib.hid hpv
  have HQV := Lib.hid hqv
  generalize cplF p c x = R at *
  clear hv hs hpv hqv
  by_cases h0 : 0 ≤ pv
  · rw [if_pos h0] at hR
    have HR := Lib.hid hR
    clear hR
    go_enter Try.func224, Try.ntmps224
    go_wp2_with (first
      | (go_at_call 184; refine (S_cellNames _ p lo c _ (HV.out.keep al1) HSH.out hc0 hc1).mono ?_; rintro e w1 ⟨v1, rfl, hi1, hb1⟩; have HI1 := Lib.hid hi1; obtain ⟨A5, C5, g5, rfl, hn5, hC5, _⟩ := hi1.rd; have cb1 := boxAt1 hb1; have hB1 := bthen (al1 (w := w)) hb1; clear hi1 hb1)
      | (go_at_call 216; refine (S_placeIn _ _ _ x _ HI1.out).mono ?_; rintro e w' ⟨rfl, rfl⟩; rw [HPV.out]))
    go_ret
    exact ⟨ret_int HR.out.symm, hB1⟩
  · rw [if_neg h0] at hR
    have HR := Lib.hid hR
    clear hR
    go_enter Try.func224, Try.ntmps224
    go_wp2_with (first
      | (go_at_call 184; refine (S_cellNames _ p lo c _ (HV.out.keep al1) HSH.out hc0 hc1).mono ?_; rintro e w1 ⟨v1, rfl, hi1, hb1⟩; have HI1 := Lib.hid hi1; obtain ⟨A5, C5, g5, rfl, hn5, hC5, _⟩ := hi1.rd; have cb1 := boxAt1 hb1; have hB1 := bthen (al1 (w := w)) hb1; clear hi1 hb1)
      | (go_at_call 216; refine (S_placeIn _ _ _ x _ hi2).mono ?_; rintro e w' ⟨rfl, rfl⟩; rw [HQV.out])
      | (go_at_call 216; refine (S_placeIn _ _ _ x _ HI1.out).mono ?_; rintro e w' ⟨rfl, rfl⟩; rw [HPV.out])
      | (go_at_call 186; refine (S_frees _ p lo c _ (HV.out.keep hB1) HSH.out hc0 hc1).mono ?_; rintro e w2 ⟨v2, rfl, hi2, hb2⟩))
    go_ret
    exact ⟨ret_int HR.out.symm, bthen hB1 hb2⟩

set_option maxRecDepth 100000 in
set_option maxHeartbeats 4000000 in
theorem S_captures (sl : Value) (p : Pr) (lo : Nat) (b : Int) (w : World) (hv : Blks w lo sl p) (hs : shape p = true) (hb0 : 0 < b) (hb1 : b < p.length) :
    Calls Try.prog 191 #[.agg #[sl], .int .i64 b] w fun e w' => ∃ v', e = .returned v' ∧ Ints w' w.heap.size v' (capF p b) ∧ Below w.heap.size w w' := by
  have hl := shape_len hs
  obtain ⟨g, C, rfl, hg⟩ := hv.formS (by omega)
  have kn := knd (w := w) (W3 := w.alloc (.cells #[.slice (some ⟨g, 0, none⟩) p.length C] 30)) (lo := lo) (bx := w.heap.size) (w.heap.size + 1) (by simp) (by simp [go_sem]) (by omega) (hv.keep al1) al1
  have KN := Lib.hid kn
  have HSH := Lib.hid hs
  obtain ⟨_, A0, B0, C0, D0, _, e1, _, _, _, _⟩ := Prog.atg hv b (by omega) hb1
  have hpa := shape_par hs b hb0 hb1
  obtain ⟨h, hh⟩ : ∃ h : Int → Int, h = cplF p (p.bk b).parent := ⟨_, rfl⟩
  have hhx : ∀ x, cplF p (p.bk b).parent x = h x := fun x => by rw [hh]
  have hR : capF p b = (freesF p b).map h := by rw [hh]; rfl
  have hlf := freesF_len p b
  generalize capF p b = R at *
  have HR := Lib.hid hR
  have HH := Lib.hid hhx
  have E1 := Lib.hid e1
  generalize (p.bk b).parent = c at *
  obtain ⟨hc0, hc1⟩ := hpa
  have HVV := Lib.hid hv
  clear kn hv hs hR hh hhx e1
  have hb0' : 0 ≤ b := by omega
  go_enter Try.func191, Try.ntmps191
  go_wp2_with fail
  refine (S_frees _ p lo b _ (HVV.out.keep al2) HSH.out (by omega) hb1).mono ?_
  rintro e w4 ⟨v4, rfl, hi4, hb4⟩
  have HO4 := Lib.hid ((Ints.zero1 w (.cells #[.slice (some ⟨g, 0, none⟩) p.length C] 30)).keep hb4)
  have HI4 := Lib.hid hi4
  have HAP := Lib.hid (Apart.mk_ (Ints.zero1 w (.cells #[.slice (some ⟨g, 0, none⟩) p.length C] 30)) hi4 (Nat.le_refl _))
  have hB4 := al1'.trans (hb4.mono (by simp))
  have hz4 := hB4.size
  obtain ⟨A5, C5, g5, rfl, hn5, hC5, _⟩ := hi4.rd
  generalize freesF p b = l at *
  unfold maxLen at hC5
  simp only [World.size_alloc] at hz4
  obtain ⟨L4, hL4⟩ : ∃ L4 : Nat, L4 = ((w.alloc (.cells #[.slice (some ⟨g, 0, none⟩) p.length C] 30)).alloc (.cells #[] 3)).heap.size := ⟨_, rfl⟩
  rw [← hL4] at HI4
  clear hi4 hb4 hL4
  go_wp2
  go_loopw [5, 7] (fun o i wi => ∃ j : Nat, j ≤ l.length ∧ i = .int .i64 j ∧ Ints wi (w.heap.size + 1) o (capTo h l j) ∧ Ints wi L4 (.slice A5 l.length C5) l ∧ Apart o (.slice A5 l.length C5) ∧ Below (w.heap.size + 1) (w.alloc (.cells #[.slice (some ⟨g, 0, none⟩) p.length C] 30)) wi) (fun _ i _ => l.length - (intOf i).toNat)
  case atStart => exact ⟨0, Nat.zero_le _, rfl, HO4.out, HI4.out, HAP.out, hB4⟩
  case round =>
    obtain ⟨j, hj, rfl, hown, hint, hap, hB6⟩ := hrel
    obtain ⟨cbi, hvi, hBw, hsi⟩ := KN.out _ hB6
    have HIN := Lib.hid hint
    have HAP2 := Lib.hid hap
    clear hap
    have HOI := Lib.hid hown
    have hpl := capTo_len h l j
    by_cases hjl : j < l.length
    · obtain ⟨A6, C6, g6, e6, hn6, hC6, hA6, hg6, hcell6, _⟩ := hint.rd
      obtain ⟨rfl, rfl⟩ : A5 = A6 ∧ C5 = C6 := by simpa using e6
      have d0 := hcell6 j hjl
      obtain rfl := hA6 (by omega)
      have hgl6 := (hg6 (by omega)).2
      have hpy := capTo_succ h l j hjl
      have hj1 : (j : Int) < (l.length : Int) := by omega
      have hk1 := ((hBw.cell (p := ⟨g, b.toNat * 4 + 1, none⟩) (by exact hg))).trans E1.out
      have hgw : g < wr.heap.size := by have := hBw.size; omega
      have HVI := Lib.hid hvi
      clear e6 hA6 hg6 hcell6 hown hvi hint
      generalize hy : l.getD j 0 = y at *
      have hhy := HH.out y
      obtain ⟨cv, hcv⟩ : ∃ cv : Int, h y = cv := ⟨_, rfl⟩
      rw [hcv] at hhy hpy
      have HCV := Lib.hid hhy
      have HPY := Lib.hid hpy
      have HY := Lib.hid hy
      clear hy hhy hcv hpy
      have hcur : Below wr.heap.size wr wr.drew := (Below.refl _ _).drew
      go_wp2
      go_region_held3 (fun w' => w'.cell? ⟨w.heap.size, 0, none⟩ = some (.slice (some ⟨g, 0, none⟩) p.length C) ∧ w'.cell? ⟨g6, j, none⟩ = some (.int .i64 y) ∧ w'.cell? ⟨g, b.toNat * 4 + 1, none⟩ = some (.int .i64 c))
        (first | go_keep | exact ⟨cell_later hcur cbi, cell_later hcur d0, cell_later hcur hk1⟩ | exact ⟨(hbel9.cell (p := ⟨w.heap.size, 0, none⟩) (by show w.heap.size < w.heap.size + 1; omega)).trans (cell_later al1 (cell_later hcur cbi)), (by have hq := Ints.cellAt (Ints.kept ((HIN.out.keep hcur).keep al1) hgrow9 HAP2.out.kept) j hjl; rwa [HY.out] at hq), (hbel9.cell (p := ⟨g, b.toNat * 4 + 1, none⟩) (by show g < w.heap.size + 1; omega)).trans (cell_later al1 (cell_later hcur hk1))⟩)
        (first
          | (go_at_call 224
             refine (S_cellPlace _ p lo c y _ (HVI.out.keep hcur) HSH.out hc0 (by omega)).mono ?_
             rintro e w6 ⟨rfl, hb6⟩
             rw [HCV.out]
             have hcur := bthen hcur hb6
             have hz6 := hcur.size)
          | (refine step_append_ints rfl _ _ rfl _ _ _ [cv] (w.heap.size + 1) _ rfl rfl ((HOI.out.keep hcur).keep al1) (Ints.one' _ _ (by first | rfl | simp only [World.size_alloc]) _ _ (Nat.le_refl _)) (by show _ + 1 ≤ _; omega) (by simp only [World.size_alloc]; omega) ?_
             intro v9 w9 hown9 hgrow9 hbel9 hfrom9))
      all_goals
        go_wp2
        exact ⟨⟨j + 1, by omega, by go_num, by rw [HPY.out]; exact hown9, Ints.kept ((HIN.out.keep hcur).keep al1) hgrow9 HAP2.out.kept, HAP2.out.from hfrom9 (fun q hq => by have := own_block_lt (HIN.out.keep hcur) q hq; simp only [World.size_alloc]; omega), (hB6.trans (hcur.mono hsi)).trans ((al1.mono (by omega)).trans hbel9)⟩, by simp [intOf]; omega⟩
    · obtain rfl : j = l.length := by omega
      rw [capTo_all, ← HR.out] at hown
      go_wp2
      go_ret
      exact ⟨_, rfl, hown.lo_ (by omega), hBw⟩

set_option maxRecDepth 100000 in
theorem S_CapturesOf (v : Value) (p : Pr) (lo : Nat) (b : Int) (w : World) (hv : Prog w lo v p) :
    Calls Try.prog 118 #[v, .int .i64 b] w fun e w' => ∃ v', e = .returned v' ∧ Ints w' w.heap.size v' (rCaps p b) ∧ Below w.heap.size w w' := by
  obtain ⟨sl, rfl, hv⟩ := hv
  have HV := Lib.hid hv
  obtain ⟨A, C, rfl⟩ := hv.form
  clear hv
  cases hp : validP p
  · have HP := Lib.hid hp
    have hno : (validB p b && decide (b ≠ 0)) = false := by unfold validB; rw [hp]; rfl
    have HNO := Lib.hid hno
    clear hp hno
    go_enter Try.func118, Try.ntmps118
    go_wp2_with (go_at_call 139; refine (S_validProgram _ p lo _ (HV.out.keep al1)).mono ?_; rintro e w1 ⟨rfl, hb1'⟩; rw [HP.out]; have cb1 := boxAt1 hb1'; have hB1 := bthen (al1 (w := w)) hb1'; have hz1 := hB1.size; clear hb1')
    go_ret
    have hB := hB1
    exact ⟨_, rfl, by unfold rCaps; rw [HNO.out]; exact Ints.nil _ _, hB⟩
  have HP := Lib.hid hp
  have hl := shape_len (validP_shape hp)
  cases hi : inR b 1 (p.length - 1)
  · have HI := Lib.hid hi
    have hno : (validB p b && decide (b ≠ 0)) = false := by
      rw [Bool.eq_false_iff]
      intro h
      rw [Bool.and_eq_true, decide_eq_true_iff] at h
      obtain ⟨_, h0, h1⟩ := validB_iff.1 h.1
      unfold inR at hi
      rw [decide_eq_false_iff_not] at hi
      omega
    have HNO := Lib.hid hno
    clear hp hi hno
    go_enter Try.func118, Try.ntmps118
    go_wp2_with (first
      | (go_at_call 139; refine (S_validProgram _ p lo _ (HV.out.keep al1)).mono ?_; rintro e w1 ⟨rfl, hb1'⟩; rw [HP.out]; have cb1 := boxAt1 hb1'; have hB1 := bthen (al1 (w := w)) hb1'; have hz1 := hB1.size; clear hb1')
      | (go_at_call 134; refine (S_inRange _ _ _ _).mono ?_; rintro e w' ⟨rfl, rfl⟩; rw [HI.out]))
    go_ret
    have hB := hB1
    exact ⟨_, rfl, by unfold rCaps; rw [HNO.out]; exact Ints.nil _ _, hB⟩
  have HI := Lib.hid hi
  have hi' := hi
  unfold inR at hi'
  rw [decide_eq_true_iff] at hi'
  have hpos : 0 < b := by omega
  have hvb : validB p b = true := validB_iff.2 ⟨hp, by omega, by omega⟩
  have hat : (validB p b && decide (b ≠ 0)) = true := by rw [hvb, decide_eq_true (by omega)]; rfl
  have HYES := Lib.hid hat
  obtain ⟨hsh, hb0, hb1⟩ := shapeAt_iff.1 (validB_shape hvb)
  have HSH := Lib.hid hsh
  clear hp hi hsh hat hvb hi'

  have hR : rCaps p b = capF p b := by unfold rCaps; rw [HYES.out]; rfl
  have HR := Lib.hid hR
  clear hR
  go_enter Try.func118, Try.ntmps118
  go_wp2_with (first
    | (go_at_call 139; refine (S_validProgram _ p lo _ (HV.out.keep al1)).mono ?_; rintro e w1 ⟨rfl, hb1'⟩; rw [HP.out]; have cb1 := boxAt1 hb1'; have hB1 := bthen (al1 (w := w)) hb1'; have hz1 := hB1.size; clear hb1')
    | (go_at_call 134; refine (S_inRange _ _ _ _).mono ?_; rintro e w' ⟨rfl, rfl⟩; rw [HI.out])
    | (go_at_call 191; refine (S_captures _ p lo b _ (HV.out.keep hB1) HSH.out hpos hb1).mono ?_; rintro e w4 ⟨rv, rfl, hi4, hb4⟩))
  go_ret
  exact ⟨_, rfl, by rw [HR.out]; exact hi4.lo_ hz1, bthen hB1 hb4⟩

end Go.Proofs.Ytklikpcfmmpocaa
