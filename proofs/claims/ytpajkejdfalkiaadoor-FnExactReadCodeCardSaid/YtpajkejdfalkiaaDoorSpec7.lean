/-
  Walks: the reference's isLocal, outer, owner. Condition: the argument reads as a program of a valid shape, the block is one of it, the name is one.
-/
import Derived.Test.YtpajkejdfalkiaaDoorSpec6
import Derived.Test.YtpajkejdfalkiaaDoorMath2
namespace Go.Proofs.YtpajkejdfalkiaaDoor
open Go.RowKit
set_option linter.unusedVariables false

theorem hasF_nms (f : Int → Bool) (x : Int) (h0 : 0 ≤ x) (h1 : x ≤ 7) : hasF (nms f) x = f x := nms_has h0 h1

def locP (p : Pr) (b x : Int) : Bool := decide (0 < b) && (p.bk b).locB x


/-- A program of which the numbers and the parents are as in a valid shape. -/
structure Weak (p : Pr) : Prop where
  len : 1 ≤ p.length ∧ p.length ≤ 7
  body : ∀ b : Int, 0 ≤ b → b < p.length → (p.bk b).body.length ≤ 12
  params : ∀ b : Int, 0 ≤ b → b < p.length → (p.bk b).params.length ≤ 1
  par : ∀ b : Int, 0 < b → b < p.length → 0 ≤ (p.bk b).parent ∧ (p.bk b).parent < b
  par0 : (p.bk 0).parent = -1
theorem weak_of {p : Pr} (h : shape p = true) : Weak p := ⟨shape_len h, shape_body h, fun b h0 h1 => (shape_params h b h0 h1).1, shape_par h, (shape_par0 h).1⟩
theorem weak_len {p : Pr} (h : Weak p) : 1 ≤ p.length ∧ p.length ≤ 7 := h.len
theorem weak_body {p : Pr} (h : Weak p) (b : Int) (h0 : 0 ≤ b) (h1 : b < p.length) : (p.bk b).body.length ≤ 12 := h.body b h0 h1
theorem weak_params {p : Pr} (h : Weak p) (b : Int) (h0 : 0 ≤ b) (h1 : b < p.length) : (p.bk b).params.length ≤ 1 ∧ True := ⟨h.params b h0 h1, trivial⟩
theorem weak_par {p : Pr} (h : Weak p) (b : Int) (h0 : 0 < b) (h1 : b < p.length) : 0 ≤ (p.bk b).parent ∧ (p.bk b).parent < b := h.par b h0 h1
theorem up_eqW {p : Pr} (h : Weak p) (c : Int) (h0 : 0 ≤ c) (h1 : c < p.length) : up p c = (p.bk c).parent := by
  unfold up
  by_cases e : c = 0
  · subst e
    rw [h.par0]
    rfl
  · have := h.par c (by omega) h1
    rw [if_pos this]

set_option maxRecDepth 100000 in
theorem S_isLocalW (sl : Value) (p : Pr) (lo : Nat) (b x : Int) (w : World) (hv : Blks w lo sl p) (hs : Weak p) (hb0 : 0 ≤ b) (hb1 : b < p.length) (hx0 : 0 ≤ x) (hx1 : x ≤ 7) :
    Calls Tryd.prog 79 #[.agg #[sl], .int .i64 b, .int .i64 x] w fun e w' => e = .returned (.bool (locP p b x)) ∧ Below w.heap.size w w' := by
  have hl := weak_len hs
  obtain ⟨g, C, rfl, hg⟩ := hv.formS (by omega)
  have HV := Lib.hid hv
  have HSH := Lib.hid hs
  clear hv hs
  have hR : locP p b x = (decide (0 < b) && ((p.bk b).boundB x && (!(p.bk b).declB 9 x && !(p.bk b).declB 10 x))) := by
    unfold locP Bk.locB Bk.declsB
    rw [Bool.not_or]
  have hB : hasF (boundF p b) x = (p.bk b).boundB x := hasF_nms _ x hx0 hx1
  have hG : hasF (declF p b 9) x = (p.bk b).declB 9 x := hasF_nms _ x hx0 hx1
  have hN : hasF (declF p b 10) x = (p.bk b).declB 10 x := hasF_nms _ x hx0 hx1
  generalize locP p b x = R at *
  by_cases hpos : 0 < b
  · rw [decide_eq_true hpos, Bool.true_and] at hR
    cases h1 : (p.bk b).boundB x
    · rw [h1] at hR hB
      have HR := Lib.hid hR
      have HB := Lib.hid hB
      clear hR hB hG hN h1
      go_enter Tryd.func79, Tryd.ntmps79
      go_wp2_with fail
      refine (S_bound _ p lo b _ ⟨_, rfl, HV.out.keep al1⟩ hb0 hb1 (by omega) (Nat.le_trans (weak_body HSH.out b hb0 hb1) (by omega)) (Nat.le_trans (weak_params HSH.out b hb0 hb1).1 (by omega))).mono ?_
      rintro e w1 ⟨v1, rfl, hi1, hb1'⟩
      go_wp2_with fail
      refine (S_has v1 _ _ x _ hi1).mono ?_
      rintro e w' ⟨rfl, rfl⟩
      rw [HB.out]

      go_wp2
      go_ret
      exact ⟨ret_bool (by rw [HR.out]; rfl), bthen al1 hb1'⟩
    rw [h1, Bool.true_and] at hR
    rw [h1] at hB
    have HB := Lib.hid hB
    cases h2 : (p.bk b).declB 9 x
    case true =>
      rw [h2] at hR hG
      have HR := Lib.hid hR
      have HG := Lib.hid hG
      clear hR hB hG hN h1 h2
      go_enter Tryd.func79, Tryd.ntmps79
      go_wp2_with fail
      refine (S_bound _ p lo b _ ⟨_, rfl, HV.out.keep al1⟩ hb0 hb1 (by omega) (Nat.le_trans (weak_body HSH.out b hb0 hb1) (by omega)) (Nat.le_trans (weak_params HSH.out b hb0 hb1).1 (by omega))).mono ?_
      rintro e w1 ⟨v1, rfl, hi1, hb1'⟩
      have cb1 := boxAt1 hb1'
      have hB1 := bthen (al1 (w := w)) hb1'
      go_wp2_with fail
      refine (S_has v1 _ _ x _ hi1).mono ?_
      rintro e w' ⟨rfl, rfl⟩
      rw [HB.out]
      go_wp2_with fail
      refine (S_declared _ p lo b 9 _ ⟨_, rfl, HV.out.keep hB1⟩ hb0 hb1 (by omega) (Nat.le_trans (weak_body HSH.out b hb0 hb1) (by omega))).mono ?_
      rintro e w2 ⟨v2, rfl, hi2, hb2'⟩
      go_wp2_with fail
      refine (S_has v2 _ _ x _ hi2).mono ?_
      rintro e w' ⟨rfl, rfl⟩
      rw [HG.out]

      go_wp2
      go_ret
      exact ⟨ret_bool (by rw [HR.out]; rfl), bthen hB1 hb2'⟩
    case false =>
      rw [h2, Bool.not_false, Bool.true_and] at hR
      rw [h2] at hG
      have HG := Lib.hid hG
      have HR := Lib.hid hR
      have HN := Lib.hid hN
      clear hR hB hG hN h1 h2
      go_enter Tryd.func79, Tryd.ntmps79
      go_wp2_with fail
      refine (S_bound _ p lo b _ ⟨_, rfl, HV.out.keep al1⟩ hb0 hb1 (by omega) (Nat.le_trans (weak_body HSH.out b hb0 hb1) (by omega)) (Nat.le_trans (weak_params HSH.out b hb0 hb1).1 (by omega))).mono ?_
      rintro e w1 ⟨v1, rfl, hi1, hb1'⟩
      have cb1 := boxAt1 hb1'
      have hB1 := bthen (al1 (w := w)) hb1'
      go_wp2_with fail
      refine (S_has v1 _ _ x _ hi1).mono ?_
      rintro e w' ⟨rfl, rfl⟩
      rw [HB.out]
      go_wp2_with fail
      refine (S_declared _ p lo b 9 _ ⟨_, rfl, HV.out.keep hB1⟩ hb0 hb1 (by omega) (Nat.le_trans (weak_body HSH.out b hb0 hb1) (by omega))).mono ?_
      rintro e w2 ⟨v2, rfl, hi2, hb2'⟩
      have cb2 := cell_later hb2' cb1
      have hB2 := bthen hB1 hb2'
      go_wp2_with fail
      refine (S_has v2 _ _ x _ hi2).mono ?_
      rintro e w' ⟨rfl, rfl⟩
      rw [HG.out]
      go_wp2_with fail
      refine (S_declared _ p lo b 10 _ ⟨_, rfl, HV.out.keep hB2⟩ hb0 hb1 (by omega) (Nat.le_trans (weak_body HSH.out b hb0 hb1) (by omega))).mono ?_
      rintro e w3 ⟨v3, rfl, hi3, hb3'⟩
      go_wp2_with fail
      refine (S_has v3 _ _ x _ hi3).mono ?_
      rintro e w' ⟨rfl, rfl⟩
      rw [HN.out]

      go_wp2
      go_ret
      exact ⟨ret_bool (by rw [HR.out]), bthen hB2 hb3'⟩
  · rw [decide_eq_false hpos, Bool.false_and] at hR
    have HR := Lib.hid hR
    clear hR hB hG hN
    go_enter Tryd.func79, Tryd.ntmps79
    go_wp2
    go_ret
    exact ⟨ret_bool (by rw [HR.out]), al1⟩

theorem S_isLocal (sl : Value) (p : Pr) (lo : Nat) (b x : Int) (w : World) (hv : Blks w lo sl p) (hs : shape p = true) (hb0 : 0 ≤ b) (hb1 : b < p.length) (hx0 : 0 ≤ x) (hx1 : x ≤ 7) :
    Calls Tryd.prog 79 #[.agg #[sl], .int .i64 b, .int .i64 x] w fun e w' => e = .returned (.bool (locP p b x)) ∧ Below w.heap.size w w' :=
  S_isLocalW sl p lo b x w hv (weak_of hs) hb0 hb1 hx0 hx1

set_option maxRecDepth 100000 in
theorem S_outerW (sl : Value) (p : Pr) (lo : Nat) (b x : Int) (w : World) (hv : Blks w lo sl p) (hs : Weak p) (hb0 : 0 ≤ b) (hb1 : b < p.length) (hx0 : 0 ≤ x) (hx1 : x ≤ 7) :
    Calls Tryd.prog 71 #[.agg #[sl], .int .i64 b, .int .i64 x] w fun e w' => e = .returned (.int .i64 (outerF p b x)) ∧ Below w.heap.size w w' := by
  have hl := weak_len hs
  obtain ⟨g, C, rfl, hg⟩ := hv.formS (by omega)
  have kn := knd (w := w) (W3 := w.alloc (.cells #[.slice (some ⟨g, 0, none⟩) p.length C] 35)) (lo := lo) (bx := w.heap.size) (w.heap.size + 1) (by simp) (by simp [go_sem]) (by omega) (hv.keep al1) al1
  have KN := Lib.hid kn
  have HSH := Lib.hid hs
  have hu : up p b = (p.bk b).parent := up_eqW hs b hb0 hb1
  have hR : outerK p x (p.bk b).parent = outerF p b x := by unfold outerF; rw [hu]
  have hpar : (p.bk b).parent < b := by have := up_lt p b hb0; omega
  have hpar0 : -1 ≤ (p.bk b).parent := by have := up_ge p b; omega
  generalize outerF p b x = R at *
  have HR := Lib.hid hR
  obtain ⟨hg0, A0, B0, C0, D0, e0, e1, e2, e3, hps, hbs⟩ := Prog.atg hv b hb0 hb1
  generalize hq : (p.bk b).parent = q0 at *
  clear kn hv hR hbs hps e0 e2 e3 hs hu hq
  go_enter Tryd.func71, Tryd.ntmps71
  go_wp2
  go_loopw [7] (fun i wr => ∃ k : Int, -1 ≤ k ∧ k < b ∧ i = .int .i64 k ∧ outerK p x k = R ∧ Below (w.heap.size + 1) (w.alloc (.cells #[.slice (some ⟨g, 0, none⟩) p.length C] 35)) wr) (fun i _ => (intOf i).toNat)
  case atStart => exact ⟨q0, hpar0, hpar, rfl, HR.out, Below.refl _ _⟩
  case round =>
    clear hpar hpar0 e1
    obtain ⟨k, hk0, hk, rfl, hp, hB⟩ := hrel
    obtain ⟨cb, hvr, hBw, hsz⟩ := KN.out wr hB
    have HP := Lib.hid hp
    have HVR := Lib.hid hvr
    clear hp hvr
    by_cases hlt : 0 < k
    · obtain ⟨hgr, A2, A3, C2, C3, c0, c1, c2, c3, hps, hbs⟩ := Prog.atg HVR.out k (by omega) (by omega)
      have hpar := weak_par HSH.out k (by omega) (by omega)
      have hup := up_eqW HSH.out k (by omega) (by omega)
      have HUP := Lib.hid hup
      clear c2 c3 hps hbs hup
      by_cases hkd : (p.bk k).kind = 1
      · have hne : ((p.bk k).kind != 1) = false := by simp [hkd]
        have HKD := Lib.hid hkd
        clear hkd
        cases hd : (p.bk k).declB 9 x
        · have hG : hasF (declF p k 9) x = false := by rw [show hasF (declF p k 9) x = (p.bk k).declB 9 x from hasF_nms _ x hx0 hx1, hd]
          have HG := Lib.hid hG
          have HD := Lib.hid hd
          have hLOC : locP p k x = (p.bk k).locB x := by unfold locP; rw [decide_eq_true hlt, Bool.true_and]
          have HLOC := Lib.hid hLOC
          clear hG hd hLOC
          go_wp2_with fail
          refine (S_declared _ p lo k 9 _ ⟨_, rfl, HVR.out⟩ (by omega) (by omega) (by omega) (Nat.le_trans (weak_body HSH.out k (by omega) (by omega)) (by omega))).mono ?_
          rintro e w2 ⟨v2, rfl, hi2, hb2⟩
          go_wp2_with fail
          refine (S_has v2 _ _ x _ hi2).mono ?_
          rintro e w' ⟨rfl, rfl⟩
          rw [HG.out]
          have hB2 := hB.trans (hb2.mono hsz)
          obtain ⟨cb2, hvr2, hBw2, hsz2⟩ := KN.out w2 hB2
          have HVR2 := Lib.hid hvr2
          clear hi2 hb2 hvr2 cb hBw c0 c1
          go_wp2_with fail
          refine (S_isLocalW _ p lo k x _ HVR2.out HSH.out (by omega) (by omega) hx0 hx1).mono ?_
          rintro e w3 ⟨rfl, hb3⟩
          rw [HLOC.out]
          have hB3 := hB2.trans (hb3.mono hsz2)
          obtain ⟨cb3, hvr3, hBw3, hsz3⟩ := KN.out w3 hB3
          clear hb3 cb2 hBw2
          cases hloc : (p.bk k).locB x
          · have HL := Lib.hid hloc
            obtain ⟨hgr3, A2, A3, C2, C3, c0, c1, c2, c3, hps, hbs⟩ := Prog.atg hvr3 k (by omega) (by omega)
            clear c0 c2 c3 hps hbs hvr3 hloc
            have hstep := outerK_up hlt HKD.out HD.out HL.out
            rw [HUP.out] at hstep
            generalize hq : (p.bk k).parent = q at *
            have HST := Lib.hid hstep
            clear hstep hq
            go_wp2
            go_roundw
            case rel => exact ⟨q, by omega, by omega, rfl, by rw [← HST.out]; exact HP.out, hB3⟩
            case measure => simp [intOf]; omega
          · have HL := Lib.hid hloc
            clear hloc hvr3
            go_wp2
            go_ret
            exact ⟨ret_int (by rw [← HP.out, outerK_loc hlt HKD.out HD.out HL.out]), hBw3⟩
        · have hG : hasF (declF p k 9) x = true := by rw [show hasF (declF p k 9) x = (p.bk k).declB 9 x from hasF_nms _ x hx0 hx1, hd]
          have HG := Lib.hid hG
          have HD := Lib.hid hd
          clear hG hd
          go_wp2_with fail
          refine (S_declared _ p lo k 9 _ ⟨_, rfl, HVR.out⟩ (by omega) (by omega) (by omega) (Nat.le_trans (weak_body HSH.out k (by omega) (by omega)) (by omega))).mono ?_
          rintro e w2 ⟨v2, rfl, hi2, hb2⟩
          go_wp2_with fail
          refine (S_has v2 _ _ x _ hi2).mono ?_
          rintro e w' ⟨rfl, rfl⟩
          rw [HG.out]
          go_wp2
          go_ret
          exact ⟨ret_int (by rw [← HP.out, outerK_glob hlt HKD.out HD.out]), bthen hBw hb2⟩
      · have hne : ((p.bk k).kind != 1) = true := by simp [hkd]
        have hstep := outerK_skip (x := x) hlt hkd
        rw [HUP.out] at hstep
        generalize hq : (p.bk k).parent = q at *
        have HST := Lib.hid hstep
        clear hstep hq hkd
        go_wp2
        go_roundw
        case rel => exact ⟨q, by omega, by omega, rfl, by rw [← HST.out]; exact HP.out, hB⟩
        case measure => simp [intOf]; omega
    · go_wp2
      go_ret
      exact ⟨ret_int (by rw [← HP.out, outerK_end (by omega)]), hBw⟩

theorem S_outer (sl : Value) (p : Pr) (lo : Nat) (b x : Int) (w : World) (hv : Blks w lo sl p) (hs : shape p = true) (hb0 : 0 ≤ b) (hb1 : b < p.length) (hx0 : 0 ≤ x) (hx1 : x ≤ 7) :
    Calls Tryd.prog 71 #[.agg #[sl], .int .i64 b, .int .i64 x] w fun e w' => e = .returned (.int .i64 (outerF p b x)) ∧ Below w.heap.size w w' :=
  S_outerW sl p lo b x w hv (weak_of hs) hb0 hb1 hx0 hx1

set_option maxRecDepth 100000 in
theorem S_owner (sl : Value) (p : Pr) (lo : Nat) (b x : Int) (w : World) (hv : Blks w lo sl p) (hs : shape p = true) (hb0 : 0 ≤ b) (hb1 : b < p.length) (hx0 : 0 ≤ x) (hx1 : x ≤ 7) :
    Calls Tryd.prog 77 #[.agg #[sl], .int .i64 b, .int .i64 x] w fun e w' => e = .returned (.int .i64 (ownerF p b x)) ∧ Below w.heap.size w w' := by
  have hl := shape_len hs
  obtain ⟨g, C, rfl, hg⟩ := hv.formS (by omega)
  have HV := Lib.hid hv
  have HSH := Lib.hid hs
  clear hv hs
  have hR : ownerF p b x = if b = 0 then -1 else if (p.bk b).declB 9 x then -1 else if (p.bk b).locB x then b else outerF p b x := rfl
  generalize ownerF p b x = R at *
  by_cases hb : b = 0
  · have hbe : (b == 0) = true := by simp [hb]
    rw [if_pos hb] at hR
    have HR := Lib.hid hR
    clear hR hb
    go_enter Tryd.func77, Tryd.ntmps77
    go_wp2
    go_ret
    exact ⟨ret_int HR.out.symm, al1⟩
  · have hbe : (b == 0) = false := by simp [hb]
    have hpos : 0 < b := by omega
    rw [if_neg hb] at hR
    have hG : hasF (declF p b 9) x = (p.bk b).declB 9 x := hasF_nms _ x hx0 hx1
    have hLOC : locP p b x = (p.bk b).locB x := by unfold locP; rw [decide_eq_true hpos, Bool.true_and]
    have HLOC := Lib.hid hLOC
    clear hb hLOC
    cases hd : (p.bk b).declB 9 x
    · rw [hd, if_neg (by simp)] at hR
      rw [hd] at hG
      have HG := Lib.hid hG
      have HR := Lib.hid hR
      clear hR hG hd
      go_enter Tryd.func77, Tryd.ntmps77
      go_wp2_with fail
      refine (S_declared _ p lo b 9 _ ⟨_, rfl, HV.out.keep al1⟩ hb0 hb1 (by omega) (Nat.le_trans (shape_body HSH.out b hb0 hb1) (by omega))).mono ?_
      rintro e w1 ⟨v1, rfl, hi1, hb1'⟩
      have cb1 := boxAt1 hb1'
      have hB1 := bthen (al1 (w := w)) hb1'
      go_wp2_with fail
      refine (S_has v1 _ _ x _ hi1).mono ?_
      rintro e w' ⟨rfl, rfl⟩
      rw [HG.out]
      clear hi1 hb1'
      go_wp2_with fail
      refine (S_isLocal _ p lo b x _ (HV.out.keep hB1) HSH.out hb0 hb1 hx0 hx1).mono ?_
      rintro e w2 ⟨rfl, hb2⟩
      rw [HLOC.out]
      have cb2 := cell_later hb2 cb1
      have hB2 := bthen hB1 hb2
      clear hb2 cb1
      cases hloc : (p.bk b).locB x
      · have HL := Lib.hid hloc
        clear hloc
        go_wp2_with fail
        refine (S_outer _ p lo b x _ (HV.out.keep hB2) HSH.out hb0 hb1 hx0 hx1).mono ?_
        rintro e w3 ⟨rfl, hb3⟩
        go_wp2
        go_ret
        exact ⟨ret_int (by rw [HR.out, HL.out]; simp), bthen hB2 hb3⟩
      · have HL := Lib.hid hloc
        clear hloc
        go_wp2
        go_ret
        exact ⟨ret_int (by rw [HR.out, HL.out]; simp), hB2⟩
    · rw [hd, if_pos rfl] at hR
      rw [hd] at hG
      have HG := Lib.hid hG
      have HR := Lib.hid hR
      clear hR hG hd
      go_enter Tryd.func77, Tryd.ntmps77
      go_wp2_with fail
      refine (S_declared _ p lo b 9 _ ⟨_, rfl, HV.out.keep al1⟩ hb0 hb1 (by omega) (Nat.le_trans (shape_body HSH.out b hb0 hb1) (by omega))).mono ?_
      rintro e w1 ⟨v1, rfl, hi1, hb1'⟩
      go_wp2_with fail
      refine (S_has v1 _ _ x _ hi1).mono ?_
      rintro e w' ⟨rfl, rfl⟩
      rw [HG.out]
      go_wp2
      go_ret
      exact ⟨ret_int HR.out.symm, bthen al1 hb1'⟩

end Go.Proofs.YtpajkejdfalkiaaDoor
