/-
  Walks: the reference's fasts, symbol, CellsOf, FastsOf, SymbolOf. Condition: the argument reads as a program.
-/
import Derived.Test.YtpajkejdfalkiaaDoorSpec11
namespace Go.Proofs.YtpajkejdfalkiaaDoor
open Go.RowKit
set_option linter.unusedVariables false

theorem fastB_yes {p : Pr} {b : Int} (hs : shape p = true) (hb : 0 ≤ b) (hk : (p.bk b).kind = 1) (x : Int) : fastB p b x = (locP p b x && !cellB p b x) := by
  have h0 : b ≠ 0 := by
    rintro rfl
    rw [(shape_par0 hs).2.1] at hk
    omega
  unfold fastB locP
  rw [decide_eq_true hk, Bool.true_and, decide_eq_true (by omega), Bool.true_and]
theorem fastB_no {p : Pr} {b : Int} (hk : (p.bk b).kind ≠ 1) (x : Int) : fastB p b x = false := by
  unfold fastB
  rw [decide_eq_false hk, Bool.false_and]

set_option maxRecDepth 100000 in
set_option maxHeartbeats 2000000 in
theorem S_fasts (sl : Value) (p : Pr) (lo : Nat) (b : Int) (w : World) (hv : Blks w lo sl p) (hs : shape p = true) (hb0 : 0 ≤ b) (hb1 : b < p.length) :
    Calls Tryd.prog 47 #[.agg #[sl], .int .i64 b] w fun e w' => ∃ v', e = .returned v' ∧ Ints w' w.heap.size v' (fastsF p b) ∧ Below w.heap.size w w' := by
  have hl := shape_len hs
  obtain ⟨g, C, rfl, hg⟩ := hv.formS (by omega)
  have kn := knd (w := w) (W3 := w.alloc (.cells #[.slice (some ⟨g, 0, none⟩) p.length C] 35)) (lo := lo) (bx := w.heap.size) (w.heap.size + 1) (by simp) (by simp [go_sem]) (by omega) (hv.keep al1) al1
  have KN := Lib.hid kn
  have HSH := Lib.hid hs
  obtain ⟨hg0, A0, B0, C0, D0, e0, _, _, _, _, _⟩ := Prog.atg hv b hb0 hb1
  have E0 := Lib.hid e0
  have hv1 := hv.keep (al2 (o := (.cells #[.slice (some ⟨g, 0, none⟩) p.length C] 35)) (o' := .cells #[] 3))
  have HV1 := Lib.hid hv1
  clear kn hv hs e0 hv1
  by_cases hkd : (p.bk b).kind = 1
  · have hkb : ((p.bk b).kind == 1) = true := by simp [hkd]
    obtain ⟨f, hf⟩ : ∃ f : Int → Bool, f = fun x => locP p b x && !cellB p b x := ⟨_, rfl⟩
    have hfd : ∀ x, f x = (locP p b x && !cellB p b x) := fun x => by rw [hf]
    have hR : fastsF p b = upto f 8 := upto_congr fun i _ => by rw [hfd, fastB_yes HSH.out hb0 hkd]
    generalize fastsF p b = R at *
    have HR := Lib.hid hR
    have HF := Lib.hid hfd
    generalize (p.bk b).kind = K at *
    clear hR hkd hf hfd
    go_enter Tryd.func47, Tryd.ntmps47
    go_wp2_with fail
    refine (S_cellNames _ p lo b _ HV1.out HSH.out hb0 hb1).mono ?_
    rintro e w4 ⟨v4, rfl, hi4, hb4⟩
    have hB4 : Below (w.heap.size + 1) (w.alloc (.cells #[.slice (some ⟨g, 0, none⟩) p.length C] 35)) w4 := al1'.trans (hb4.mono (by simp only [World.size_alloc]; omega))
    have HO4 := Lib.hid ((Ints.zero1 w (.cells #[.slice (some ⟨g, 0, none⟩) p.length C] 35)).keep hb4)
    have HAP := Lib.hid (Apart.mk_ (Ints.zero1 w (.cells #[.slice (some ⟨g, 0, none⟩) p.length C] 35)) hi4 (Nat.le_refl _))
    have HI4 := Lib.hid hi4
    clear hi4 hb4
    go_wp2
    go_loopw [5, 7] (fun o i wi => ∃ k : Nat, k ≤ 8 ∧ i = .int .i64 k ∧ Ints wi (w.heap.size + 1) o (upto f k) ∧ Ints wi ((w.alloc (.cells #[.slice (some ⟨g, 0, none⟩) p.length C] 35)).alloc (.cells #[] 3)).heap.size v4 (cellsF p b) ∧ Apart o v4 ∧ Below (w.heap.size + 1) (w.alloc (.cells #[.slice (some ⟨g, 0, none⟩) p.length C] 35)) wi) (fun _ i _ => 8 - (intOf i).toNat)
    case atStart => exact ⟨0, Nat.zero_le _, rfl, HO4.out, HI4.out, HAP.out, hB4⟩
    case round =>
      obtain ⟨k, hk, rfl, hown, hint, hap, hB⟩ := hrel
      obtain ⟨cb, hvr, hBw, hsz⟩ := KN.out wr hB
      have HO := Lib.hid hown
      have HIN := Lib.hid hint
      have HAP2 := Lib.hid hap
      have HVR := Lib.hid hvr
      have hlen := upto_len f k
      have hkc := ((hB.mono (Nat.le_succ _) : Below w.heap.size _ wr).cell (p := ⟨g, b.toNat * 4, none⟩) (by exact hg)).trans ((al1.cell (p := ⟨g, b.toNat * 4, none⟩) (by exact hg)).trans E0.out)
      have hgr : g < wr.heap.size := by omega
      clear hown hint hap hvr
      by_cases hlt : k < 8
      · have hle : (k : Int) ≤ 7 := by omega
        have hfk := HF.out (k : Int)
        have hcf : hasF (cellsF p b) k = cellB p b k := hasF_nms _ _ (by omega) hle
        cases h1 : locP p b k
        · rw [h1, Bool.false_and] at hfk
          have hs := upto_no f k hfk
          have HS := Lib.hid hs
          have HL := Lib.hid h1
          clear hs hfk h1 hcf
          go_wp2_with (go_at_call 79; refine (S_isLocal _ p lo b k _ HVR.out HSH.out hb0 hb1 (by omega) hle).mono ?_; rintro e w5 ⟨rfl, hb5⟩; rw [HL.out])
          go_roundw
          case rel => exact ⟨k + 1, by omega, by go_num, by rw [HS.out]; exact HO.out.keep hb5, HIN.out.keep hb5, HAP2.out, hB.trans (hb5.mono hsz)⟩
          case measure => simp [intOf]; omega
        · rw [h1, Bool.true_and] at hfk
          have HL := Lib.hid h1
          clear h1
          cases h2 : cellB p b k
          · rw [h2] at hfk hcf
            have hs := upto_yes f k hfk
            have HS := Lib.hid hs
            have HC := Lib.hid hcf
            clear hs hfk h2 hcf
            go_wp2_with (first
              | (go_at_call 79; refine (S_isLocal _ p lo b k _ HVR.out HSH.out hb0 hb1 (by omega) hle).mono ?_; rintro e w5 ⟨rfl, hb5⟩; rw [HL.out]; have hz5 := hb5.size)
              | (go_at_call 43; refine (S_has v4 _ _ k _ (HIN.out.keep hb5)).mono ?_; rintro e w' ⟨rfl, rfl⟩; rw [HC.out])
              | (at_builtin; refine wpList_append_ints rfl _ _ rfl _ _ _ [(k : Int)] (w.heap.size + 1) _ rfl rfl ((HO.out.keep hb5).keep al1) (Ints.one' _ _ (by first | rfl | simp only [World.size_alloc]) _ _ (Nat.le_refl _)) (by show _ + 1 ≤ _; omega) (by simp only [World.size_alloc]; omega) ?_; intro v' w9 hown9 hgrow9 hbel9 hfrom9))
            go_roundw
            case rel => exact ⟨k + 1, by omega, by go_num, by rw [HS.out]; exact hown9, Ints.kept ((HIN.out.keep hb5).keep al1) hgrow9 HAP2.out.kept, HAP2.out.from hfrom9 (fun q hq => by have := own_block_lt (HIN.out.keep hb5) q hq; simp only [World.size_alloc]; omega), (hB.trans (hb5.mono hsz)).trans ((al1.mono (by omega)).trans hbel9)⟩
            case measure => simp [intOf]; omega
          · rw [h2] at hfk hcf
            have hs := upto_no f k hfk
            have HS := Lib.hid hs
            have HC := Lib.hid hcf
            clear hs hfk h2 hcf
            go_wp2_with (first
              | (go_at_call 79; refine (S_isLocal _ p lo b k _ HVR.out HSH.out hb0 hb1 (by omega) hle).mono ?_; rintro e w5 ⟨rfl, hb5⟩; rw [HL.out]; have hz5 := hb5.size)
              | (go_at_call 43; refine (S_has v4 _ _ k _ (HIN.out.keep hb5)).mono ?_; rintro e w' ⟨rfl, rfl⟩; rw [HC.out]))
            go_roundw
            case rel => exact ⟨k + 1, by omega, by go_num, by rw [HS.out]; exact HO.out.keep hb5, HIN.out.keep hb5, HAP2.out, hB.trans (hb5.mono hsz)⟩
            case measure => simp [intOf]; omega
      · obtain rfl : k = 8 := by omega
        go_wp2
        go_ret
        exact ⟨_, rfl, by rw [HR.out]; exact HO.out.lo_ (by omega), hBw⟩
  · have hkb : ((p.bk b).kind == 1) = false := by simp [hkd]
    have hR : fastsF p b = [] := upto_nil fun i _ => fastB_no hkd _
    generalize fastsF p b = R at *
    have HR := Lib.hid hR
    generalize (p.bk b).kind = K at *
    clear hR hkd
    go_enter Tryd.func47, Tryd.ntmps47
    go_wp2_with fail
    refine (S_cellNames _ p lo b _ HV1.out HSH.out hb0 hb1).mono ?_
    rintro e w4 ⟨v4, rfl, hi4, hb4⟩
    have hB4 : Below (w.heap.size + 1) (w.alloc (.cells #[.slice (some ⟨g, 0, none⟩) p.length C] 35)) w4 := al1'.trans (hb4.mono (by simp only [World.size_alloc]; omega))
    have hO4 := (Ints.zero1 w (.cells #[.slice (some ⟨g, 0, none⟩) p.length C] 35)).keep hb4
    obtain ⟨cb, hvr, hBw, hsz⟩ := KN.out w4 hB4
    have hkc := ((hB4.mono (Nat.le_succ _) : Below w.heap.size _ w4).cell (p := ⟨g, b.toNat * 4, none⟩) (by exact hg)).trans ((al1.cell (p := ⟨g, b.toNat * 4, none⟩) (by exact hg)).trans E0.out)
    have hgr : g < w4.heap.size := by omega
    clear hi4 hb4 hvr
    go_wp2
    refine wp_loop_rounds 1 ?_
    rw [rounds_succ]
    go_wp2
    go_ret
    exact ⟨_, rfl, by rw [HR.out]; exact hO4.lo_ (by omega), hBw⟩

set_option maxRecDepth 100000 in
theorem S_symbol (sl : Value) (p : Pr) (lo : Nat) (b x : Int) (w : World) (hv : Blks w lo sl p) (hs : shape p = true) (hb0 : 0 ≤ b) (hb1 : b < p.length) (hx0 : 0 ≤ x) (hx1 : x ≤ 7) :
    Calls Tryd.prog 45 #[.agg #[sl], .int .i64 b, .int .i64 x] w fun e w' => e = .returned (.int .i64 (symF p b x)) ∧ Below w.heap.size w w' := by
  have hl := shape_len hs
  obtain ⟨g, C, rfl, hg⟩ := hv.formS (by omega)
  have HV := Lib.hid hv
  have HSH := Lib.hid hs
  have hR : symF p b x = if ownerF p b x < 0 then 0 else if ownerF p b x ≠ b then 1 else if (p.bk b).kind = 2 then 2 else if cellB p b x then 3 else 4 := rfl
  have hC : hasF (cellsF p b) x = cellB p b x := hasF_nms _ x hx0 hx1
  generalize symF p b x = R at *
  generalize hov : ownerF p b x = ov at *
  have HOV := Lib.hid hov
  clear hv hs hov
  by_cases h1 : ov < 0
  · rw [if_pos h1] at hR
    have HR := Lib.hid hR
    clear hR hC
    go_enter Tryd.func45, Tryd.ntmps45
    go_wp2_with (go_at_call 77; refine (S_owner _ p lo b x _ (HV.out.keep al1) HSH.out hb0 hb1 hx0 hx1).mono ?_; rintro e w1 ⟨rfl, hb1'⟩; rw [HOV.out])
    go_ret
    exact ⟨ret_int HR.out.symm, bthen al1 hb1'⟩
  · rw [if_neg h1] at hR
    by_cases h2 : ov = b
    · have hne : (ov != b) = false := by simp [h2]
      rw [if_neg (by simpa using h2)] at hR
      have H2 := Lib.hid h2
      clear h2
      by_cases h3 : (p.bk b).kind = 2
      · have hkb : ((p.bk b).kind == 2) = true := by simp [h3]
        rw [if_pos h3] at hR
        have HR := Lib.hid hR
        clear hR hC h3
        go_enter Tryd.func45, Tryd.ntmps45
        go_wp2_with (go_at_call 77; refine (S_owner _ p lo b x _ (HV.out.keep al1) HSH.out hb0 hb1 hx0 hx1).mono ?_; rintro e w1 ⟨rfl, hb1'⟩; rw [HOV.out]; have cb1 := boxAt1 hb1'; have hB1 := bthen (al1 (w := w)) hb1'; clear hb1'; obtain ⟨hg1, _, _, _, _, e0, _, _, _, _, _⟩ := Prog.atg (HV.out.keep hB1) b hb0 hb1)
        go_ret
        exact ⟨ret_int HR.out.symm, hB1⟩
      · have hkb : ((p.bk b).kind == 2) = false := by simp [h3]
        rw [if_neg h3] at hR
        clear h3
        cases h4 : cellB p b x
        all_goals
          rw [h4] at hR hC
          have HR := Lib.hid hR
          have HC := Lib.hid hC
          clear hR hC h4
          go_enter Tryd.func45, Tryd.ntmps45
          go_wp2_with (first
            | (go_at_call 77; refine (S_owner _ p lo b x _ (HV.out.keep al1) HSH.out hb0 hb1 hx0 hx1).mono ?_; rintro e w1 ⟨rfl, hb1'⟩; rw [HOV.out]; have cb1 := boxAt1 hb1'; have hB1 := bthen (al1 (w := w)) hb1'; clear hb1'; obtain ⟨hg1, _, _, _, _, e0, _, _, _, _, _⟩ := Prog.atg (HV.out.keep hB1) b hb0 hb1)
            | (go_at_call 78; refine (S_cellNames _ p lo b _ (HV.out.keep hB1) HSH.out hb0 hb1).mono ?_; rintro e w2 ⟨v2, rfl, hi2, hb2⟩; have hB2 := bthen hB1 hb2)
            | (go_at_call 43; refine (S_has v2 _ _ x _ hi2).mono ?_; rintro e w' ⟨rfl, rfl⟩; rw [HC.out]))
          go_ret
          exact ⟨ret_int (by rw [HR.out]; rfl), hB2⟩
    · have hne : (ov != b) = true := by simp [h2]
      rw [if_pos h2] at hR
      have HR := Lib.hid hR
      clear hR hC h2
      go_enter Tryd.func45, Tryd.ntmps45
      go_wp2_with (go_at_call 77; refine (S_owner _ p lo b x _ (HV.out.keep al1) HSH.out hb0 hb1 hx0 hx1).mono ?_; rintro e w1 ⟨rfl, hb1'⟩; rw [HOV.out])
      go_ret
      exact ⟨ret_int HR.out.symm, bthen al1 hb1'⟩

end Go.Proofs.YtpajkejdfalkiaaDoor
