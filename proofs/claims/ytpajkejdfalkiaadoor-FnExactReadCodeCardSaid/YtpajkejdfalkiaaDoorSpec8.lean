/-
  Walks: the reference's LocalIn, OuterOf, ValidProgram, OwnerOf. Condition: the argument reads as a program.
-/
import Derived.Test.YtpajkejdfalkiaaDoorSpec7
namespace Go.Proofs.YtpajkejdfalkiaaDoor
open Go.RowKit
set_option linter.unusedVariables false

theorem validP_yes {p : Pr} (hs : shape p = true) (h : ∀ b : Nat, 0 < b → b < p.length → ∀ x : Nat, x < 8 → declOk p b x = true) : validP p = true := by
  unfold validP
  rw [hs, Bool.true_and, List.all_eq_true]
  intro b hb
  rcases Nat.eq_zero_or_pos b with e | e
  · simp [e]
  · rw [Bool.or_eq_true]
    right
    rw [List.all_eq_true]
    intro x hx
    exact h b e (by simpa using hb) x (by simpa using hx)
theorem validP_decl {p : Pr} (h : validP p = true) (b : Int) (h0 : 0 < b) (h1 : b < p.length) (x : Int) (x0 : 0 ≤ x) (x1 : x ≤ 7) : declOk p b x = true := by
  unfold validP at h
  rw [Bool.and_eq_true, List.all_eq_true] at h
  have h2 := h.2 b.toNat (by simp; omega)
  rw [Bool.or_eq_true, List.all_eq_true] at h2
  rcases h2 with h2 | h2
  · simp at h2; omega
  · have h3 := h2 x.toNat (by simp; omega)
    rwa [Int.toNat_of_nonneg (by omega), Int.toNat_of_nonneg x0] at h3
theorem validP_no {p : Pr} {b x : Nat} (h0 : 0 < b) (h1 : b < p.length) (hx : x < 8) (h : declOk p b x = false) : validP p = false := by
  rw [Bool.eq_false_iff]
  intro hv
  have := validP_decl hv b (by omega) (by omega) x (by omega) (by omega)
  rw [h] at this
  cases this

theorem S_validUse (sl : Value) (p : Pr) (lo : Nat) (b x : Int) (w : World) (hv : Blks w lo sl p) :
    Calls Tryd.prog 42 #[.agg #[sl], .int .i64 b, .int .i64 x] w fun e w' => e = .returned (.bool (shapeAt p b && isNm x)) ∧ Below w.heap.size w w' := by
  obtain ⟨A, C, rfl⟩ := hv.form
  have HV := Lib.hid hv
  clear hv
  cases hs : shapeAt p b
  · have HS := Lib.hid hs
    clear hs
    go_enter Tryd.func42, Tryd.ntmps42
    go_wp2_with (go_at_call 72; refine (S_validAt _ p lo b _ ⟨_, rfl, HV.out.keep al1⟩).mono ?_; rintro e w3 ⟨rfl, hb3⟩; rw [HS.out])
    go_ret
    exact ⟨rfl, bthen al1 hb3⟩
  · have HS := Lib.hid hs
    clear hs
    go_enter Tryd.func42, Tryd.ntmps42
    go_wp2_with (first
      | (go_at_call 72; refine (S_validAt _ p lo b _ ⟨_, rfl, HV.out.keep al1⟩).mono ?_; rintro e w3 ⟨rfl, hb3⟩; rw [HS.out])
      | (go_at_call 73; refine (S_isName _ _).mono ?_; rintro e w' ⟨rfl, rfl⟩))
    go_ret
    exact ⟨rfl, bthen al1 hb3⟩

set_option maxRecDepth 100000 in
set_option maxHeartbeats 2000000 in
theorem S_validProgram (sl : Value) (p : Pr) (lo : Nat) (w : World) (hv : Blks w lo sl p) :
    Calls Tryd.prog 41 #[.agg #[sl]] w fun e w' => e = .returned (.bool (validP p)) ∧ Below w.heap.size w w' := by
  have HV := Lib.hid hv
  obtain ⟨A, C, rfl⟩ := hv.form
  clear hv
  generalize hR : validP p = R
  have HR := Lib.hid hR
  clear hR
  cases hs : shape p
  · have HS := Lib.hid hs
    clear hs
    go_enter Tryd.func41, Tryd.ntmps41
    go_wp2_with (go_at_call 69; refine (S_validShape _ p lo _ ⟨_, rfl, HV.out.keep al1⟩).mono ?_; rintro e w3 ⟨rfl, hb3⟩; rw [HS.out])
    go_ret
    exact ⟨ret_bool (by rw [← HR.out]; unfold validP; rw [HS.out]; rfl), bthen al1 hb3⟩
  · have HSH := Lib.hid hs
    have hl := shape_len hs
    obtain ⟨g, C', e, hg⟩ := HV.out.formS (by omega)
    obtain ⟨rfl, rfl⟩ : A = some ⟨g, 0, none⟩ ∧ C = C' := by simpa using e
    clear hs e
    go_enter Tryd.func41, Tryd.ntmps41
    go_wp2_with fail
    refine (S_validShape _ p lo _ ⟨_, rfl, HV.out.keep al1⟩).mono ?_
    rintro e w3 ⟨rfl, hb3⟩
    rw [HSH.out]
    have hB3 := bthen (al1 (w := w)) hb3
    have cb3 := boxAt1 hb3
    have kn := knd (w := w) (W3 := w3) w3.heap.size rfl cb3 (World.block_lt_of_cell? _ _ cb3) (HV.out.keep hB3) hB3
    have KN := Lib.hid kn
    clear kn hb3 hB3 cb3
    go_wp2
    go_loopw [3] (fun i wr => ∃ k : Nat, 0 < k ∧ k ≤ p.length ∧ i = .int .i64 k ∧ (∀ b : Nat, 0 < b → b < k → ∀ x : Nat, x < 8 → declOk p b x = true) ∧ Below w3.heap.size w3 wr) (fun i _ => p.length - (intOf i).toNat)
    case atStart => exact ⟨1, by omega, by omega, rfl, fun b h0 h1 => absurd h1 (by omega), Below.refl _ _⟩
    case round =>
      obtain ⟨k, hk1, hk, rfl, hq, hB⟩ := hrel
      have HP := Lib.hid hq
      obtain ⟨cb, hvr, hBw, hsz⟩ := KN.out wr hB
      have HVR := Lib.hid hvr
      clear hq hvr
      by_cases hlt : k < p.length
      · go_wp2_with fail
        refine (S_declared _ p lo k 9 _ ⟨_, rfl, HVR.out⟩ (by omega) (by omega) (by omega) (Nat.le_trans (shape_body HSH.out k (by omega) (by omega)) (by omega))).mono ?_
        rintro e w4 ⟨v4, rfl, hi4, hb4⟩
        have hB4 := hB.trans (hb4.mono hsz)
        obtain ⟨cb4, hvr4, hBw4, hsz4⟩ := KN.out w4 hB4
        clear cb hBw hb4
        go_wp2_with fail
        refine (S_declared _ p lo k 10 _ ⟨_, rfl, hvr4⟩ (by omega) (by omega) (by omega) (Nat.le_trans (shape_body HSH.out k (by omega) (by omega)) (by omega))).mono ?_
        rintro e w5 ⟨v5, rfl, hi5, hb5⟩
        have hB5 := hB4.trans (hb5.mono hsz4)
        have HI4 := Lib.hid (hi4.keep hb5)
        have HI5 := Lib.hid hi5
        have hz5 : w3.heap.size ≤ w5.heap.size := hB5.size
        have HB5 := Lib.hid hB5
        clear cb4 hBw4 hb5 hi4 hi5 hvr4 hB5
        go_wp2
        go_loopw [6] (fun i wi => ∃ m : Nat, m ≤ 8 ∧ i = .int .i64 m ∧ (∀ x : Nat, x < m → declOk p k x = true) ∧ Below w5.heap.size w5 wi) (fun i _ => 8 - (intOf i).toNat)
        case atStart => exact ⟨0, Nat.zero_le _, rfl, fun x hx => absurd hx (Nat.not_lt_zero _), Below.refl _ _⟩
        case round =>
          rename_i wo
          obtain ⟨m, hm, rfl, hq, hBi⟩ := hrel
          have HQ := Lib.hid hq
          have hBi3 := HB5.out.trans (hBi.mono hz5)
          obtain ⟨cbi, hvi, hBw, hsi⟩ := KN.out _ hBi3
          have hzi : w5.heap.size ≤ _ := hBi.size
          have HVI := Lib.hid hvi
          clear hq hvi
          by_cases hml : m < 8
          · have hmle : (m : Int) ≤ 7 := by omega
            obtain ⟨hgr, A2, A3, C2, C3, c0, c1, c2, c3, hps, hbs⟩ := Prog.atn HVI.out k hlt
            have HPS := Lib.hid hps
            have hok : declOk p k m = !(((p.bk k).declB 9 m && ((p.bk k).declB 10 m || (p.bk k).params.contains (m : Int))) || ((p.bk k).declB 10 m && ((p.bk k).params.contains (m : Int) || decide (outerF p k m < 0)))) := rfl
            have hgF : hasF (declF p k 9) m = (p.bk k).declB 9 m := hasF_nms _ _ (by omega) hmle
            have hnF : hasF (declF p k 10) m = (p.bk k).declB 10 m := hasF_nms _ _ (by omega) hmle
            have hpF : hasF (p.bk k).params m = (p.bk k).params.contains (m : Int) := rfl
            clear c0 c1 c3 hbs hps
            cases hg : (p.bk k).declB 9 m
            · cases hn : (p.bk k).declB 10 m
              · rw [hg] at hok hgF
                have HG := Lib.hid hgF
                rw [hn] at hok hnF
                have HN := Lib.hid hnF
                have HOK := Lib.hid hok
                clear hok hgF hnF hpF hg hn
                go_wp2_with fail
                refine (S_has v4 _ _ _ _ (HI4.out.keep hBi)).mono ?_
                rintro e w' ⟨rfl, rfl⟩
                rw [HG.out]
                go_wp2_with fail
                refine (S_has v5 _ _ _ _ (HI5.out.keep hBi)).mono ?_
                rintro e w' ⟨rfl, rfl⟩
                rw [HN.out]
                go_wp2
                go_roundw
                case rel => exact ⟨m + 1, by omega, by go_num, fun y hy => by
                  rcases Nat.lt_succ_iff_lt_or_eq.1 hy with h | rfl
                  · exact HQ.out y h
                  · rw [HOK.out]; rfl, hBi⟩
                case measure => simp [intOf]; omega
              · cases hpa : (p.bk k).params.contains m
                · cases ho : decide (outerF p k m < 0)
                  · rw [hg] at hok hgF
                    have HG := Lib.hid hgF
                    rw [hn] at hok hnF
                    have HN := Lib.hid hnF
                    rw [hpa] at hok hpF
                    have HPA := Lib.hid hpF
                    rw [ho] at hok
                    obtain ⟨ov, hov⟩ : ∃ ov : Int, outerF p k m = ov := ⟨_, rfl⟩
                    rw [hov] at ho
                    have hoi : 0 ≤ ov := by have := of_decide_eq_false ho; omega
                    have HOV := Lib.hid hov
                    have HOK := Lib.hid hok
                    clear hok hgF hnF hpF hg hn hpa ho hov
                    go_wp2_with fail
                    refine (S_has v4 _ _ _ _ (HI4.out.keep hBi)).mono ?_
                    rintro e w' ⟨rfl, rfl⟩
                    rw [HG.out]
                    go_wp2_with fail
                    refine (S_has v5 _ _ _ _ (HI5.out.keep hBi)).mono ?_
                    rintro e w' ⟨rfl, rfl⟩
                    rw [HN.out]
                    go_wp2_with fail
                    refine (S_has _ _ _ _ _ HPS.out).mono ?_
                    rintro e w' ⟨rfl, rfl⟩
                    rw [HPA.out]
                    go_wp2_with fail
                    refine (S_outer _ p lo k m _ HVI.out HSH.out (by omega) (by omega) (by omega) (by omega)).mono ?_
                    rintro e w6 ⟨rfl, hb6⟩
                    rw [HOV.out]
                    go_wp2
                    go_roundw
                    case rel => exact ⟨m + 1, by omega, by go_num, fun y hy => by
                      rcases Nat.lt_succ_iff_lt_or_eq.1 hy with h | rfl
                      · exact HQ.out y h
                      · rw [HOK.out]; rfl, hBi.trans (hb6.mono hzi)⟩
                    case measure => simp [intOf]; omega
                  · rw [hg] at hok hgF
                    have HG := Lib.hid hgF
                    rw [hn] at hok hnF
                    have HN := Lib.hid hnF
                    rw [hpa] at hok hpF
                    have HPA := Lib.hid hpF
                    rw [ho] at hok
                    obtain ⟨ov, hov⟩ : ∃ ov : Int, outerF p k m = ov := ⟨_, rfl⟩
                    rw [hov] at ho
                    have hoi : ov < 0 := of_decide_eq_true ho
                    have HOV := Lib.hid hov
                    have HOK := Lib.hid hok
                    clear hok hgF hnF hpF hg hn hpa ho hov
                    go_wp2_with fail
                    refine (S_has v4 _ _ _ _ (HI4.out.keep hBi)).mono ?_
                    rintro e w' ⟨rfl, rfl⟩
                    rw [HG.out]
                    go_wp2_with fail
                    refine (S_has v5 _ _ _ _ (HI5.out.keep hBi)).mono ?_
                    rintro e w' ⟨rfl, rfl⟩
                    rw [HN.out]
                    go_wp2_with fail
                    refine (S_has _ _ _ _ _ HPS.out).mono ?_
                    rintro e w' ⟨rfl, rfl⟩
                    rw [HPA.out]
                    go_wp2_with fail
                    refine (S_outer _ p lo k m _ HVI.out HSH.out (by omega) (by omega) (by omega) (by omega)).mono ?_
                    rintro e w6 ⟨rfl, hb6⟩
                    rw [HOV.out]
                    go_wp2
                    go_ret
                    exact ⟨ret_bool (by rw [← HR.out, validP_no hk1 hlt hml (by rw [HOK.out]; rfl)]), bthen hBw hb6⟩
                · rw [hg] at hok hgF
                  have HG := Lib.hid hgF
                  rw [hn] at hok hnF
                  have HN := Lib.hid hnF
                  rw [hpa] at hok hpF
                  have HPA := Lib.hid hpF
                  have HOK := Lib.hid hok
                  clear hok hgF hnF hpF hg hn hpa
                  go_wp2_with fail
                  refine (S_has v4 _ _ _ _ (HI4.out.keep hBi)).mono ?_
                  rintro e w' ⟨rfl, rfl⟩
                  rw [HG.out]
                  go_wp2_with fail
                  refine (S_has v5 _ _ _ _ (HI5.out.keep hBi)).mono ?_
                  rintro e w' ⟨rfl, rfl⟩
                  rw [HN.out]
                  go_wp2_with fail
                  refine (S_has _ _ _ _ _ HPS.out).mono ?_
                  rintro e w' ⟨rfl, rfl⟩
                  rw [HPA.out]
                  go_wp2
                  go_ret
                  exact ⟨ret_bool (by rw [← HR.out, validP_no hk1 hlt hml (by rw [HOK.out]; rfl)]), hBw⟩
            · cases hn : (p.bk k).declB 10 m
              · cases hpa : (p.bk k).params.contains m
                · rw [hg] at hok hgF
                  have HG := Lib.hid hgF
                  rw [hn] at hok hnF
                  have HN := Lib.hid hnF
                  rw [hpa] at hok hpF
                  have HPA := Lib.hid hpF
                  have HOK := Lib.hid hok
                  clear hok hgF hnF hpF hg hn hpa
                  go_wp2_with fail
                  refine (S_has v4 _ _ _ _ (HI4.out.keep hBi)).mono ?_
                  rintro e w' ⟨rfl, rfl⟩
                  rw [HG.out]
                  go_wp2_with fail
                  refine (S_has v5 _ _ _ _ (HI5.out.keep hBi)).mono ?_
                  rintro e w' ⟨rfl, rfl⟩
                  rw [HN.out]
                  go_wp2_with fail
                  refine (S_has _ _ _ _ _ HPS.out).mono ?_
                  rintro e w' ⟨rfl, rfl⟩
                  rw [HPA.out]
                  go_wp2_with fail
                  refine (S_has v5 _ _ _ _ (HI5.out.keep hBi)).mono ?_
                  rintro e w' ⟨rfl, rfl⟩
                  rw [HN.out]
                  go_wp2
                  go_roundw
                  case rel => exact ⟨m + 1, by omega, by go_num, fun y hy => by
                    rcases Nat.lt_succ_iff_lt_or_eq.1 hy with h | rfl
                    · exact HQ.out y h
                    · rw [HOK.out]; rfl, hBi⟩
                  case measure => simp [intOf]; omega
                · rw [hg] at hok hgF
                  have HG := Lib.hid hgF
                  rw [hn] at hok hnF
                  have HN := Lib.hid hnF
                  rw [hpa] at hok hpF
                  have HPA := Lib.hid hpF
                  have HOK := Lib.hid hok
                  clear hok hgF hnF hpF hg hn hpa
                  go_wp2_with fail
                  refine (S_has v4 _ _ _ _ (HI4.out.keep hBi)).mono ?_
                  rintro e w' ⟨rfl, rfl⟩
                  rw [HG.out]
                  go_wp2_with fail
                  refine (S_has v5 _ _ _ _ (HI5.out.keep hBi)).mono ?_
                  rintro e w' ⟨rfl, rfl⟩
                  rw [HN.out]
                  go_wp2_with fail
                  refine (S_has _ _ _ _ _ HPS.out).mono ?_
                  rintro e w' ⟨rfl, rfl⟩
                  rw [HPA.out]
                  go_wp2
                  go_ret
                  exact ⟨ret_bool (by rw [← HR.out, validP_no hk1 hlt hml (by rw [HOK.out]; rfl)]), hBw⟩
              · rw [hg] at hok hgF
                have HG := Lib.hid hgF
                rw [hn] at hok hnF
                have HN := Lib.hid hnF
                have HOK := Lib.hid hok
                clear hok hgF hnF hpF hg hn
                go_wp2_with fail
                refine (S_has v4 _ _ _ _ (HI4.out.keep hBi)).mono ?_
                rintro e w' ⟨rfl, rfl⟩
                rw [HG.out]
                go_wp2_with fail
                refine (S_has v5 _ _ _ _ (HI5.out.keep hBi)).mono ?_
                rintro e w' ⟨rfl, rfl⟩
                rw [HN.out]
                go_wp2
                go_ret
                exact ⟨ret_bool (by rw [← HR.out, validP_no hk1 hlt hml (by rw [HOK.out]; rfl)]), hBw⟩
          · obtain rfl : m = 8 := by omega
            go_wp2
            go_roundw
            case rel => exact ⟨k + 1, by omega, by omega, by go_num, fun b h0 h1 => by
              rcases Nat.lt_succ_iff_lt_or_eq.1 h1 with h | rfl
              · exact HP.out b h0 h
              · exact HQ.out, hBi3⟩
            case measure => simp [intOf]; omega
      · obtain rfl : k = p.length := by omega
        go_wp2
        go_ret
        exact ⟨ret_bool (by rw [← HR.out, validP_yes HSH.out HP.out]), hBw⟩

end Go.Proofs.YtpajkejdfalkiaaDoor
