/-
  Walks: the reference's validShape and validAt, and ValidShape. Condition: the argument reads as a program.
-/
import Derived.Test.YtpajkejdfalkiaaDoorSpec2
import Derived.Test.YtpajkejdfalkiaaDoorPlain3
namespace Go.Proofs.YtpajkejdfalkiaaDoor
open Go.RowKit

/-- What the walk knows of block b of a program whose rows it has seen. -/
theorem Prog.atg {w : World} {lo n C g : Nat} {p : Pr} (h : Blks w lo (.slice (some ⟨g, 0, none⟩) n C) p) (b : Int) (h0 : 0 ≤ b) (h1 : b < p.length) :
    g < w.heap.size ∧ ∃ (A2 A3 : Option Addr) (C2 C3 : Nat), w.cell? ⟨g, b.toNat * 4, none⟩ = some (.int .i64 (p.bk b).kind) ∧ w.cell? ⟨g, b.toNat * 4 + 1, none⟩ = some (.int .i64 (p.bk b).parent) ∧
      w.cell? ⟨g, b.toNat * 4 + 2, none⟩ = some (.slice A2 (p.bk b).params.length C2) ∧ w.cell? ⟨g, b.toNat * 4 + 3, none⟩ = some (.slice A3 (p.bk b).body.length C3) ∧
      Ints w lo (.slice A2 (p.bk b).params.length C2) (p.bk b).params ∧ Stmts w lo (.slice A3 (p.bk b).body.length C3) (p.bk b).body := by
  obtain ⟨C', g', A2, A3, C2, C3, e, hg, c0, c1, c2, c3, hp, hb⟩ := Prog.at_ h b h0 h1
  obtain ⟨rfl, _, _⟩ : g = g' ∧ n = p.length ∧ C = C' := by simpa using e
  exact ⟨hg, A2, A3, C2, C3, c0, c1, c2, c3, hp, hb⟩

/-- The same at a place that is counted. -/
theorem Prog.atn {w : World} {lo n C g : Nat} {p : Pr} (h : Blks w lo (.slice (some ⟨g, 0, none⟩) n C) p) (k : Nat) (h1 : k < p.length) :
    g < w.heap.size ∧ ∃ (A2 A3 : Option Addr) (C2 C3 : Nat), w.cell? ⟨g, k * 4, none⟩ = some (.int .i64 (p.bk k).kind) ∧ w.cell? ⟨g, k * 4 + 1, none⟩ = some (.int .i64 (p.bk k).parent) ∧
      w.cell? ⟨g, k * 4 + 2, none⟩ = some (.slice A2 (p.bk k).params.length C2) ∧ w.cell? ⟨g, k * 4 + 3, none⟩ = some (.slice A3 (p.bk k).body.length C3) ∧
      Ints w lo (.slice A2 (p.bk k).params.length C2) (p.bk k).params ∧ Stmts w lo (.slice A3 (p.bk k).body.length C3) (p.bk k).body := by
  have := Prog.atg h k (by omega) (by omega)
  simpa only [Int.toNat_natCast] using this

theorem shape_yes {p : Pr} (h0 : inR p.length 1 7 = true) (h1 : ∀ j : Nat, j < p.length → blockS p j = true) (h2 : ∀ j : Nat, 0 < j → j < p.length → madeIn p j = 1) : shape p = true := by
  unfold shape
  rw [h0, Bool.true_and, Bool.and_eq_true, List.all_eq_true, List.all_eq_true]
  refine ⟨fun i hi => h1 i (by simpa using hi), fun i hi => ?_⟩
  rcases Nat.eq_zero_or_pos i with e | e
  · simp [e]
  · simp [h2 i e (by simpa using hi)]
theorem shape_no1 {p : Pr} {j : Nat} (hj : j < p.length) (h : blockS p j = false) : shape p = false := by
  rw [Bool.eq_false_iff]
  intro hs
  unfold shape at hs
  rw [Bool.and_eq_true, Bool.and_eq_true, List.all_eq_true] at hs
  have := hs.2.1 j (by simpa using hj)
  rw [h] at this
  cases this
theorem shape_no2 {p : Pr} {j : Nat} (hj : j < p.length) (h0 : 0 < j) (h : madeIn p j ≠ 1) : shape p = false := by
  rw [Bool.eq_false_iff]
  intro hs
  unfold shape at hs
  rw [Bool.and_eq_true, Bool.and_eq_true, List.all_eq_true, List.all_eq_true] at hs
  have := hs.2.2 j (by simpa using hj)
  simp at this
  omega
theorem blockS_no {p : Pr} {b : Int} {j : Nat} (hj : j < (p.bk b).body.length) (h : stmtS p b ((p.bk b).body.getD j default) = false) : blockS p b = false := by
  rw [Bool.eq_false_iff]
  intro hs
  unfold blockS at hs
  rw [Bool.and_eq_true, Bool.and_eq_true, List.all_eq_true] at hs
  have := hs.2.2 _ (List.getElem_mem hj)
  rw [show (p.bk b).body[j] = (p.bk b).body.getD j default by simp [List.getD, hj], h] at this
  cases this
theorem blockS_yes {p : Pr} {b : Int} (h0 : headOk b (p.bk b) = true) (h1 : (p.bk b).body.length ≤ 12) (h2 : ∀ j, j < (p.bk b).body.length → stmtS p b ((p.bk b).body.getD j default) = true) : blockS p b = true := by
  unfold blockS
  rw [h0, decide_eq_true h1, Bool.true_and, Bool.true_and, List.all_eq_true]
  intro x hx
  obtain ⟨j, hj, rfl⟩ := List.getElem_of_mem hx
  have := h2 j hj
  rwa [show (p.bk b).body.getD j default = (p.bk b).body[j] by simp [List.getD, hj]] at this

set_option maxRecDepth 100000 in
set_option maxHeartbeats 2000000 in
theorem S_validShape (v : Value) (p : Pr) (lo : Nat) (w : World) (hv : Prog w lo v p) :
    Calls Tryd.prog 69 #[v] w fun e w' => e = .returned (.bool (shape p)) ∧ Below w.heap.size w w' := by
  obtain ⟨sl, rfl, hv⟩ := hv
  by_cases hlen : inR p.length 1 7 = true
  · have hr := inR_iff.1 hlen
    have HLEN := Lib.hid hlen
    obtain ⟨C, g, _, _, _, _, rfl, hg, _⟩ := Prog.at_ hv 0 (by omega) (by omega)
    have hl7 : p.length ≤ 7 := by omega
    have hl1 : 1 ≤ p.length := by omega
    have kn : ∀ W, Below (w.heap.size + 1) (w.alloc (.cells #[.slice (some ⟨g, 0, none⟩) p.length C] 35)) W → W.cell? ⟨w.heap.size, 0, none⟩ = some (.slice (some ⟨g, 0, none⟩) p.length C) ∧ Blks W lo (.slice (some ⟨g, 0, none⟩) p.length C) p ∧ Below w.heap.size w W ∧ w.heap.size + 1 ≤ W.heap.size := fun W hB => by
      have hBw : Below w.heap.size w W := al1.trans (hB.mono (Nat.le_succ _))
      refine ⟨?_, hv.keep hBw, hBw, by have := hB.size; simpa using this⟩
      rw [hB.cell (p := ⟨w.heap.size, 0, none⟩) (Nat.lt_succ_self _)]
      simp [go_sem]
    have KN := Lib.hid kn
    generalize hR : shape p = R
    have HR := Lib.hid hR
    clear hr hlen hv hR kn
    go_enter Tryd.func69, Tryd.ntmps69
    go_wp2_with (go_at_call 99; refine (S_inRange _ _ _ _).mono ?_; rintro e w' ⟨rfl, rfl⟩; rw [HLEN.out])
    go_loopw [3] (fun i wr => ∃ k : Nat, k ≤ p.length ∧ i = .int .i64 k ∧ (∀ j : Nat, j < k → blockS p j = true) ∧ Below (w.heap.size + 1) (w.alloc (.cells #[.slice (some ⟨g, 0, none⟩) p.length C] 35)) wr) (fun i _ => p.length - (intOf i).toNat)
    case atStart => exact ⟨0, Nat.zero_le _, rfl, fun j hj => absurd hj (Nat.not_lt_zero _), Below.refl _ _⟩
    case round =>
      obtain ⟨k, hk, rfl, hp, hB⟩ := hrel
      have HP := Lib.hid hp
      obtain ⟨cb, hvr, hBw, hsz⟩ := KN.out wr hB
      have HVR := Lib.hid hvr
      clear hp hvr
      by_cases hlt : k < p.length
      · by_cases hh : headOk k (p.bk k) = true
        · have HH := Lib.hid hh
          clear hh
          go_wp2_with fail
          refine (S_validBlock _ p lo k _ HVR.out (by omega) (by omega) (by omega)).mono ?_
          rintro e w3 ⟨rfl, hb3⟩
          rw [HH.out]
          have hB3 := hB.trans (hb3.mono hsz)
          obtain ⟨cb3, hv3, hBw3, hsz3⟩ := KN.out w3 hB3
          obtain ⟨hg3, A2, A3, C2, C3, c0, c1, c2, c3, hps, hbs⟩ := Prog.atn hv3 k (by omega)
          clear hps hbs hv3 cb hb3
          by_cases hbl : (p.bk k).body.length ≤ 12
          · go_wp2
            go_loopw [4] (fun i wi => ∃ m : Nat, m ≤ (p.bk k).body.length ∧ i = .int .i64 m ∧ (∀ j : Nat, j < m → stmtS p k ((p.bk k).body.getD j default) = true) ∧ Below (w.heap.size + 1) (w.alloc (.cells #[.slice (some ⟨g, 0, none⟩) p.length C] 35)) wi) (fun i _ => (p.bk k).body.length - (intOf i).toNat)
            case atStart => exact ⟨0, Nat.zero_le _, rfl, fun j hj => absurd hj (Nat.not_lt_zero _), hB3⟩
            case round =>
              rename_i wr0
              clear cb3 c0 c1 c2 c3
              obtain ⟨m, hm, rfl, hq, hBi⟩ := hrel
              have HQ := Lib.hid hq
              clear hq
              obtain ⟨cbi, hvi, hBwi, hszi⟩ := KN.out wr hBi
              obtain ⟨hgi, A2, A3, C2, C3, c0, c1, c2, c3, hps, hbs⟩ := Prog.atn hvi k (by omega)
              have HVI := Lib.hid hvi
              clear hvi hps
              by_cases hml : m < (p.bk k).body.length
              · obtain ⟨A4, C4, r, e4, hn4, hC4, hA4, hr4, hcell4, _⟩ := hbs.rd
                rw [e4] at c3
                clear e4 hbs c0 c1 c2
                obtain ⟨d0, d1, d2, d3⟩ := hcell4 m hml
                obtain rfl := hA4 (by omega)
                have hi1 : (m : Int) < ((p.bk k).body.length : Int) := by omega
                have hi2 : (k : Int) < (p.length : Int) := by omega
                clear hA4 hr4 hcell4 hn4
                unfold maxLen at hC4
                generalize hx : (p.bk k).body.getD m default = x at d0 d1 d2 d3
                have HX := Lib.hid hx
                clear hx
                go_wp2
                go_still_tail 11, (by kernel_rfl)
                change wpList _ _ _ _ _ wr.drew
                have hBd := hBi.drew
                clear d0 d1 d2 d3 cbi HVI hBwi hszi hBi
                generalize wr.drew = w2 at hBd
                obtain ⟨_, hv2, hBw2, hsz2⟩ := KN.out w2 hBd
                have HV2 := Lib.hid hv2
                clear hv2
                by_cases hst : stmtS p k x = true
                · have HS := Lib.hid hst
                  clear hst
                  go_wp2_with (go_at_call 101; refine (S_validStmt _ p lo k x _ HV2.out (by omega) (by omega) (by omega)).mono ?_; rintro e w5 ⟨rfl, hb5⟩; rw [HS.out])
                  go_roundw
                  case rel => exact ⟨m + 1, by omega, by go_num, fun j hj => by
                    rcases Nat.lt_succ_iff_lt_or_eq.1 hj with h | rfl
                    · exact HQ.out j h
                    · rw [HX.out]; exact HS.out, hBd.trans (hb5.mono hsz2)⟩
                  case measure => simp [intOf]; omega
                · have HS := Lib.hid (Bool.eq_false_iff.2 hst)
                  clear hst
                  go_wp2_with (go_at_call 101; refine (S_validStmt _ p lo k x _ HV2.out (by omega) (by omega) (by omega)).mono ?_; rintro e w5 ⟨rfl, hb5⟩; rw [HS.out])
                  go_ret
                  exact ⟨ret_bool (by rw [← HR.out, shape_no1 hlt (blockS_no hml (by rw [HX.out]; exact HS.out))]), bthen hBw2 hb5⟩
              · go_wp2
                go_roundw
                case rel => exact ⟨k + 1, by omega, by go_num, fun j hj => by
                  rcases Nat.lt_succ_iff_lt_or_eq.1 hj with h | rfl
                  · exact HP.out j h
                  · exact blockS_yes HH.out hbl (fun j hj => HQ.out j (by omega)), hBi⟩
                case measure => simp [intOf]; omega
          · go_wp2
            go_ret
            refine ⟨ret_bool ?_, hBw3⟩
            rw [← HR.out, shape_no1 hlt]
            unfold blockS
            rw [decide_eq_false hbl]
            simp
        · have HH := Lib.hid (Bool.eq_false_iff.2 hh)
          clear hh
          go_wp2_with fail
          refine (S_validBlock _ p lo k _ HVR.out (by omega) (by omega) (by omega)).mono ?_
          rintro e w3 ⟨rfl, hb3⟩
          rw [HH.out]
          go_wp2
          go_ret
          refine ⟨ret_bool ?_, bthen hBw hb3⟩
          rw [← HR.out, shape_no1 hlt]
          unfold blockS
          rw [HH.out]
          rfl
      · obtain rfl : k = p.length := by omega
        go_wp2
        go_loopw [5] (fun i wi => ∃ m : Nat, 1 ≤ m ∧ m ≤ p.length ∧ i = .int .i64 m ∧ (∀ j : Nat, 0 < j → j < m → madeIn p j = 1) ∧ Below (w.heap.size + 1) (w.alloc (.cells #[.slice (some ⟨g, 0, none⟩) p.length C] 35)) wi) (fun i _ => p.length - (intOf i).toNat)
        case atStart => exact ⟨1, by omega, by omega, rfl, fun j h0 hj => absurd hj (by omega), hB⟩
        case round =>
          clear cb
          obtain ⟨m, hm1, hm, rfl, hq, hBi⟩ := hrel
          have HQ := Lib.hid hq
          clear hq
          obtain ⟨cbi, hvi, hBwi, hszi⟩ := KN.out _ hBi
          have HVI := Lib.hid hvi
          clear hvi
          by_cases hml : m < p.length
          · have hbs := HP.out m hml
            unfold blockS at hbs
            rw [Bool.and_eq_true, Bool.and_eq_true, decide_eq_true_iff] at hbs
            have hhead := hbs.1
            unfold headOk at hhead
            rw [if_neg (by omega), Bool.and_eq_true, inR_iff] at hhead
            have hp0 := hhead.1.1
            have hp1 := hhead.1.2
            have hpl : (p.bk (p.bk m).parent).body.length ≤ 12 := by
              have h2 := HP.out (p.bk m).parent.toNat (by omega)
              unfold blockS at h2
              rw [Bool.and_eq_true, Bool.and_eq_true, decide_eq_true_iff, Int.toNat_of_nonneg hp0] at h2
              exact h2.2.1
            clear hbs hhead
            by_cases hme : madeIn p m = 1
            · have HM := Lib.hid hme
              clear hme
              go_wp2_with (go_at_call 102; refine (S_madeIn _ p lo m _ HVI.out (by omega) (by omega) hp0 (by omega) (by omega)).mono ?_; rintro e w5 ⟨rfl, hb5⟩; rw [HM.out])
              go_roundw
              case rel => exact ⟨m + 1, by omega, by omega, by go_num, fun j h0 hj => by
                rcases Nat.lt_succ_iff_lt_or_eq.1 hj with h | rfl
                · exact HQ.out j h0 h
                · exact HM.out, hBi.trans (hb5.mono hszi)⟩
              case measure => simp [intOf]; omega
            · have hb1 : ((madeIn p m : Int) != 1) = true := by simp; omega
              go_wp2_with (go_at_call 102; refine (S_madeIn _ p lo m _ HVI.out (by omega) (by omega) hp0 (by omega) (by omega)).mono ?_; rintro e w5 ⟨rfl, hb5⟩)
              go_ret
              exact ⟨ret_bool (by rw [← HR.out, shape_no2 hml (by omega) hme]), bthen hBwi hb5⟩
          · go_wp2
            go_ret
            exact ⟨ret_bool (by rw [← HR.out, shape_yes HLEN.out HP.out (fun j h0 hj => HQ.out j h0 (by omega))]), hBwi⟩
  · have HLEN := Lib.hid (Bool.eq_false_iff.2 hlen)
    obtain ⟨A, C, rfl⟩ := hv.form
    clear hlen
    go_enter Tryd.func69, Tryd.ntmps69
    go_wp2_with (go_at_call 99; refine (S_inRange _ _ _ _).mono ?_; rintro e w' ⟨rfl, rfl⟩; rw [HLEN.out])
    go_ret
    exact ⟨ret_bool (by unfold shape; rw [HLEN.out]; rfl), al1⟩

theorem S_validAt (v : Value) (p : Pr) (lo : Nat) (b : Int) (w : World) (hv : Prog w lo v p) :
    Calls Tryd.prog 72 #[v, .int .i64 b] w fun e w' => e = .returned (.bool (shapeAt p b)) ∧ Below w.heap.size w w' := by
  obtain ⟨sl, rfl, hv⟩ := hv
  obtain ⟨A, C, g, rfl, hn, hC, _⟩ := hv.rd
  unfold maxLen at hC
  have e : shapeAt p b = (shape p && inR b 0 (p.length - 1)) := rfl
  have E := Lib.hid e
  clear e
  by_cases hs : shape p = true
  · have HS := Lib.hid hs
    clear hs
    go_enter Tryd.func72, Tryd.ntmps72
    go_wp2_with (first
      | (go_at_call 69; refine (S_validShape _ p lo _ ⟨_, rfl, hv.keep al1⟩).mono ?_; rintro e w3 ⟨rfl, hb3⟩; rw [HS.out]; obtain ⟨hc3, hf3⟩ := bcell hb3; have hB3 := bthen (al1 (w := w)) hb3)
      | (go_at_call 99; refine (S_inRange _ _ _ _).mono ?_; rintro e w' ⟨rfl, rfl⟩))
    go_ret
    exact ⟨ret_bool (by rw [E.out, HS.out]; rfl), hB3⟩
  · have HS := Lib.hid (Bool.eq_false_iff.2 hs)
    clear hs
    go_enter Tryd.func72, Tryd.ntmps72
    go_wp2_with (go_at_call 69; refine (S_validShape _ p lo _ ⟨_, rfl, hv.keep al1⟩).mono ?_; rintro e w3 ⟨rfl, hb3⟩; rw [HS.out]; have hB3 := bthen (al1 (w := w)) hb3)
    go_ret
    exact ⟨ret_bool (by rw [E.out, HS.out]; rfl), hB3⟩

end Go.Proofs.YtpajkejdfalkiaaDoor
