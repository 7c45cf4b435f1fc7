/-
  Walks: the reference's readOp, ReadCode. Condition: the text is at most 2^20 bytes long.
-/
import Derived.Test.YtpajkejdfalkiaaDoorRcT
namespace Go.Proofs.YtpajkejdfalkiaaDoor
open Go.RowKit
set_option linter.unusedVariables false

theorem splitL_piece (c : UInt8) : ∀ (l x : List UInt8), x ∈ splitL c l → x.length ≤ l.length
  | [], x, h => by simp [splitL] at h; simp [h]
  | b :: r, x, h => by
    have ih := splitL_piece c r
    unfold splitL at h
    split at h
    · rcases List.mem_cons.1 h with rfl | h
      · simp
      · have := ih x h; simp; omega
    · split at h
      · next e => exact absurd e (splitL_ne c r)
      · next a t e =>
        rw [e] at ih
        rcases List.mem_cons.1 h with rfl | h
        · have := ih a (by simp); simp; omega
        · have := ih x (by simp [h]); simp; omega
theorem spl_piece (c : UInt8) (s : ByteArray) (k : Nat) : ((spl c s).getD k default).size ≤ s.size := by
  by_cases h : k < (spl c s).length
  · have e : (spl c s).getD k default = (spl c s)[k] := by simp [List.getD, h]
    have hm : (spl c s).getD k default ∈ spl c s := by rw [e]; exact List.getElem_mem _
    unfold spl at hm
    obtain ⟨l, hl, he⟩ := List.mem_map.1 hm
    rw [show (spl c s).getD k default = (⟨l.toArray⟩ : ByteArray) from he.symm]
    have h1 := splitL_piece c _ l hl
    have h2 : s.data.toList.length = s.size := by rw [Array.length_toList]; rfl
    show l.toArray.size ≤ _
    rw [List.size_toArray]
    omega
  · have e : (spl c s).getD k default = default := by
      unfold List.getD
      rw [List.getElem?_eq_none (by omega)]
      rfl
    rw [e]
    exact Nat.zero_le _
theorem wordL_len : wordL.length = 21 := by decide
theorem wordL_at (k : Nat) (h : k < 21) : wordL.getD k default = opWd k := by simp [wordL, List.getD, h]
theorem lineF_none0 {l : ByteArray} (h : codeF ((spl 32 l).getD 0 default) = -1) : lineF l = none := by
  unfold lineF
  simp only [h]
  rfl
theorem lineF_lone {l : ByteArray} {k : Nat} (h : codeF ((spl 32 l).getD 0 default) = k) (ha : argB k = false) : lineF l = if (spl 32 l).length = 1 then some ((k : Int), 0) else none := by
  unfold lineF
  simp only [h, ha]
  rw [if_neg (by omega), if_neg (by simp)]
theorem lineF_arg {l : ByteArray} {k : Nat} (h : codeF ((spl 32 l).getD 0 default) = k) (ha : argB k = true) : lineF l = if (spl 32 l).length = 2 ∧ numF ((spl 32 l).getD 1 default) ≠ -1 then some ((k : Int), numF ((spl 32 l).getD 1 default)) else none := by
  unfold lineF
  simp only [h, ha]
  rw [if_neg (by omega), if_pos trivial]
theorem Strs.cell {w : World} {lo g n C : Nat} {l : List ByteArray} (h : Strs w lo (.slice (some ⟨g, 0, none⟩) n C) l) (j : Nat) (hj : j < l.length) : w.cell? ⟨g, j, none⟩ = some (.string (l.getD j default)) := by
  obtain ⟨A, C', g', hv, _, _, hA, _, hc⟩ := h.rd
  have e := hA (by omega)
  subst e
  injection hv with e1 _ _
  injection e1 with e1
  injection e1 with e1
  subst e1
  exact hc j hj
theorem S_splitAt' (s : ByteArray) (c : UInt8) (ci : Int) (w : World) (hc : ci = c.toNat) (hs : s.size ≤ 1048576) :
    Calls Tryd.prog 36 #[.string s, .int .u8 ci] w fun e w' => ∃ v', e = .returned v' ∧ Strs w' w.heap.size v' (spl c s) ∧ Below w.heap.size w w' := by
  subst hc
  exact S_splitAt s c w hs

set_option maxRecDepth 100000 in
set_option maxHeartbeats 2000000 in
theorem S_readOp (l : ByteArray) (w : World) (hs : l.size ≤ 1048576) :
    Calls Tryd.prog 37 #[.string l] w fun e w' => ∃ (c a : Int) (ok : Bool), e = .returned (.tuple #[.agg #[.int .i64 c, .int .i64 a], .bool ok]) ∧ (ok = true → lineF l = some (c, a)) ∧ (ok = false → lineF l = none) ∧ Below w.heap.size w w' := by
  have d0 : ∀ (w' : World), Below (w.alloc (.cells #[.int .i64 0, .int .i64 0] 24)).heap.size (w.alloc (.cells #[.int .i64 0, .int .i64 0] 24)) w' → w'.cell? ⟨w.heap.size, 0, none⟩ = some (.int .i64 0) ∧ w'.cell? ⟨w.heap.size, 1, none⟩ = some (.int .i64 0) ∧ w'.frozen? ⟨w.heap.size, 0, none⟩ = false ∧ w'.frozen? ⟨w.heap.size, 1, none⟩ = false ∧ w.heap.size < w'.heap.size := fun w' hb => ⟨cell_later hb (by simp [go_sem]), cell_later hb (by simp [go_sem]), ((bcell hb).2 _ _ (by simp)).trans (by simp [go_sem]), ((bcell hb).2 _ _ (by simp)).trans (by simp [go_sem]), by have := hb.size; simp only [World.size_alloc] at this; omega⟩
  have D0 := Lib.hid d0
  clear d0
  go_enter Tryd.func37, Tryd.ntmps37
  go_wp2_with fail
  refine (S_splitAt' l 32 32 _ rfl hs).mono ?_
  rintro e w1 ⟨v1, rfl, h1, hb1⟩
  go_wp2_with fail
  refine (S_opWords _).mono ?_
  rintro e w2 ⟨v2, rfl, h2, hb2⟩
  have h1 := h1.keep hb2
  have hall := bthen hb1 hb2
  have hB2 := bthen (al1 (w := w)) hall
  obtain ⟨hl1, hl2⟩ := spl_len 32 l
  obtain ⟨ws, hws⟩ : ∃ ws : List ByteArray, ws = spl 32 l := ⟨_, rfl⟩
  rw [← hws] at h1 hl1 hl2
  have HWS := Lib.hid hws
  obtain ⟨A1, C1, g1, rfl, hn1, hc1, hA1, hg1, hcell1⟩ := h1.rd
  obtain ⟨A2, C2, g2, rfl, hn2, hc2, hA2, hg2, hcell2⟩ := h2.rd
  obtain rfl := hA1 (by omega)
  rw [wordL_len] at hn2 hA2 hg2 hcell2 ⊢
  obtain rfl := hA2 (by omega)
  have hgl1 := (hg1 (by omega)).2
  have hgl2 := (hg2 (by omega)).2
  have HC1 := Lib.hid hcell1
  have HC2 := Lib.hid hcell2
  have HALL := Lib.hid hall
  have HB2 := Lib.hid hB2
  unfold maxLen at hc1 hc2
  obtain ⟨w0, hw0⟩ : ∃ w0 : ByteArray, w0 = ws.getD 0 default := ⟨_, rfl⟩
  have e1 := hcell1 0 (by omega)
  rw [← hw0] at e1
  have HW0 := Lib.hid hw0
  have hwl1 : (0 : Int) < (ws.length : Int) := by omega
  clear h1 h2 hb1 hb2 hall hB2 hws hA1 hA2 hg1 hg2 hcell1 hcell2 hw0
  go_wp2
  go_loopw [6] (fun i wr => ∃ k : Nat, k ≤ 21 ∧ i = .int .i64 k ∧ ((∀ j, j < k → wdEq w0 j = false) ∨ (∃ j, j < k ∧ wdEq w0 j = true ∧ lineF l = none)) ∧ Below w2.heap.size w2 wr) (fun i _ => 21 - (intOf i).toNat)
  case atStart => exact ⟨0, Nat.zero_le _, rfl, .inl (fun j hj => absurd hj (Nat.not_lt_zero _)), Below.refl _ _⟩
  case round =>
    obtain ⟨k, hk, rfl, hp, hB⟩ := hrel
    have HP := Lib.hid hp
    have e1 := cell_later hB e1
    have hBall := bthen HALL.out hB
    obtain ⟨q0, q1, u0, u1, z0⟩ := D0.out _ hBall
    have HBB := Lib.hid (bthen HB2.out hB)
    have HBR := Lib.hid hB
    have hgw1 := World.block_lt_of_cell? _ _ e1
    simp only at hgw1
    clear hp hBall hB
    by_cases hlt : k < 21
    · have e2 := cell_later HBR.out (HC2.out k hlt)
      rw [wordL_at k hlt] at e2
      have hgw2 := World.block_lt_of_cell? _ _ e2
      simp only at hgw2
      have hx : ((opWd k).toList == w0.toList) = wdEq w0 k := rfl
      generalize opWd k = X at e2 hx
      have hk0 : (0 : Int) ≤ (k : Int) := by omega
      have hk1 : (k : Int) < 21 := by omega
      cases hq : wdEq w0 k
      · rw [hq] at hx
        have HQ := Lib.hid hq
        clear hq
        go_wp2
        go_quiet (fail)
        go_wp2
        go_roundw
        case rel =>
          refine ⟨k + 1, by omega, by go_num, ?_, below_drewN HBR.out _⟩
          rcases HP.out with h | ⟨j, h3, h4, h5⟩
          · left
            intro j hj
            rcases Nat.lt_succ_iff_lt_or_eq.1 hj with h3 | rfl
            · exact h j h3
            · exact HQ.out
          · exact .inr ⟨j, by omega, h4, h5⟩
        case measure => simp [intOf]; omega
      · rw [hq] at hx
        have HQ := Lib.hid hq
        have hcode : codeF ((spl 32 l).getD 0 default) = k := by
          rw [← HWS.out, ← HW0.out]
          refine codeF_first hq hlt fun j hj => ?_
          cases hj2 : wdEq w0 j
          · rfl
          · exact absurd (wd_only hq hj2 hlt (by omega)) (by omega)
        have HCODE := Lib.hid hcode
        clear hq hcode
        cases ha : argB k
        · have HA := Lib.hid ha
          have hlf := lineF_lone HCODE.out ha
          rw [← HWS.out] at hlf
          have HLF := Lib.hid hlf
          clear ha hlf
          go_wp2
          go_quiet (fail)
          go_wp2_with fail
          refine (S_lone k _).mono ?_
          rintro e w' ⟨rfl, rfl⟩
          rw [HA.out]
          by_cases h1 : ws.length = 1
          · have hb1 : ((ws.length : Int) == 1) = true := by rw [h1]; rfl
            have H1 := Lib.hid h1
            clear h1
            go_wp2
            exact bodyPost_ret (v := .tuple #[.agg #[.int .i64 k, .int .i64 0], .bool true]) (by simp [results, Tryd.results37, go_sem, q0, q1]) rfl
              ⟨k, 0, true, rfl, fun _ => by rw [HLF.out, if_pos H1.out], fun h => Bool.noConfusion h, ((below_drewN HBB.out _).setCell (Nat.le_refl _) _).setCell (Nat.le_refl _) _⟩
          · have hb1 : ((ws.length : Int) == 1) = false := by rw [beq_eq_false_iff_ne]; omega
            have H1 := Lib.hid h1
            clear h1
            go_wp2
            exact bodyPost_ret (v := .tuple #[.agg #[.int .i64 k, .int .i64 0], .bool false]) (by simp [results, Tryd.results37, go_sem, q0, q1]) rfl
              ⟨k, 0, false, rfl, fun h => Bool.noConfusion h, fun _ => by rw [HLF.out, if_neg H1.out], ((below_drewN HBB.out _).setCell (Nat.le_refl _) _).setCell (Nat.le_refl _) _⟩
        · have HA := Lib.hid ha
          have hlf := lineF_arg HCODE.out ha
          rw [← HWS.out] at hlf
          have HLF := Lib.hid hlf
          clear ha hlf
          by_cases h2 : ws.length = 2
          case neg =>
            have hb2 : ((ws.length : Int) == 2) = false := by rw [beq_eq_false_iff_ne]; omega
            have hno : lineF l = none := by rw [HLF.out, if_neg (fun h => h2 h.1)]
            have HNO := Lib.hid hno
            clear h2 hno
            go_wp2
            go_quiet (fail)
            go_wp2_with fail
            refine (S_lone k _).mono ?_
            rintro e w' ⟨rfl, rfl⟩
            rw [HA.out]
            go_wp2
            go_roundw
            case rel => exact ⟨k + 1, by omega, by go_num, .inr ⟨k, by omega, HQ.out, HNO.out⟩, below_drewN HBR.out _⟩
            case measure => simp [intOf]; omega
          have hb2 : ((ws.length : Int) == 2) = true := by rw [h2]; rfl
          have e3 := cell_later HBR.out (HC1.out 1 (by omega))
          have hsz : (ws.getD 1 default).size ≤ 1048576 := by rw [HWS.out]; exact Nat.le_trans (spl_piece 32 l 1) hs
          have hwl2 : (1 : Int) < (ws.length : Int) := by omega
          have H2 := Lib.hid h2
          generalize ws.getD 1 default = Y at *
          clear h2
          cases hf : decide (0 ≤ numF Y)
          · have hno : lineF l = none := by
              rw [HLF.out, if_neg (fun h => by
                have := numF_range Y
                rw [decide_eq_false_iff_not] at hf
                omega)]
            have HNO := Lib.hid hno
            have hf2 : (decide (numF Y ≥ 0)) = false := hf
            have hf3 : ¬ (numF Y ≥ 0) := by rw [decide_eq_false_iff_not] at hf; exact hf
            clear hf hno
            go_wp2
            go_quiet (fail)
            go_wp2_with fail
            refine (S_lone k _).mono ?_
            rintro e w' ⟨rfl, rfl⟩
            rw [HA.out]
            go_wp2_with fail
            refine (S_readNumber Y _ hsz).mono ?_
            rintro e w' ⟨rfl, rfl⟩
            go_wp2
            go_roundw
            case rel => exact ⟨k + 1, by omega, by go_num, .inr ⟨k, by omega, HQ.out, HNO.out⟩, below_drewN HBR.out _⟩
            case measure => simp [intOf]; omega
          · have hf3 : numF Y ≥ 0 := by rw [decide_eq_true_iff] at hf; exact hf
            have hyes : lineF l = some ((k : Int), numF Y) := by rw [HLF.out, if_pos ⟨H2.out, by omega⟩]
            have HYES := Lib.hid hyes
            clear hf hyes
            go_wp2
            go_quiet (fail)
            go_wp2_with fail
            refine (S_lone k _).mono ?_
            rintro e w' ⟨rfl, rfl⟩
            rw [HA.out]
            go_wp2_with fail
            refine (S_readNumber Y _ hsz).mono ?_
            rintro e w' ⟨rfl, rfl⟩
            go_wp2_with fail
            refine (S_readNumber Y _ hsz).mono ?_
            rintro e w' ⟨rfl, rfl⟩
            go_wp2
            exact bodyPost_ret (v := .tuple #[.agg #[.int .i64 k, .int .i64 (numF Y)], .bool true]) (by simp [results, Tryd.results37, go_sem, q0, q1]) rfl
              ⟨k, numF Y, true, rfl, fun _ => HYES.out, fun h => Bool.noConfusion h, ((below_drewN HBB.out _).setCell (Nat.le_refl _) _).setCell (Nat.le_refl _) _⟩
    · obtain rfl : k = 21 := by omega
      have hno : lineF l = none := by
        rcases HP.out with h | ⟨j, _, _, h⟩
        · exact lineF_none0 (by rw [← HWS.out, ← HW0.out]; exact codeF_none h)
        · exact h
      have HNO := Lib.hid hno
      clear hno
      go_wp2
      exact bodyPost_ret (v := .tuple #[.agg #[.int .i64 0, .int .i64 0], .bool false]) (by simp [results, Tryd.results37, go_sem, q0, q1]) rfl
        ⟨0, 0, false, rfl, fun h => Bool.noConfusion h, fun _ => HNO.out, (HBB.out.setCell (Nat.le_refl _) _).setCell (Nat.le_refl _) _⟩

set_option maxRecDepth 100000 in
set_option maxHeartbeats 2000000 in
theorem S_ReadCode (s : ByteArray) (w : World) (hs : s.size ≤ 1048576) :
    Calls Tryd.prog 17 #[.string s] w fun e w' => ∃ v', e = .returned (.tuple #[v', .bool (rCodeB s)]) ∧ Ops w' w.heap.size v' (rCodeL s) ∧ Below w.heap.size w w' := by
  go_enter Tryd.func17, Tryd.ntmps17
  go_wp2_with fail
  refine (S_splitAt' s 10 10 _ rfl hs).mono ?_
  rintro e w1 ⟨v1, rfl, h1, hb1⟩
  have hB1 := bthen al1 hb1
  have ho1 := (Ops.lit0 (w := w) rfl (Nat.le_refl _)).keep hb1
  obtain ⟨hl1, hl2⟩ := spl_len 10 s
  obtain ⟨ls, hls⟩ : ∃ ls : List ByteArray, ls = spl 10 s := ⟨_, rfl⟩
  have hpiece : ∀ k, (ls.getD k default).size ≤ 1048576 := fun k => by rw [hls]; exact Nat.le_trans (spl_piece 10 s k) hs
  have hcr : codeR s = if ls.getD (ls.length - 1) default = ByteArray.empty then linesTo ls (ls.length - 1) else none := by unfold codeR; rw [← hls]
  rw [← hls] at h1 hl1 hl2
  obtain ⟨A1, C1, g1, rfl, hn1, hc1, hA1, hg1, hcell1⟩ := h1.rd
  obtain rfl := hA1 (by omega)
  have hgl1 := (hg1 (by omega)).2
  have HS1 := Lib.hid (h1.lo_ (lo' := w.heap.size) (by simp))
  have HPI := Lib.hid hpiece
  have HCR := Lib.hid hcr
  have HO1 := Lib.hid ho1
  have HB1 := Lib.hid hB1
  have hz1 := hB1.size
  unfold maxLen at hc1
  clear h1 hb1 hls hA1 hg1 hcell1 hpiece hcr ho1 hB1
  go_wp2
  go_loopw [4, 6] (fun o i wr => ∃ (k : Nat) (D : List (Int × Int)), k + 1 ≤ ls.length ∧ i = .int .i64 k ∧ Ops wr w.heap.size o D ∧ linesTo ls k = some D ∧ Strs wr w.heap.size (.slice (some ⟨g1, 0, none⟩) ls.length C1) ls ∧ Below w.heap.size w wr) (fun _ i _ => ls.length - (intOf i).toNat)
  case atStart => exact ⟨0, [], by omega, rfl, HO1.out, rfl, HS1.out, HB1.out⟩
  case round =>
    obtain ⟨k, D, hk, rfl, hD, hln, hS, hBw⟩ := hrel
    have HD := Lib.hid hD
    have HLN := Lib.hid hln
    have hDl := linesTo_len k hln
    have HS := Lib.hid hS
    have HBW := Lib.hid hBw
    have hzr := hBw.size
    have hw1 : IntKind.i64.wrap ((k : Int) + 1) = (k : Int) + 1 := IntWalk.i64_in _ (by omega)
    clear hD hln hS hBw
    by_cases hlt : k + 1 < ls.length
    · have e1 := HS.out.cell k (by omega)
      have hk0 : (0 : Int) ≤ (k : Int) := by omega
      have hk1 : (k : Int) < (ls.length : Int) := by omega
      have hk2 : (k : Int) + 1 < (ls.length : Int) := by omega
      have hsz := HPI.out k
      obtain ⟨Y, hY⟩ : ∃ Y : ByteArray, Y = ls.getD k default := ⟨_, rfl⟩
      rw [← hY] at e1 hsz
      have HY := Lib.hid hY
      have hgw := World.block_lt_of_cell? _ _ e1
      simp only at hgw
      clear hY
      go_wp2_with fail
      refine (S_readOp Y _ hsz).mono ?_
      rintro e w5 ⟨c, a, ok, rfl, hok, hno, hb5⟩
      have hS5 := HS.out.keep hb5
      have HS5 := Lib.hid hS5
      have hBW5 := bthen HBW.out hb5
      have HD5 := Lib.hid (HD.out.keep hb5)
      have HOK := Lib.hid hok
      have HNO := Lib.hid hno
      have hz5 := hBW5.size
      clear hok hno hb5 hS5
      cases ok
      · have hnone : codeR s = none := by
          rw [HCR.out, linesTo_none (j := k) (by rw [← HY.out]; exact HNO.out rfl) _ (by omega)]
          split <;> rfl
        have HNONE := Lib.hid hnone
        clear hnone
        go_wp2
        go_ret2
        exact ⟨_, by unfold rCodeB; rw [HNONE.out]; rfl, by unfold rCodeL; rw [HNONE.out]; exact Ops.nil _ _, bal hBW5 _⟩
      · have hnext : linesTo ls (k + 1) = some (D ++ [(c, a)]) := by
          rw [linesTo, HLN.out, ← HY.out, HOK.out rfl]
          rfl
        have HNEXT := Lib.hid hnext
        obtain ⟨oA, oC, ho⟩ := HD5.out.form
        rw [hDl] at ho
        subst ho
        clear hnext
        go_wp2_with (at_builtin; refine wpList_append_ops rfl _ _ rfl _ _ D [(c, a)] w.heap.size w.heap.size rfl rfl ((HD5.out.keep al1).keep al1) (Ops.lit1 (B := w5.heap.size + 1) (by simp only [World.size_alloc]) (by omega) c a) (by simp only [List.length_cons, List.length_nil]; omega) (by simp only [World.size_alloc]; omega) ?_; intro v9 w9 hown9 hgrow9 hbel9 hfrom9)
        go_roundw
        case rel => exact ⟨k + 1, _, by omega, by go_num, hown9, HNEXT.out, Strs.kept ((HS5.out.keep al1).keep al1) hgrow9 (own_types HS5.out HD5.out (by decide)), (bal (bal hBW5 _) _).trans hbel9⟩
        case measure => simp [intOf]; omega
    · obtain ⟨n, hn⟩ : ∃ n : Nat, ls.length = n + 1 := ⟨ls.length - 1, by omega⟩
      obtain rfl : k = n := by omega
      have e1 := HS.out.cell k (by omega)
      have hgw := World.block_lt_of_cell? _ _ e1
      simp only at hgw
      have hk2 : ¬ ((k : Int) + 1 < (ls.length : Int)) := by omega
      have hw2 : IntKind.i64.wrap ((ls.length : Int) - 1) = (k : Int) := by rw [show (ls.length : Int) - 1 = k by omega]; exact IntWalk.i64_in _ (by omega)
      have hk0 : (0 : Int) ≤ (k : Int) := by omega
      have hk1 : (k : Int) < (ls.length : Int) := by omega
      have hcr2 : codeR s = if ls.getD k default = ByteArray.empty then some D else none := by rw [HCR.out, hn, Nat.add_sub_cancel, HLN.out]
      have HCR2 := Lib.hid hcr2
      generalize ls.getD k default = Y at *
      clear hcr2 hn
      by_cases hy : Y = ByteArray.empty
      · subst hy
        have hcode : codeR s = some D := by rw [HCR2.out, if_pos rfl]
        have HCODE := Lib.hid hcode
        clear hcode
        go_wp2
        go_ret2
        exact ⟨_, by unfold rCodeB; rw [HCODE.out]; rfl, by unfold rCodeL; rw [HCODE.out]; exact HD.out, HBW.out⟩
      · have hcode : codeR s = none := by rw [HCR2.out, if_neg hy]
        have HCODE := Lib.hid hcode
        have hq1 : (Y.toList == ([] : List UInt8)) = false := by
          rw [ByteArray.toList_eq, beq_eq_false_iff_ne]
          intro h
          exact hy (by rw [← mk_data Y, h]; rfl)
        clear hcode hy
        go_wp2
        go_ret2
        exact ⟨_, by unfold rCodeB; rw [HCODE.out]; rfl, by unfold rCodeL; rw [HCODE.out]; exact Ops.nil _ _, HBW.out⟩
end Go.Proofs.YtpajkejdfalkiaaDoor
