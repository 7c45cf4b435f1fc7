/-
  Walks: the program's placeOf, seenIn, SeenIn. Condition: the argument reads as a program.
-/
import Derived.Test.YtklikpcfmmpocaaImpl13
import Derived.Test.YtklikpcfmmpocaaSpec14
namespace Go.Proofs.Ytklikpcfmmpocaa
open Go.RowKit
set_option linter.unusedVariables false

theorem I_placeOf (v : Value) (l : List Int) (lo : Nat) (n : Int) (w : World) (hv : Ints w lo v l) :
    Calls Try.prog 221 #[v, .int .i64 n] w fun e w' => e = .returned (.int .i64 (plc l n)) ∧ w = w' := by
  obtain ⟨A, C, g, rfl, hn, hc, hA, hg, hcell, _⟩ := hv.rd
  clear hv
  unfold maxLen at hc
  generalize hR : plc l n = R
  have HR := Lib.hid hR
  clear hR
  go_enter Try.func221, Try.ntmps221
  go_wp2
  go_loop [9] (fun i => ∃ k : Nat, k ≤ l.length ∧ i = .int .i64 k ∧ ∀ j, j < k → l.getD j 0 ≠ n) (fun i => l.length - (intOf i).toNat)
  case atStart => exact ⟨0, Nat.zero_le _, rfl, fun j hj => absurd hj (Nat.not_lt_zero _)⟩
  case round =>
    obtain ⟨k, hk, rfl, hp⟩ := hrel
    have HP := Lib.hid hp
    clear hp
    by_cases hlt : k < l.length
    · have c1 := hcell k hlt
      obtain rfl := hA (by omega)
      clear hA hcell hg
      generalize hx : l.getD k 0 = x at c1
      have HX := Lib.hid hx
      clear hx
      by_cases hxy : x = n
      · have HE := Lib.hid hxy
        have hb1 : (x == n) = true := by simp [hxy]
        clear hxy
        go_wp2
        go_ret
        exact ⟨ret_int (by rw [← HR.out, plc_at hlt (by rw [HX.out]; exact HE.out) HP.out]), rfl⟩
      · have HE := Lib.hid hxy
        have hb1 : (x == n) = false := by simp [hxy]
        clear hxy
        go_wp2
        go_round
        case rel => exact ⟨k + 1, by omega, by go_num, fun j hj => by
          rcases Nat.lt_succ_iff_lt_or_eq.1 hj with h | rfl
          · exact HP.out j h
          · rw [HX.out]; exact HE.out⟩
        case measure => simp [intOf]; omega
    · go_wp2
      go_ret
      exact ⟨ret_int (by rw [← HR.out, plc_none (fun j hj => HP.out j (by omega))]), rfl⟩


theorem plc_ne (l : List Int) (n : Int) : (plc l n != -1) = hasF l n := by
  rw [← plc_ge]
  have := plc_lt l n
  rw [Bool.eq_iff_iff, decide_eq_true_iff, bne_iff_ne]
  omega
theorem World.ownsRow.setBelow_ {w : World} {lo : Nat} {v : Value} {l : List Int} (h : Ints w lo v l) {a : Addr} (ha : a.block < lo) (u : Value) : Ints (w.setCell a u) lo v l := ownsRow_setCell_below h ha u

set_option maxRecDepth 100000 in
set_option maxHeartbeats 2000000 in
theorem I_seenIn (A : Nat → Nat) (p : Pr) (lo B : Nat) (b : Int) (w : World) (hrow : w.rowIs B 101 p.length (fun j => .pointer (some ⟨A j, 0, none⟩))) (hsc : Scopes w lo A p) (hs : shape p = true) (hb0 : 0 ≤ b) (hb1 : b < p.length) :
    Calls Try.prog 188 #[.slice (some ⟨B, 0, none⟩) p.length p.length, .int .i64 b] w fun e w' => ∃ v', e = .returned v' ∧ Ints w' w.heap.size v' (seenF p b) ∧ Below w.heap.size w w' := by
  have hl := shape_len hs
  have HSH := Lib.hid hs
  have hSI := hsc.inn
  have HSI := Lib.hid hSI
  have HROW := Lib.hid hrow
  have hBl := World.rowIs.lt hrow
  have hbn : ((b.toNat : Nat) : Int) = b := Int.toNat_of_nonneg hb0
  have HBN := Lib.hid hbn
  obtain ⟨f, hf⟩ : ∃ f : Int → Bool, f = seenB p b := ⟨_, rfl⟩
  have hfd : ∀ x, f x = (!decide ((p.bk b).kind = 1) || (locP p b x || freeB p b x)) := fun x => by rw [hf]; rfl
  have hR : seenF p b = nms f := by rw [hf]; rfl
  generalize seenF p b = R at *
  have HR := Lib.hid hR
  have HF := Lib.hid hfd
  have HKR := Lib.hid (rfl : (p.bk b).kind = (p.bk b).kind)
  clear hs hSI hsc hrow hR hf hfd hbn
  go_enter Try.func188, Try.ntmps188
  go_wp2_with fail
  have hrow1 := World.rowIs.alloc HROW.out (.cells #[.bool false, .bool false, .bool false, .bool false, .bool false, .bool false, .bool false, .bool false] 84)
  refine (I_freesOf A p 0 B b _ hrow1 (HSI.out.below al1).out HSH.out hb0 hb1).mono ?_
  rintro e w4 ⟨v4, rfl, hi4, hb4⟩
  have hset5 := (SetAt.zero w).keep hb4
  have hB5 : Below w.heap.size w w4 := bthen al1 hb4
  have hz4 := hb4.size
  simp only [World.size_alloc] at hz4 hi4
  go_wp2
  clear hb4 hrow1
  go_loopw [11] (fun v wr => ∃ m : Nat, m ≤ 8 ∧ v = .int .i64 m ∧ SetAt wr w.heap.size (cutTo f m) ∧ Ints wr (w.heap.size + 1) v4 (freesF p b) ∧ Below w.heap.size w wr) (fun v _ => 8 - (intOf v).toNat)
  case atStart => exact ⟨0, Nat.zero_le _, rfl, hset5.congr (fun y h0 _ => cutTo_zero f y h0), hi4, hB5⟩
  case round =>
    clear hset5 hi4 hB5
    obtain ⟨m, hm, rfl, hset, hif, hB⟩ := hrel
    have HSE := Lib.hid hset
    have HIF := Lib.hid hif
    have HSK := Lib.hid (HSI.out.below hB).out
    by_cases hml : m < 8
    · have hle : (m : Int) ≤ 7 := by omega
      have hrow := World.rowIs.of_block HROW.out (hB.block B hBl)
      have cr := hrow.cell (i := b.toNat) (by omega)
      have hrl := World.rowIs.lt hrow
      have hsk := HSK.out b.toNat (by omega)
      have hk0 := hsk.2.c1
      have hkl := World.rowIs.lt hsk.2
      rw [HBN.out] at hk0
      have hcell := hset.cell (i := m) hml
      have hfz := World.rowIs.frozen hset m
      have hgl := World.rowIs.lt hset
      have hfm := HF.out (m : Int)
      have hpf : (plc (freesF p b) m != -1) = freeB p b m := by rw [plc_ne]; exact hasF_nms _ _ (by omega) hle
      obtain ⟨pv, hpv⟩ : ∃ pv : Int, plc (freesF p b) m = pv := ⟨_, rfl⟩
      rw [hpv] at hpf
      have HPV := Lib.hid hpv
      clear hset hif hrow hsk hpv
      by_cases hkd : (p.bk b).kind = 1
      · have hkb : ((p.bk b).kind != 1) = false := by simp [hkd]
        rw [decide_eq_true hkd, Bool.not_true, Bool.false_or] at hfm
        generalize (p.bk b).kind = K at *
        clear hkd
        cases h1 : locP p b m
        · rw [h1, Bool.false_or, ← hpf] at hfm
          have HL := Lib.hid h1
          have HFM := Lib.hid hfm
          clear h1 hfm hpf
          go_wp2_with (first
            | (go_at_call 164; refine (I_isLocal A p _ b.toNat m _ HSK.out (by omega) HSH.out (by omega) hle).mono ?_; rw [Int.toNat_of_nonneg hb0]; rintro e w' ⟨rfl, rfl⟩; rw [HL.out])
            | (go_at_call 221; refine (I_placeOf _ _ _ m _ HIF.out).mono ?_; rintro e w' ⟨rfl, rfl⟩; rw [HPV.out]))
          go_roundw
          case rel => exact ⟨m + 1, by omega, by go_num, HSE.out.put m _ (fun y _ => by rw [cutTo_put, HFM.out]), World.ownsRow.setBelow_ HIF.out (by show w.heap.size < w.heap.size + 1; omega) _, hB.setCell (p := ⟨w.heap.size, _, none⟩) (Nat.le_refl _) _⟩
          case measure => simp [intOf]; omega
        · rw [h1, Bool.true_or] at hfm
          have HL := Lib.hid h1
          have HFM := Lib.hid hfm
          clear h1 hfm hpf
          go_wp2_with (go_at_call 164; refine (I_isLocal A p _ b.toNat m _ HSK.out (by omega) HSH.out (by omega) hle).mono ?_; rw [Int.toNat_of_nonneg hb0]; rintro e w' ⟨rfl, rfl⟩; rw [HL.out])
          go_roundw
          case rel => exact ⟨m + 1, by omega, by go_num, HSE.out.put m _ (fun y _ => by rw [cutTo_put, HFM.out]), World.ownsRow.setBelow_ HIF.out (by show w.heap.size < w.heap.size + 1; omega) _, hB.setCell (p := ⟨w.heap.size, _, none⟩) (Nat.le_refl _) _⟩
          case measure => simp [intOf]; omega
      · have hkb : ((p.bk b).kind != 1) = true := by simp [hkd]
        rw [decide_eq_false hkd, Bool.not_false, Bool.true_or] at hfm
        have HFM := Lib.hid hfm
        generalize (p.bk b).kind = K at *
        clear hkd hfm hpf
        go_wp2
        go_roundw
        case rel => exact ⟨m + 1, by omega, by go_num, HSE.out.put m _ (fun y _ => by rw [cutTo_put, HFM.out]), World.ownsRow.setBelow_ HIF.out (by show w.heap.size < w.heap.size + 1; omega) _, hB.setCell (p := ⟨w.heap.size, _, none⟩) (Nat.le_refl _) _⟩
        case measure => simp [intOf]; omega
    · obtain rfl : m = 8 := by omega
      have hset2 : SetAt wr w.heap.size f := hset.congr (fun y _ h1 => (cutTo_all f y h1).symm)
      obtain ⟨s0, s1, s2, s3, s4, s5, s6, s7⟩ := hset2.cells
      clear hset hset2 hif
      go_wp2_with (go_at_call 133; refine (I_list f _).mono ?_; rintro e w6 ⟨rv, rfl, hi6, hb6⟩)
      go_ret
      exact ⟨_, rfl, by rw [HR.out]; exact hi6.lo_ hB.size, bthen hB hb6⟩

set_option maxRecDepth 100000 in
theorem I_SeenIn (v : Value) (p : Pr) (lo : Nat) (b : Int) (w : World) (hv : Prog w lo v p) :
    Calls Try.prog 114 #[v, .int .i64 b] w fun e w' => ∃ v', e = .returned v' ∧ Ints w' w.heap.size v' (rSeen p b) ∧ Below w.heap.size w w' := by
  obtain ⟨sl, rfl, hv⟩ := hv
  have HV := Lib.hid hv
  obtain ⟨A, C, rfl⟩ := hv.form
  clear hv
  cases hs : validP p
  · have HS := Lib.hid hs
    have hno : (validB p b) = false := by unfold validB; rw [hs]; rfl
    have HNO := Lib.hid hno
    clear hs hno
    go_enter Try.func114, Try.ntmps114
    go_wp2_with (go_at_call 78; refine (I_ValidProgram _ p lo _ ⟨_, rfl, HV.out.keep al1⟩).mono ?_; rintro e w3 ⟨rfl, hb3⟩; rw [HS.out]; have cb3 := boxAt1 hb3; have hB3 := bthen (al1 (w := w)) hb3; have hz3 := hB3.size; clear hb3)
    go_ret
    have hB := hB3
    exact ⟨_, rfl, by unfold rSeen; rw [HNO.out]; exact Ints.nil _ _, hB⟩
  have HS := Lib.hid hs
  cases hi : inR b 0 (p.length - 1)
  · have HI := Lib.hid hi
    have hno : (validB p b) = false := by unfold validB; rw [hs, hi]; rfl
    have HNO := Lib.hid hno
    clear hs hi hno
    go_enter Try.func114, Try.ntmps114
    go_wp2_with (first
      | (go_at_call 78; refine (I_ValidProgram _ p lo _ ⟨_, rfl, HV.out.keep al1⟩).mono ?_; rintro e w3 ⟨rfl, hb3⟩; rw [HS.out]; have cb3 := boxAt1 hb3; have hB3 := bthen (al1 (w := w)) hb3; have hz3 := hB3.size; clear hb3)
      | (go_at_call 130; refine (I_isBlock _ p lo b _ (HV.out.keep hB3)).mono ?_; rintro e w4 ⟨rfl, hb4⟩; rw [HI.out]; have cb := cell_later hb4 cb3; have hB4 := bthen hB3 hb4; have hz4 := hB4.size; clear hb4 cb3))
    go_ret
    have hB := hB4
    exact ⟨_, rfl, by unfold rSeen; rw [HNO.out]; exact Ints.nil _ _, hB⟩
  have HI := Lib.hid hi
  have hat : validB p b = true := by unfold validB; rw [hs, hi]; rfl
  have HYES := Lib.hid hat
  have HVP := Lib.hid hs
  obtain ⟨hsh, hb0, hb1⟩ := shapeAt_iff.1 (validB_shape hat)
  have HSH := Lib.hid hsh
  have hl := shape_len hsh
  clear hs hi hsh hat

  have hR : rSeen p b = seenF p b := by unfold rSeen; rw [HYES.out]; rfl
  have HR := Lib.hid hR
  clear hR
  go_enter Try.func114, Try.ntmps114
  go_wp2_with (first
    | (go_at_call 78; refine (I_ValidProgram _ p lo _ ⟨_, rfl, HV.out.keep al1⟩).mono ?_; rintro e w3 ⟨rfl, hb3⟩; rw [HS.out]; have cb3 := boxAt1 hb3; have hB3 := bthen (al1 (w := w)) hb3; have hz3 := hB3.size; clear hb3)
    | (go_at_call 130; refine (I_isBlock _ p lo b _ (HV.out.keep hB3)).mono ?_; rintro e w4 ⟨rfl, hb4⟩; rw [HI.out]; have cb := cell_later hb4 cb3; have hB4 := bthen hB3 hb4; have hz4 := hB4.size; clear hb4 cb3)
    | (go_at_call 160; refine (I_scopesOf _ p lo _ (HV.out.keep hB4) HSH.out).mono ?_; rintro e w5 ⟨A', Bs, rfl, hBs, hrow, hsc, hb5⟩; have hB5 := bthen hB4 hb5; have hz5 := hB5.size)
    | (go_at_call 188; refine (I_seenIn A' p _ Bs b _ hrow hsc HSH.out hb0 hb1).mono ?_; rintro e w6 ⟨rv, rfl, hi6, hb6⟩))
  go_ret
  exact ⟨_, rfl, by rw [HR.out]; exact hi6.lo_ hz5, bthen hB5 hb6⟩

end Go.Proofs.Ytklikpcfmmpocaa
