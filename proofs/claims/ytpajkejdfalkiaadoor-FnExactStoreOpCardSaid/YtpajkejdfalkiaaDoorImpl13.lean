/-
  Walks: the program's freesOf, FreesOf. Condition: the argument reads as a program.
-/
import Derived.Test.YtpajkejdfalkiaaDoorImpl12
import Derived.Test.YtpajkejdfalkiaaDoorSpec13
namespace Go.Proofs.YtpajkejdfalkiaaDoor
open Go.RowKit
set_option linter.unusedVariables false

theorem freeBy_out {p : Pr} {b : Int} {k : Nat} (h : inside p b k = false) (y : Int) : freeBy p b y k = false := by unfold freeBy; rw [h, Bool.false_and]
theorem freeBy_in {p : Pr} {b : Int} {k : Nat} (h : inside p b k = true) (y : Int) : freeBy p b y k = ((p.bk k).usesB y && (decide (0 < ownerF p k y) && decide (ownerF p k y < b))) := by unfold freeBy; rw [h, Bool.true_and]
/-- An owner of a name used within b lies within b, or ahead of it. -/
theorem owner_in {p : Pr} {b ov : Int} {k : Nat} (hb : 0 ≤ b) (hi : inside p b k = true) (h : ov = -1 ∨ (0 < ov ∧ inside p ov k = true)) : (decide (0 < ov) && decide (ov < b)) = ((ov != -1) && !inside p b ov) := by
  rcases h with rfl | ⟨h0, h1⟩
  · rfl
  · rw [decide_eq_true h0, Bool.true_and, show (ov != -1) = true by simp; omega, Bool.true_and]
    by_cases e : ov < b
    · rw [decide_eq_true e]
      cases hc : inside p b ov
      · rfl
      · have := inside_le p ov.toNat ov b (by omega) hb hc
        omega
    · rw [decide_eq_false e, inside_both p k k ov b (Int.le_refl _) hb (by omega) h1 hi]
      rfl

set_option maxRecDepth 100000 in
set_option maxHeartbeats 2000000 in
theorem I_freesOf (A : Nat → Nat) (p : Pr) (lo B : Nat) (b : Int) (w : World) (hrow : w.rowIs B 81 p.length (fun j => .pointer (some ⟨A j, 0, none⟩))) (hsc : Scopes w lo A p) (hs : shape p = true) (hb0 : 0 ≤ b) (hb1 : b < p.length) :
    Calls Tryd.prog 117 #[.slice (some ⟨B, 0, none⟩) p.length p.length, .int .i64 b] w fun e w' => ∃ v', e = .returned v' ∧ Ints w' w.heap.size v' (freesF p b) ∧ Below w.heap.size w w' := by
  have hl := shape_len hs
  have HSH := Lib.hid hs
  have hSI := hsc.inn
  have HSI := Lib.hid hSI
  have HROW := Lib.hid hrow
  have hBl := World.rowIs.lt hrow
  have hR : freesF p b = nms (freeB p b) := rfl
  generalize freesF p b = R at *
  have HR := Lib.hid hR
  clear hs hSI hsc hrow hR
  go_enter Tryd.func117, Tryd.ntmps117
  go_wp2
  have hset0 := SetAt.zero w
  have hB0 := al1 (w := w) (o := (.cells #[.bool false, .bool false, .bool false, .bool false, .bool false, .bool false, .bool false, .bool false] 98))
  have hz0 : w.heap.size + 1 ≤ (w.alloc (.cells #[.bool false, .bool false, .bool false, .bool false, .bool false, .bool false, .bool false, .bool false] 98)).heap.size := by rw [World.size_alloc]; exact Nat.le_refl _
  generalize w.alloc (.cells #[.bool false, .bool false, .bool false, .bool false, .bool false, .bool false, .bool false, .bool false] 98) = W1 at *
  go_loopw [12] (fun v wr => ∃ k : Nat, k ≤ p.length ∧ v = .int .i64 k ∧ SetAt wr w.heap.size (fun y => anyTo (freeBy p b y) k) ∧ Below w.heap.size w wr ∧ w.heap.size + 1 ≤ wr.heap.size) (fun v _ => p.length - (intOf v).toNat)
  case atStart => exact ⟨0, Nat.zero_le _, rfl, hset0, hB0, hz0⟩
  case round =>
    clear hset0 hB0 hz0
    obtain ⟨k, hk, rfl, hset, hB, hz⟩ := hrel
    have HSE := Lib.hid hset
    have hBw := hB
    by_cases hlt : k < p.length
    · have hrow := World.rowIs.of_block HROW.out (hBw.block B hBl)
      have cr := hrow.cell (i := k) hlt
      have hrl := World.rowIs.lt hrow
      have HSK := Lib.hid (HSI.out.below hBw).out
      clear hrow hset
      cases hin : inside p b k
      · have hno := freeBy_out hin
        have HNO := Lib.hid hno
        have HIN := Lib.hid hin
        clear hno hin
        go_wp2_with (go_at_call 122; refine (I_isWithin A p _ k b _ HSK.out hlt HSH.out hb0).mono ?_; rintro e w' ⟨rfl, rfl⟩; rw [HIN.out])
        go_roundw
        case rel => exact ⟨k + 1, by omega, by go_num, HSE.out.congr (fun y _ _ => by rw [anyTo_succ, HNO.out, Bool.or_false]), hB, hz⟩
        case measure => simp [intOf]; omega
      · have hyes := freeBy_in hin
        have HIN := Lib.hid hin
        obtain ⟨f, hf⟩ : ∃ f : Int → Bool, f = fun y => freeBy p b y k := ⟨_, rfl⟩
        have hfd : ∀ y, f y = ((p.bk k).usesB y && (decide (0 < ownerF p k y) && decide (ownerF p k y < b))) := fun y => by rw [hf]; exact hyes y
        have hfe : ∀ y, freeBy p b y k = f y := fun y => by rw [hf]
        have HF := Lib.hid hfd
        have HFE := Lib.hid hfe
        clear hyes hfd hfe hf hin
        go_wp2_with (go_at_call 122; refine (I_isWithin A p _ k b _ HSK.out hlt HSH.out hb0).mono ?_; rintro e w' ⟨rfl, rfl⟩; rw [HIN.out])
        obtain ⟨wo, rfl⟩ : ∃ wo : World, wo = wr := ⟨_, rfl⟩
        clear cr hrl HSK
        go_loopw [20] (fun v wi => ∃ m : Nat, m ≤ 8 ∧ v = .int .i64 m ∧ SetAt wi w.heap.size (fun y => anyTo (freeBy p b y) k || cutTo f m y) ∧ Below w.heap.size w wi ∧ w.heap.size + 1 ≤ wi.heap.size) (fun v _ => 8 - (intOf v).toNat)
        case atStart => exact ⟨0, Nat.zero_le _, rfl, HSE.out.congr (fun y h0 _ => by rw [cutTo_zero f y h0, Bool.or_false]), hB, hz⟩
        case round =>
          clear hB hz hBw
          obtain ⟨m, hm, rfl, hset, hB, hz⟩ := hrel
          have HSE2 := Lib.hid hset
          have hBw := hB
          have HSK := Lib.hid (HSI.out.below hBw).out
          clear hset
          by_cases hml : m < 8
          · have hle : (m : Int) ≤ 7 := by omega
            have hfm := HF.out (m : Int)
            cases h1 : (p.bk k).usesB m
            · rw [h1, Bool.false_and] at hfm
              have HU := Lib.hid h1
              have HFM := Lib.hid hfm
              clear h1 hfm
              go_wp2_with (go_at_call 54; refine (I_uses A p _ k m _ HSK.out hlt (by omega) hle).mono ?_; rintro e w' ⟨rfl, rfl⟩; rw [HU.out])
              go_roundw
              case rel => exact ⟨m + 1, by omega, by go_num, HSE2.out.congr (fun y _ _ => by rw [cutTo_no f m HFM.out]), hB, hz⟩
              case measure => simp [intOf]; omega
            · rw [h1, Bool.true_and] at hfm
              have HU := Lib.hid h1
              have hoc := ownerF_cases p k m (by omega)
              obtain ⟨ov, hov⟩ : ∃ ov : Int, ownerF p k m = ov := ⟨_, rfl⟩
              rw [hov] at hfm hoc
              have hwi := owner_in hb0 HIN.out (hoc.imp id fun h => ⟨h.1, h.2.2.2⟩)
              rw [hwi] at hfm
              have hov1 : ov = -1 ∨ (0 < ov ∧ ov ≤ k) := hoc.imp id fun h => ⟨h.1, h.2.1⟩
              have HOV := Lib.hid hov
              clear h1 hov hoc hwi
              by_cases hm1 : ov = -1
              · have hne : (ov != -1) = false := by simp [hm1]
                rw [hne, Bool.false_and] at hfm
                have HFM := Lib.hid hfm
                clear hfm hm1 hov1
                go_wp2_with (first
                  | (go_at_call 54; refine (I_uses A p _ k m _ HSK.out hlt (by omega) hle).mono ?_; rintro e w' ⟨rfl, rfl⟩; rw [HU.out])
                  | (go_at_call 113; refine (I_owner A p _ k _ m HSK.out hlt HSH.out (by omega) hle).mono ?_; rintro e w6 ⟨rfl, hb6⟩; rw [HOV.out]; have hz6 := hb6.size))
                go_roundw
                case rel => exact ⟨m + 1, by omega, by go_num, (HSE2.out.keep hb6).congr (fun y _ _ => by rw [cutTo_no f m HFM.out]), hB.trans (hb6.mono (by omega)), by omega⟩
                case measure => simp [intOf]; omega
              · have hne : (ov != -1) = true := by simp [hm1]
                rw [hne, Bool.true_and] at hfm
                have hov0 : 0 ≤ ov := by omega
                have hovk : ov ≤ k := by omega
                clear hm1 hov1
                cases h2 : inside p b ov
                · rw [h2] at hfm
                  have HFM := Lib.hid hfm
                  have HIO := Lib.hid h2
                  clear hfm h2
                  go_wp2_with (first
                    | (go_at_call 54; refine (I_uses A p _ k m _ HSK.out hlt (by omega) hle).mono ?_; rintro e w' ⟨rfl, rfl⟩; rw [HU.out])
                    | (go_at_call 113; refine (I_owner A p _ k _ m HSK.out hlt HSH.out (by omega) hle).mono ?_; rintro e w6 ⟨rfl, hb6⟩; rw [HOV.out]; have hz6 := hb6.size; have hrow6 := World.rowIs.of_block HROW.out (((hBw.trans (hb6.mono (by omega)))).block B hBl); have cr6 := hrow6.cell (i := ov.toNat) (by omega); have hrl6 := World.rowIs.lt hrow6; have hcell := (HSE2.out.keep hb6).cell (i := m) hml; have hfz := World.rowIs.frozen (HSE2.out.keep hb6) m; have HSK6 := Lib.hid (HSK.out.keep hb6))
                    | (go_at_call 122; refine (I_isWithin A p _ ov.toNat b _ HSK6.out (by omega) HSH.out hb0).mono ?_; rw [Int.toNat_of_nonneg hov0]; rintro e w' ⟨rfl, rfl⟩; rw [HIO.out]))
                  go_roundw
                  case rel => exact ⟨m + 1, by omega, by go_num, (by have h := (HSE2.out.keep hb6).add (m : Int) (by omega) (fun y _ _ => rfl); rw [Int.toNat_natCast] at h; exact h.congr (fun y _ _ => by rw [cutTo_add f m HFM.out, Bool.or_assoc])), (hB.trans (hb6.mono (by omega))).setCell (p := ⟨w.heap.size, _, none⟩) (Nat.le_refl _) _, by simp; omega⟩
                  case measure => simp [intOf]; omega
                · rw [h2] at hfm
                  have HFM := Lib.hid hfm
                  have HIO := Lib.hid h2
                  clear hfm h2
                  go_wp2_with (first
                    | (go_at_call 54; refine (I_uses A p _ k m _ HSK.out hlt (by omega) hle).mono ?_; rintro e w' ⟨rfl, rfl⟩; rw [HU.out])
                    | (go_at_call 113; refine (I_owner A p _ k _ m HSK.out hlt HSH.out (by omega) hle).mono ?_; rintro e w6 ⟨rfl, hb6⟩; rw [HOV.out]; have hz6 := hb6.size; have hrow6 := World.rowIs.of_block HROW.out (((hBw.trans (hb6.mono (by omega)))).block B hBl); have cr6 := hrow6.cell (i := ov.toNat) (by omega); have hrl6 := World.rowIs.lt hrow6; have hcell := (HSE2.out.keep hb6).cell (i := m) hml; have hfz := World.rowIs.frozen (HSE2.out.keep hb6) m; have HSK6 := Lib.hid (HSK.out.keep hb6))
                    | (go_at_call 122; refine (I_isWithin A p _ ov.toNat b _ HSK6.out (by omega) HSH.out hb0).mono ?_; rw [Int.toNat_of_nonneg hov0]; rintro e w' ⟨rfl, rfl⟩; rw [HIO.out]))
                  go_roundw
                  case rel => exact ⟨m + 1, by omega, by go_num, (HSE2.out.keep hb6).congr (fun y _ _ => by rw [cutTo_no f m HFM.out]), hB.trans (hb6.mono (by omega)), by omega⟩
                  case measure => simp [intOf]; omega
          · obtain rfl : m = 8 := by omega
            go_wp2
            go_roundw
            case rel => exact ⟨k + 1, by omega, by go_num, HSE2.out.congr (fun y _ h1 => by rw [anyTo_succ, HFE.out, cutTo_all f y h1]), hB, hz⟩
            case measure => simp [intOf]; omega
    · obtain rfl : k = p.length := by omega
      have hset2 : SetAt wr w.heap.size (freeB p b) := hset
      obtain ⟨s0, s1, s2, s3, s4, s5, s6, s7⟩ := hset2.cells
      clear hset hset2
      go_wp2_with (go_at_call 116; refine (I_list (freeB p b) _).mono ?_; rintro e w6 ⟨rv, rfl, hi6, hb6⟩)
      go_ret
      exact ⟨_, rfl, by rw [HR.out]; exact hi6.lo_ hB.size, bthen hB hb6⟩

end Go.Proofs.YtpajkejdfalkiaaDoor
