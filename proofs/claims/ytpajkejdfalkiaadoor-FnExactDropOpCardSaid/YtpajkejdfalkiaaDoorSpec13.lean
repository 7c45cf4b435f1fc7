/-
  Walks: the reference's frees, FreesOf. Condition: the argument reads as a program.
-/
import Derived.Test.YtpajkejdfalkiaaDoorSpec12
namespace Go.Proofs.YtpajkejdfalkiaaDoor
open Go.RowKit
set_option linter.unusedVariables false

theorem freeG_yes {p : Pr} {b : Int} {c : Nat} (h : inside p b c = true) : freeG p b c = (usedF p c).filter (fun x => decide (0 < ownerF p c x) && decide (ownerF p c x < b)) := by unfold freeG; rw [if_pos h]
theorem freeG_no {p : Pr} {b : Int} {c : Nat} (h : inside p b c = false) : freeG p b c = [] := by unfold freeG; rw [h]; rfl

set_option maxRecDepth 100000 in
set_option maxHeartbeats 2000000 in
theorem S_frees (sl : Value) (p : Pr) (lo : Nat) (b : Int) (w : World) (hv : Blks w lo sl p) (hs : shape p = true) (hb0 : 0 ≤ b) (hb1 : b < p.length) :
    Calls Tryd.prog 80 #[.agg #[sl], .int .i64 b] w fun e w' => ∃ v', e = .returned v' ∧ Ints w' w.heap.size v' (freesF p b) ∧ Below w.heap.size w w' := by
  have hl := shape_len hs
  obtain ⟨g, C, rfl, hg⟩ := hv.formS (by omega)
  have kn := knd (w := w) (W3 := w.alloc (.cells #[.slice (some ⟨g, 0, none⟩) p.length C] 35)) (lo := lo) (bx := w.heap.size) (w.heap.size + 1) (by simp) (by simp [go_sem]) (by omega) (hv.keep al1) al1
  have KN := Lib.hid kn
  have HSH := Lib.hid hs
  have hR := frees_eq (p := p) hb0
  generalize freesF p b = R at *
  have HR := Lib.hid hR
  clear kn hv hs hR
  have hgl := gath_len (freeG p b) b.toNat (freeG_len p b)
  have HGL := Lib.hid hgl
  have hgs := gath_succ (freeG p b) b.toNat
  have HGS := Lib.hid hgs
  have hg0' := gath_start (freeG p b) b.toNat b.toNat (Nat.le_refl _)
  have HG0 := Lib.hid hg0'
  have hgy : ∀ c : Nat, inside p b c = true → freeG p b c = _ := fun c h => freeG_yes h
  have hgn : ∀ c : Nat, inside p b c = false → freeG p b c = [] := fun c h => freeG_no h
  have HGY := Lib.hid hgy
  have HGN := Lib.hid hgn
  generalize freeG p b = G at *
  clear hgl hgs hg0' hgy hgn
  go_enter Tryd.func80, Tryd.ntmps80
  go_wp2
  go_loopw [5, 6] (fun o i wr => ∃ k : Nat, b ≤ k ∧ k ≤ p.length ∧ i = .int .i64 k ∧ Ints wr (w.heap.size + 1) o (gath G b.toNat k) ∧ Below (w.heap.size + 1) (w.alloc (.cells #[.slice (some ⟨g, 0, none⟩) p.length C] 35)) wr) (fun _ i _ => p.length - (intOf i).toNat)
  case atStart => exact ⟨b.toNat, by omega, by omega, by rw [Int.toNat_of_nonneg hb0], by rw [HG0.out]; exact Ints.zero1 _ _, al1'⟩
  case round =>
    obtain ⟨k, hk1, hk, rfl, hown, hB⟩ := hrel
    obtain ⟨cb, hvr, hBw, hsz⟩ := KN.out wr hB
    have HO := Lib.hid hown
    have HVR := Lib.hid hvr
    have hlen := HGL.out k
    clear hown hvr
    obtain ⟨wo, rfl⟩ : ∃ wo : World, wo = wr := ⟨_, rfl⟩
    by_cases hlt : k < p.length
    · cases hin0 : inside p b k
      · have hfd := HGN.out k hin0
        have HFD := Lib.hid hfd
        have HIN0 := Lib.hid hin0
        clear hfd hin0
        go_wp2_with fail
        refine (S_used _ p lo k _ HVR.out HSH.out (by omega) (by omega)).mono ?_
        rintro e w4 ⟨v4, rfl, hi4, hb4⟩
        have hB4 := hB.trans (hb4.mono hsz)
        have hz4' := hb4.size
        have HO4 := Lib.hid (HO.out.keep hb4)
        obtain ⟨A5, C5, g5, rfl, hn5, hC5, hA5, hg5, hcell5, _⟩ := hi4.rd
        have hl8 := usedF_len p k
        generalize usedF p k = l at *
        unfold maxLen at hC5
        clear hi4 hb4 cb hBw hcell5 hg5 hA5
        go_wp2
        go_loopw [5, 8] (fun o i wi => i = .int .i64 0 ∧ Ints wi (w.heap.size + 1) o (gath G b.toNat k) ∧ Below (w.heap.size + 1) (w.alloc (.cells #[.slice (some ⟨g, 0, none⟩) p.length C] 35)) wi) (fun _ i _ => 1)
        case atStart => exact ⟨rfl, HO4.out, hB4⟩
        case round =>
          obtain ⟨rfl, hown, hB6⟩ := hrel
          obtain ⟨cbi, hvi, hBw, hsi⟩ := KN.out _ hB6
          have HOI := Lib.hid hown
          clear hown
          by_cases hjl : 0 < l.length
          · go_wp2_with (go_at_call 106; refine (S_inside _ p lo b k _ (by exact hvi) HSH.out hb0 (by omega)).mono ?_; rintro e wn ⟨rfl, hbn⟩; rw [HIN0.out])
            go_roundw
            case rel => exact ⟨k + 1, by omega, by omega, by go_num, by rw [HGS.out k (by omega), HFD.out, List.append_nil]; exact HOI.out.keep hbn, hB6.trans (hbn.mono hsi)⟩
            case measure => simp [intOf]; omega
          · have hj0 : l.length = 0 := by omega
            go_wp2
            go_roundw
            case rel => exact ⟨k + 1, by omega, by omega, by go_num, by rw [HGS.out k (by omega), HFD.out, List.append_nil]; exact HOI.out, hB6⟩
            case measure => simp [intOf]; omega
      · have hfd := HGY.out k hin0
        have HIN0 := Lib.hid hin0
        clear hin0
        go_wp2_with fail
        refine (S_used _ p lo k _ HVR.out HSH.out (by omega) (by omega)).mono ?_
        rintro e w4 ⟨v4, rfl, hi4, hb4⟩
        have HI4 := Lib.hid hi4
        have hB4 := hB.trans (hb4.mono hsz)
        have hz4 := hB4.size
        have hz4' := hb4.size
        have HO4 := Lib.hid (HO.out.keep hb4)
        have HAP := Lib.hid (Apart.mk_ HO.out hi4 (Nat.le_refl _))
        have hnm := usedF_names p k
        have HNM := Lib.hid hnm
        obtain ⟨A5, C5, g5, rfl, hn5, hC5, hA5, hg5, hcell5, _⟩ := hi4.rd
        have hl8 := usedF_len p k
        obtain ⟨f, hf⟩ : ∃ f : Int → Bool, f = fun x => decide (0 < ownerF p k x) && decide (ownerF p k x < b) := ⟨_, rfl⟩
        have hfx : ∀ x, f x = (decide (0 < ownerF p k x) && decide (ownerF p k x < b)) := fun x => by rw [hf]
        rw [← hf] at hfd
        have HFD := Lib.hid hfd
        have HF := Lib.hid hfx
        generalize usedF p k = l at *
        unfold maxLen at hC5
        clear hi4 hb4 cb hBw hnm hfd hcell5 hg5 hf hfx
        go_wp2
        go_loopw [5, 8] (fun o i wi => ∃ j : Nat, j ≤ l.length ∧ i = .int .i64 j ∧ Ints wi (w.heap.size + 1) o (gath G b.toNat k ++ pickTo f l j) ∧ Ints wi wo.heap.size (.slice A5 l.length C5) l ∧ Apart o (.slice A5 l.length C5) ∧ Below (w.heap.size + 1) (w.alloc (.cells #[.slice (some ⟨g, 0, none⟩) p.length C] 35)) wi) (fun _ i _ => l.length - (intOf i).toNat)
        case atStart => exact ⟨0, Nat.zero_le _, rfl, by rw [pickTo_zero, List.append_nil]; exact HO4.out, HI4.out, HAP.out, hB4⟩
        case round =>
          obtain ⟨j, hj, rfl, hown, hint, hap, hB6⟩ := hrel
          obtain ⟨cbi, hvi, hBw, hsi⟩ := KN.out _ hB6
          have HIN := Lib.hid hint
          have HAP2 := Lib.hid hap
          clear hap
          have HOI := Lib.hid hown
          have hpl := pickTo_len f l j
          by_cases hjl : j < l.length
          · obtain ⟨A6, C6, g6, e6, hn6, hC6, hA6, hg6, hcell6, _⟩ := hint.rd
            obtain ⟨rfl, rfl⟩ : A5 = A6 ∧ C5 = C6 := by simpa using e6
            have d0 := hcell6 j hjl
            obtain rfl := hA6 (by omega)
            have hgl6 := (hg6 (by omega)).2
            have hty : 0 ≤ l.getD j 0 ∧ l.getD j 0 ≤ 7 := HNM.out _ (by simp [List.getD, hjl])
            obtain ⟨ty0, ty1⟩ := hty
            have hpy := pickTo_yes f l j hjl
            have hpn := pickTo_no f l j hjl
            have hj1 : (j : Int) < (l.length : Int) := by omega
            clear e6 hA6 hg6 hcell6 hA5 hown hint
            generalize hy : l.getD j 0 = y at *
            obtain ⟨ov, hov⟩ : ∃ ov : Int, ownerF p k y = ov := ⟨_, rfl⟩
            have HOV := Lib.hid hov
            by_cases h1 : 0 < ov
            · by_cases h2 : ov < b
              · have hs := hpy (by rw [HF.out, hov]; simp [h1, h2])
                have HS := Lib.hid hs
                clear hpy hpn hs hy hov
                go_wp2_with (go_at_call 106; refine (S_inside _ p lo b k _ (by exact hvi) HSH.out hb0 (by omega)).mono ?_; rintro e wn ⟨rfl, hbn⟩; rw [HIN0.out])
                have cbi := cell_later hbn cbi
                have d0 := cell_later hbn d0
                have hzn := hbn.size
                have hgn : g6 < wn.heap.size := by omega
                have hvn := hvi.keep hbn
                have HVD := Lib.hid (show Blks (World.drew _) _ _ p from hvn)
                clear hvn
                go_region_held3 (fun w' => w'.cell? ⟨w.heap.size, 0, none⟩ = some (.slice (some ⟨g, 0, none⟩) p.length C) ∧ w'.cell? ⟨g6, j, none⟩ = some (.int .i64 y))
                (first | go_keep | exact ⟨cell_later hb6 cbi, cell_later hb6 d0⟩)
                ((go_at_call 77; refine (S_owner _ p lo k y _ (HVD.out) HSH.out (by omega) (by omega) ty0 ty1).mono ?_; rintro e w6 ⟨rfl, hb6⟩; rw [HOV.out]))
                have hbd : Below wr.heap.size wr w6 := bthen hbn (((Below.refl _ wn).drew).trans hb6)
                have hz6 := hbd.size
                have d6 := cell_later (((Below.refl _ wn).drew).trans hb6) d0
                have hgl7 : g6 < w6.heap.size := by omega
                go_wp2_with (at_builtin; refine wpList_append_ints rfl _ _ rfl _ _ _ [y] (w.heap.size + 1) _ rfl rfl ((HOI.out.keep hbd).keep al1) (Ints.one' _ _ (by first | rfl | simp only [World.size_alloc]) _ _ (Nat.le_refl _)) (by rw [List.length_append]; show _ + 1 ≤ _; omega) (by simp only [World.size_alloc]; omega) ?_; intro v' w9 hown9 hgrow9 hbel9 hfrom9)
                go_roundw
                case rel => exact ⟨j + 1, by omega, by go_num, by rw [HS.out, ← List.append_assoc]; exact hown9, Ints.kept ((HIN.out.keep hbd).keep al1) hgrow9 HAP2.out.kept, HAP2.out.from hfrom9 (fun q hq => by have := own_block_lt (HIN.out.keep hbd) q hq; simp only [World.size_alloc]; omega), (hB6.trans (hbd.mono hsi)).trans ((al1.mono (by omega)).trans hbel9)⟩
                case measure => simp [intOf]; omega
              · have hs := hpn (by rw [HF.out, hov]; simp [h2])
                have HS := Lib.hid hs
                clear hpy hpn hs hy hov
                go_wp2_with (go_at_call 106; refine (S_inside _ p lo b k _ (by exact hvi) HSH.out hb0 (by omega)).mono ?_; rintro e wn ⟨rfl, hbn⟩; rw [HIN0.out])
                have cbi := cell_later hbn cbi
                have d0 := cell_later hbn d0
                have hzn := hbn.size
                have hgn : g6 < wn.heap.size := by omega
                have hvn := hvi.keep hbn
                have HVD := Lib.hid (show Blks (World.drew _) _ _ p from hvn)
                clear hvn
                go_region_held3 (fun w' => w'.cell? ⟨w.heap.size, 0, none⟩ = some (.slice (some ⟨g, 0, none⟩) p.length C) ∧ w'.cell? ⟨g6, j, none⟩ = some (.int .i64 y))
                (first | go_keep | exact ⟨cell_later hb6 cbi, cell_later hb6 d0⟩)
                ((go_at_call 77; refine (S_owner _ p lo k y _ (HVD.out) HSH.out (by omega) (by omega) ty0 ty1).mono ?_; rintro e w6 ⟨rfl, hb6⟩; rw [HOV.out]))
                have hbd : Below wr.heap.size wr w6 := bthen hbn (((Below.refl _ wn).drew).trans hb6)
                go_wp2
                exact ⟨⟨j + 1, by omega, by go_num, by rw [HS.out]; exact HOI.out.keep hbd, HIN.out.keep hbd, HAP2.out, hB6.trans (hbd.mono hsi)⟩, by simp [intOf]; omega⟩
            · have hs := hpn (by rw [HF.out, hov]; simp [h1])
              have HS := Lib.hid hs
              clear hpy hpn hs hy hov
              go_wp2_with (go_at_call 106; refine (S_inside _ p lo b k _ (by exact hvi) HSH.out hb0 (by omega)).mono ?_; rintro e wn ⟨rfl, hbn⟩; rw [HIN0.out])
              have cbi := cell_later hbn cbi
              have d0 := cell_later hbn d0
              have hzn := hbn.size
              have hgn : g6 < wn.heap.size := by omega
              have hvn := hvi.keep hbn
              have HVD := Lib.hid (show Blks (World.drew _) _ _ p from hvn)
              clear hvn
              go_region_held3 (fun w' => w'.cell? ⟨w.heap.size, 0, none⟩ = some (.slice (some ⟨g, 0, none⟩) p.length C) ∧ w'.cell? ⟨g6, j, none⟩ = some (.int .i64 y))
              (first | go_keep | exact ⟨cell_later hb6 cbi, cell_later hb6 d0⟩)
              ((go_at_call 77; refine (S_owner _ p lo k y _ (HVD.out) HSH.out (by omega) (by omega) ty0 ty1).mono ?_; rintro e w6 ⟨rfl, hb6⟩; rw [HOV.out]))
              have hbd : Below wr.heap.size wr w6 := bthen hbn (((Below.refl _ wn).drew).trans hb6)
              go_wp2
              exact ⟨⟨j + 1, by omega, by go_num, by rw [HS.out]; exact HOI.out.keep hbd, HIN.out.keep hbd, HAP2.out, hB6.trans (hbd.mono hsi)⟩, by simp [intOf]; omega⟩
          · obtain rfl : j = l.length := by omega
            rw [pickTo_all] at hown
            go_wp2
            go_roundw
            case rel => exact ⟨k + 1, by omega, by omega, by go_num, by rw [HGS.out k (by omega), HFD.out]; exact hown, hB6⟩
            case measure => simp [intOf]; omega
    · obtain rfl : k = p.length := by omega
      go_wp2_with (go_at_call 74; refine (S_sorted _ _ _ _ HO.out).mono ?_; rintro e w1 ⟨rv, rfl, hi1, hb1'⟩)
      go_ret
      exact ⟨_, rfl, by rw [← HR.out]; exact hi1.lo_ (by omega), bthen hBw hb1'⟩

end Go.Proofs.YtpajkejdfalkiaaDoor
