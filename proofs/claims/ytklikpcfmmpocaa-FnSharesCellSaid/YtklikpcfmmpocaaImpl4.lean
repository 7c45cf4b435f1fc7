/-
  Walks: the program's isInside, ChildrenOf, InsideOf, DepthOf. Condition: the argument reads as a program.
-/
import Derived.Test.YtklikpcfmmpocaaImpl3
import Derived.Test.YtklikpcfmmpocaaSpec6
namespace Go.Proofs.Ytklikpcfmmpocaa
open Go.RowKit
set_option linter.unusedVariables false

theorem I_isInside (sl : Value) (p : Pr) (lo : Nat) (b c : Int) (w : World) (hv : Blks w lo sl p) (hs : shape p = true) (hb : 0 ≤ b) (hc : c < p.length) :
    Calls Try.prog 156 #[.agg #[sl], .int .i64 c, .int .i64 b] w fun e w' => e = .returned (.bool (inside p b c)) ∧ Below w.heap.size w w' := by
  have hl := shape_len hs
  obtain ⟨g, C, rfl, hg⟩ := hv.formS (by omega)
  have HV := Lib.hid (hv.keep (al1 (o := .cells #[.slice (some ⟨g, 0, none⟩) p.length C] 30)))
  have HS := Lib.hid hs
  clear hv hs
  generalize hR : inside p b c = R
  have HR := Lib.hid hR
  clear hR
  go_enter Try.func156, Try.ntmps156
  go_wp2
  go_loop [1] (fun i => ∃ k : Int, k ≤ c ∧ i = .int .i64 k ∧ inside p b k = R) (fun i => (intOf i).toNat)
  case atStart => exact ⟨c, Int.le_refl _, rfl, HR.out⟩
  case round =>
    obtain ⟨k, hk, rfl, hp⟩ := hrel
    have HP := Lib.hid hp
    clear hp
    by_cases hlt : b < k
    · obtain ⟨hgr, A2, A3, C2, C3, c0, c1, c2, c3, hps, hbs⟩ := Prog.atg HV.out k (by omega) (by omega)
      have hpar := shape_par HS.out k (by omega) (by omega)
      have hup := up_eq HS.out k (by omega) (by omega)
      have hin := inside_up (p := p) hlt (by omega)
      rw [hup] at hin
      generalize hq : (p.bk k).parent = q at *
      have HIN := Lib.hid hin
      clear c0 c2 c3 hps hbs hin hup hq
      go_wp2
      go_round
      case rel => exact ⟨q, by omega, rfl, by rw [← HIN.out]; exact HP.out⟩
      case measure => simp [intOf]; omega
    · go_wp2
      go_ret
      exact ⟨ret_bool (by rw [← HP.out, inside_end (Int.not_lt.2 hlt)]), al1⟩

set_option maxRecDepth 100000 in
theorem I_ChildrenOf (v : Value) (p : Pr) (lo : Nat) (b : Int) (w : World) (hv : Prog w lo v p) :
    Calls Try.prog 41 #[v, .int .i64 b] w fun e w' => ∃ v', e = .returned v' ∧ Ints w' w.heap.size v' (rKids p b) ∧ Below w.heap.size w w' := by
  obtain ⟨sl, rfl, hv⟩ := hv
  have HV := Lib.hid hv
  obtain ⟨A, C, rfl⟩ := hv.form
  clear hv
  cases hs : shape p
  · have HS := Lib.hid hs
    have hat : shapeAt p b = false := by unfold shapeAt; rw [hs]; rfl
    have HAT := Lib.hid hat
    clear hs hat
    go_enter Try.func41, Try.ntmps41
    go_wp2_with (go_at_call 36; refine (I_ValidShape _ p lo _ ⟨_, rfl, HV.out.keep al1⟩).mono ?_; rintro e w3 ⟨rfl, hb3⟩; rw [HS.out]; have cb3 := boxAt1 hb3; have hB3 := bthen (al1 (w := w)) hb3; have hz3 := hB3.size; clear hb3)
    go_ret
    have hB := hB3
    exact ⟨_, rfl, by unfold rKids; rw [HAT.out]; exact Ints.nil _ _, hB⟩
  have HS := Lib.hid hs
  cases hi : inR b 0 (p.length - 1)
  · have HI := Lib.hid hi
    have hat : shapeAt p b = false := by unfold shapeAt; rw [hs, hi]; rfl
    have HAT := Lib.hid hat
    clear hs hi hat
    go_enter Try.func41, Try.ntmps41
    go_wp2_with (first
      | (go_at_call 36; refine (I_ValidShape _ p lo _ ⟨_, rfl, HV.out.keep al1⟩).mono ?_; rintro e w3 ⟨rfl, hb3⟩; rw [HS.out]; have cb3 := boxAt1 hb3; have hB3 := bthen (al1 (w := w)) hb3; have hz3 := hB3.size; clear hb3)
      | (go_at_call 130; refine (I_isBlock _ p lo b _ (HV.out.keep hB3)).mono ?_; rintro e w4 ⟨rfl, hb4⟩; rw [HI.out]; have cb := cell_later hb4 cb3; have hB4 := bthen hB3 hb4; have hz4 := hB4.size; clear hb4 cb3))
    go_ret
    have hB := hB4
    exact ⟨_, rfl, by unfold rKids; rw [HAT.out]; exact Ints.nil _ _, hB⟩
  have HI := Lib.hid hi
  have hat : shapeAt p b = true := by unfold shapeAt; rw [hs, hi]; rfl
  have HAT := Lib.hid hat
  obtain ⟨hsh, hb0, hb1⟩ := shapeAt_iff.1 hat
  have hl := shape_len hsh
  clear hs hi hsh hat

  obtain ⟨g, C', e, hg⟩ := HV.out.formS (by omega)
  obtain ⟨rfl, rfl⟩ : A = some ⟨g, 0, none⟩ ∧ C = C' := by simpa using e
  clear e
  obtain ⟨f, hf⟩ : ∃ f : Int → Bool, f = fun i => (p.bk i).parent == b := ⟨_, rfl⟩
  have hfd : ∀ i, f i = ((p.bk i).parent == b) := fun i => by rw [hf]
  have hR2 : rKids p b = upto f p.length := by rw [hf]; unfold rKids; rw [HAT.out]; rfl
  have HR := Lib.hid hR2
  have HF := Lib.hid hfd
  clear hf hfd hR2
  go_enter Try.func41, Try.ntmps41
  go_wp2_with (first
    | (go_at_call 36; refine (I_ValidShape _ p lo _ ⟨_, rfl, HV.out.keep al1⟩).mono ?_; rintro e w3 ⟨rfl, hb3⟩; rw [HS.out]; have cb3 := boxAt1 hb3; have hB3 := bthen (al1 (w := w)) hb3; have hz3 := hB3.size; clear hb3)
    | (go_at_call 130; refine (I_isBlock _ p lo b _ (HV.out.keep hB3)).mono ?_; rintro e w4 ⟨rfl, hb4⟩; rw [HI.out]; have cb := cell_later hb4 cb3; have hB4 := bthen hB3 hb4; have hz4 := hB4.size; clear hb4 cb3))
  have kn := knd (w := w) (W3 := w4) w4.heap.size rfl cb (World.block_lt_of_cell? _ _ cb) (HV.out.keep hB4) hB4
  have KN := Lib.hid kn
  clear kn
  go_loopw [5, 20] (fun o i wr => ∃ k : Nat, k ≤ p.length ∧ i = .int .i64 k ∧ Ints wr w4.heap.size o (upto f k) ∧ Below w4.heap.size w4 wr) (fun _ i _ => p.length - (intOf i).toNat)
  case atStart => exact ⟨0, Nat.zero_le _, rfl, Ints.nil _ _, Below.refl _ _⟩
  case round =>
    obtain ⟨k, hk, rfl, hown, hB⟩ := hrel
    obtain ⟨cbr, hvr, hBw, hsz⟩ := KN.out wr hB
    have hlen := upto_len f k
    have HO := Lib.hid hown
    clear hown
    by_cases hlt : k < p.length
    · obtain ⟨hgr, A2, A3, C2, C3, c0, c1, c2, c3, hps, hbs⟩ := Prog.atn hvr k hlt
      clear hps hbs hvr
      by_cases hfx : f k = true
      · have hs := upto_yes f k hfx
        have ht := (HF.out _).symm.trans hfx
        have HS2 := Lib.hid hs
        clear hs hfx
        go_wp2_with (at_builtin; refine wpList_append_ints rfl _ _ rfl _ _ _ [(k : Int)] w4.heap.size _ rfl rfl ((HO.out.keep (al1 (o := Obj.cells _ _))).keep al1) (Ints.one' _ _ (by first | rfl | simp only [World.size_alloc]) _ _ (Nat.le_refl _)) (by show _ + 1 ≤ _; omega) (by simp only [World.size_alloc]; omega) ?_; intro v' w9 hown9 hgrow9 hbel9 hfrom9)
        go_roundw
        case rel => exact ⟨k + 1, by omega, by go_num, by rw [HS2.out]; exact hown9, ((hB.alloc hsz _).alloc (by simp; omega) _).trans hbel9⟩
        case measure => simp [intOf]; omega
      · have hfx := Bool.eq_false_iff.2 hfx
        have hs := upto_no f k hfx
        have ht := (HF.out _).symm.trans hfx
        have HS2 := Lib.hid hs
        clear hs hfx
        go_wp2
        go_roundw
        case rel => exact ⟨k + 1, by omega, by go_num, by rw [HS2.out]; exact HO.out.keep al1, hB.alloc hsz _⟩
        case measure => simp [intOf]; omega
    · obtain rfl : k = p.length := by omega
      go_wp2
      go_ret
      exact ⟨_, rfl, by rw [HR.out]; exact HO.out.lo_ hz4, hBw⟩

set_option maxRecDepth 100000 in
theorem I_InsideOf (v : Value) (p : Pr) (lo : Nat) (b : Int) (w : World) (hv : Prog w lo v p) :
    Calls Try.prog 70 #[v, .int .i64 b] w fun e w' => ∃ v', e = .returned v' ∧ Ints w' w.heap.size v' (rInsides p b) ∧ Below w.heap.size w w' := by
  obtain ⟨sl, rfl, hv⟩ := hv
  have HV := Lib.hid hv
  obtain ⟨A, C, rfl⟩ := hv.form
  clear hv
  cases hs : shape p
  · have HS := Lib.hid hs
    have hat : shapeAt p b = false := by unfold shapeAt; rw [hs]; rfl
    have HAT := Lib.hid hat
    clear hs hat
    go_enter Try.func70, Try.ntmps70
    go_wp2_with (go_at_call 36; refine (I_ValidShape _ p lo _ ⟨_, rfl, HV.out.keep al1⟩).mono ?_; rintro e w3 ⟨rfl, hb3⟩; rw [HS.out]; have cb3 := boxAt1 hb3; have hB3 := bthen (al1 (w := w)) hb3; have hz3 := hB3.size; clear hb3)
    go_ret
    have hB := hB3
    exact ⟨_, rfl, by unfold rInsides; rw [HAT.out]; exact Ints.nil _ _, hB⟩
  have HS := Lib.hid hs
  cases hi : inR b 0 (p.length - 1)
  · have HI := Lib.hid hi
    have hat : shapeAt p b = false := by unfold shapeAt; rw [hs, hi]; rfl
    have HAT := Lib.hid hat
    clear hs hi hat
    go_enter Try.func70, Try.ntmps70
    go_wp2_with (first
      | (go_at_call 36; refine (I_ValidShape _ p lo _ ⟨_, rfl, HV.out.keep al1⟩).mono ?_; rintro e w3 ⟨rfl, hb3⟩; rw [HS.out]; have cb3 := boxAt1 hb3; have hB3 := bthen (al1 (w := w)) hb3; have hz3 := hB3.size; clear hb3)
      | (go_at_call 130; refine (I_isBlock _ p lo b _ (HV.out.keep hB3)).mono ?_; rintro e w4 ⟨rfl, hb4⟩; rw [HI.out]; have cb := cell_later hb4 cb3; have hB4 := bthen hB3 hb4; have hz4 := hB4.size; clear hb4 cb3))
    go_ret
    have hB := hB4
    exact ⟨_, rfl, by unfold rInsides; rw [HAT.out]; exact Ints.nil _ _, hB⟩
  have HI := Lib.hid hi
  have hat : shapeAt p b = true := by unfold shapeAt; rw [hs, hi]; rfl
  have HAT := Lib.hid hat
  obtain ⟨hsh, hb0, hb1⟩ := shapeAt_iff.1 hat
  have hl := shape_len hsh
  clear hs hi hsh hat

  obtain ⟨g, C', e, hg⟩ := HV.out.formS (by omega)
  obtain ⟨rfl, rfl⟩ : A = some ⟨g, 0, none⟩ ∧ C = C' := by simpa using e
  clear e
  obtain ⟨f, hf⟩ : ∃ f : Int → Bool, f = fun i => inside p b i := ⟨_, rfl⟩
  have hfd : ∀ i, inside p b i = f i := fun i => by rw [hf]
  have hR2 : rInsides p b = upto f p.length := by rw [hf]; unfold rInsides; rw [HAT.out]; rfl
  have HR := Lib.hid hR2
  have HF := Lib.hid hfd
  clear hf hfd hR2
  go_enter Try.func70, Try.ntmps70
  go_wp2_with (first
    | (go_at_call 36; refine (I_ValidShape _ p lo _ ⟨_, rfl, HV.out.keep al1⟩).mono ?_; rintro e w3 ⟨rfl, hb3⟩; rw [HS.out]; have cb3 := boxAt1 hb3; have hB3 := bthen (al1 (w := w)) hb3; have hz3 := hB3.size; clear hb3)
    | (go_at_call 130; refine (I_isBlock _ p lo b _ (HV.out.keep hB3)).mono ?_; rintro e w4 ⟨rfl, hb4⟩; rw [HI.out]; have cb := cell_later hb4 cb3; have hB4 := bthen hB3 hb4; have hz4 := hB4.size; clear hb4 cb3))
  have kn := knd (w := w) (W3 := w4) w4.heap.size rfl cb (World.block_lt_of_cell? _ _ cb) (HV.out.keep hB4) hB4
  have KN := Lib.hid kn
  clear kn
  go_loopw [5, 19] (fun o i wr => ∃ k : Nat, k ≤ p.length ∧ i = .int .i64 k ∧ Ints wr w4.heap.size o (upto f k) ∧ Below w4.heap.size w4 wr) (fun _ i _ => p.length - (intOf i).toNat)
  case atStart => exact ⟨0, Nat.zero_le _, rfl, Ints.nil _ _, Below.refl _ _⟩
  case round =>
    obtain ⟨k, hk, rfl, hown, hB⟩ := hrel
    obtain ⟨cbr, hvr, hBw, hsz⟩ := KN.out wr hB
    have hlen := upto_len f k
    have HO := Lib.hid hown
    have HVR := Lib.hid hvr
    clear hown hvr
    by_cases hlt : k < p.length
    · by_cases hfx : f k = true
      · have hs := upto_yes f k hfx
        have ht := (HF.out _).trans hfx
        have HS2 := Lib.hid hs
        have HT := Lib.hid ht
        clear hs hfx ht
        go_wp2_with (first
          | (go_at_call 156; refine (I_isInside _ p lo b k _ HVR.out HS.out hb0 (by omega)).mono ?_; rintro e w5 ⟨rfl, hb5⟩; rw [HT.out]; have hz5 := hb5.size)
          | (at_builtin; refine wpList_append_ints rfl _ _ rfl _ _ _ [(k : Int)] w4.heap.size _ rfl rfl ((HO.out.keep hb5).keep al1) (Ints.one' _ _ (by first | rfl | simp only [World.size_alloc]) _ _ (Nat.le_refl _)) (by show _ + 1 ≤ _; omega) (by simp only [World.size_alloc]; omega) ?_; intro v' w9 hown9 hgrow9 hbel9 hfrom9))
        go_roundw
        case rel => exact ⟨k + 1, by omega, by go_num, by rw [HS2.out]; exact hown9, ((hB.trans (hb5.mono hsz)).alloc (by omega) _).trans hbel9⟩
        case measure => simp [intOf]; omega
      · have hfx := Bool.eq_false_iff.2 hfx
        have hs := upto_no f k hfx
        have ht := (HF.out _).trans hfx
        have HS2 := Lib.hid hs
        have HT := Lib.hid ht
        clear hs hfx ht
        go_wp2_with (go_at_call 156; refine (I_isInside _ p lo b k _ HVR.out HS.out hb0 (by omega)).mono ?_; rintro e w5 ⟨rfl, hb5⟩; rw [HT.out]; have hz5 := hb5.size)
        go_roundw
        case rel => exact ⟨k + 1, by omega, by go_num, by rw [HS2.out]; exact HO.out.keep hb5, hB.trans (hb5.mono hsz)⟩
        case measure => simp [intOf]; omega
    · obtain rfl : k = p.length := by omega
      go_wp2
      go_ret
      exact ⟨_, rfl, by rw [HR.out]; exact HO.out.lo_ hz4, hBw⟩

theorem I_DepthOf (v : Value) (p : Pr) (lo : Nat) (b : Int) (w : World) (hv : Prog w lo v p) :
    Calls Try.prog 39 #[v, .int .i64 b] w fun e w' => e = .returned (.int .i64 (rDepth p b)) ∧ Below w.heap.size w w' := by
  obtain ⟨sl, rfl, hv⟩ := hv
  have HV := Lib.hid hv
  obtain ⟨A, C, rfl⟩ := hv.form
  clear hv
  cases hs : shape p
  · have HS := Lib.hid hs
    have hat : shapeAt p b = false := by unfold shapeAt; rw [hs]; rfl
    have HAT := Lib.hid hat
    clear hs hat
    go_enter Try.func39, Try.ntmps39
    go_wp2_with (go_at_call 36; refine (I_ValidShape _ p lo _ ⟨_, rfl, HV.out.keep al1⟩).mono ?_; rintro e w3 ⟨rfl, hb3⟩; rw [HS.out]; have cb3 := boxAt1 hb3; have hB3 := bthen (al1 (w := w)) hb3; have hz3 := hB3.size; clear hb3)
    go_ret
    have hB := hB3
    exact ⟨ret_int (by unfold rDepth; rw [HAT.out]; rfl), hB⟩
  have HS := Lib.hid hs
  cases hi : inR b 0 (p.length - 1)
  · have HI := Lib.hid hi
    have hat : shapeAt p b = false := by unfold shapeAt; rw [hs, hi]; rfl
    have HAT := Lib.hid hat
    clear hs hi hat
    go_enter Try.func39, Try.ntmps39
    go_wp2_with (first
      | (go_at_call 36; refine (I_ValidShape _ p lo _ ⟨_, rfl, HV.out.keep al1⟩).mono ?_; rintro e w3 ⟨rfl, hb3⟩; rw [HS.out]; have cb3 := boxAt1 hb3; have hB3 := bthen (al1 (w := w)) hb3; have hz3 := hB3.size; clear hb3)
      | (go_at_call 130; refine (I_isBlock _ p lo b _ (HV.out.keep hB3)).mono ?_; rintro e w4 ⟨rfl, hb4⟩; rw [HI.out]; have cb := cell_later hb4 cb3; have hB4 := bthen hB3 hb4; have hz4 := hB4.size; clear hb4 cb3))
    go_ret
    have hB := hB4
    exact ⟨ret_int (by unfold rDepth; rw [HAT.out]; rfl), hB⟩
  have HI := Lib.hid hi
  have hat : shapeAt p b = true := by unfold shapeAt; rw [hs, hi]; rfl
  have HAT := Lib.hid hat
  obtain ⟨hsh, hb0, hb1⟩ := shapeAt_iff.1 hat
  have hl := shape_len hsh
  clear hs hi hsh hat

  obtain ⟨g, C', e, hg⟩ := HV.out.formS (by omega)
  obtain ⟨rfl, rfl⟩ : A = some ⟨g, 0, none⟩ ∧ C = C' := by simpa using e
  clear e
  have hR : rDepth p b = depth p b := by unfold rDepth; rw [HAT.out]; rfl
  have hdl := (depth_le p b.toNat b (by omega)).2
  rw [← hR] at hdl
  have HR := Lib.hid hR
  clear hR
  generalize rDepth p b = R at *
  go_enter Try.func39, Try.ntmps39
  go_wp2_with (first
    | (go_at_call 36; refine (I_ValidShape _ p lo _ ⟨_, rfl, HV.out.keep al1⟩).mono ?_; rintro e w3 ⟨rfl, hb3⟩; rw [HS.out]; have cb3 := boxAt1 hb3; have hB3 := bthen (al1 (w := w)) hb3; have hz3 := hB3.size; clear hb3)
    | (go_at_call 130; refine (I_isBlock _ p lo b _ (HV.out.keep hB3)).mono ?_; rintro e w4 ⟨rfl, hb4⟩; rw [HI.out]; have cb := cell_later hb4 cb3; have hB4 := bthen hB3 hb4; have hz4 := hB4.size; clear hb4 cb3))
  have HVR := Lib.hid (HV.out.keep hB4)
  go_loop [1, 5] (fun i n => ∃ (k : Int) (m : Int), 0 ≤ k ∧ k ≤ b ∧ 0 ≤ m ∧ m ≤ b - k ∧ i = .int .i64 k ∧ n = .int .i64 m ∧ R = m + depth p k) (fun i _ => (intOf i).toNat)
  case atStart => exact ⟨b, 0, hb0, Int.le_refl _, Int.le_refl _, by omega, rfl, rfl, by rw [HR.out]; omega⟩
  case round =>
    obtain ⟨k, m, hk0, hk, hm0, hm, rfl, rfl, hp⟩ := hrel
    have HP := Lib.hid hp
    clear hp
    by_cases hlt : 0 < k
    · obtain ⟨hgr, A2, A3, C2, C3, c0, c1, c2, c3, hps, hbs⟩ := Prog.atg HVR.out k (by omega) (by omega)
      have hpar := shape_par HS.out k (by omega) (by omega)
      have hup := up_eq HS.out k (by omega) (by omega)
      have hin := depth_up (p := p) hlt
      have hne : (k != 0) = true := by simp; omega
      rw [hup] at hin
      generalize hq : (p.bk k).parent = q at *
      have HIN := Lib.hid hin
      clear c0 c2 c3 hps hbs hin hup hq
      go_wp2
      go_round
      case rel => exact ⟨q, m + 1, by omega, by omega, by omega, by omega, rfl, rfl, by rw [HP.out, HIN.out]; omega⟩
      case measure => simp [intOf]; omega
    · obtain rfl : k = 0 := by omega
      go_wp2
      go_ret
      exact ⟨ret_int (by rw [HP.out, depth_end (by omega)]; omega), hB4⟩

end Go.Proofs.Ytklikpcfmmpocaa
