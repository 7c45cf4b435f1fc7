/-
  Walks: the reference's ChildrenOf, inside, InsideOf, DepthOf, ReadIn, BoundIn, DeclaredIn. Condition: the argument reads as a program.
-/
import Derived.Test.YtklikpcfmmpocaaSpec5
namespace Go.Proofs.Ytklikpcfmmpocaa
open Go.RowKit
set_option linter.unusedVariables false

/-- A box that lies below. -/
theorem boxAt {w w' : World} {o : Obj} {v : Value} (h : Below (w.alloc o).heap.size (w.alloc o) w') (hc : (w.alloc o).cell? ⟨w.heap.size, 0, none⟩ = some v) : w'.cell? ⟨w.heap.size, 0, none⟩ = some v :=
  (h.cell (p := ⟨w.heap.size, 0, none⟩) (by simp)).trans hc

theorem boxAt1 {w w' : World} {v : Value} {t : TypeId} (h : Below (w.alloc (.cells #[v] t)).heap.size (w.alloc (.cells #[v] t)) w') : w'.cell? ⟨w.heap.size, 0, none⟩ = some v :=
  boxAt h (by simp [go_sem])

theorem Ints.one' (w : World) (B : Nat) (hB : w.heap.size = B) (lo : Nat) (a : Int) (hl : lo ≤ B) : Ints (w.alloc (.cells #[.int .i64 a] 3)) lo (.slice (some ⟨B, 0, none⟩) 1 1) [a] := by
  subst hB
  exact Ints.one w lo a hl

theorem S_inside (sl : Value) (p : Pr) (lo : Nat) (b c : Int) (w : World) (hv : Blks w lo sl p) (hs : shape p = true) (hb : 0 ≤ b) (hc : c < p.length) :
    Calls Try.prog 157 #[.agg #[sl], .int .i64 c, .int .i64 b] w fun e w' => e = .returned (.bool (inside p b c)) ∧ Below w.heap.size w w' := by
  have hl := shape_len hs
  obtain ⟨g, C, rfl, hg⟩ := hv.formS (by omega)
  have HV := Lib.hid (hv.keep (al1 (o := .cells #[.slice (some ⟨g, 0, none⟩) p.length C] 30)))
  have HS := Lib.hid hs
  clear hv hs
  generalize hR : inside p b c = R
  have HR := Lib.hid hR
  clear hR
  go_enter Try.func157, Try.ntmps157
  go_wp2
  go_loop [1] (fun i => ∃ k : Int, k ≤ c ∧ i = .int .i64 k ∧ inside p b k = R) (fun i => (intOf i).toNat)
  case atStart => exact ⟨c, Int.le_refl _, rfl, HR.out⟩
  case round =>
    obtain ⟨k, hk, rfl, hp⟩ := hrel
    have HP := Lib.hid hp
    clear hp
    by_cases hlt : b < k
    · obtain ⟨hgr, A2, A3, C2, C3, c0, c1, c2, c3, hps, hbs⟩ := Prog.atg HV.out k (by omega) (by omega)
      have hpar := shape_par HS.out k (by omega) (by omega)
      have hup := up_eq HS.out k (by omega) (by omega)
      have hin := inside_up (p := p) hlt (by omega)
      rw [hup] at hin
      generalize hq : (p.bk k).parent = q at *
      have HIN := Lib.hid hin
      clear c0 c2 c3 hps hbs hin hup hq
      go_wp2
      go_round
      case rel => exact ⟨q, by omega, rfl, by rw [← HIN.out]; exact HP.out⟩
      case measure => simp [intOf]; omega
    · go_wp2
      go_ret
      exact ⟨ret_bool (by rw [← HP.out, inside_end (Int.not_lt.2 hlt)]), al1⟩

set_option maxRecDepth 100000 in
theorem S_ChildrenOf (v : Value) (p : Pr) (lo : Nat) (b : Int) (w : World) (hv : Prog w lo v p) :
    Calls Try.prog 44 #[v, .int .i64 b] w fun e w' => ∃ v', e = .returned v' ∧ Ints w' w.heap.size v' (rKids p b) ∧ Below w.heap.size w w' := by
  obtain ⟨sl, rfl, hv⟩ := hv
  have HV := Lib.hid hv
  obtain ⟨A, C, rfl⟩ := hv.form
  have hR : rKids p b = if shapeAt p b then kidsF p b else [] := rfl
  generalize rKids p b = R at *
  clear hv
  by_cases hs : shapeAt p b = true
  · obtain ⟨hsh, hb0, hb1⟩ := shapeAt_iff.1 hs
    have hl := shape_len hsh
    obtain ⟨g, C', e, hg⟩ := HV.out.formS (by omega)
    obtain ⟨rfl, rfl⟩ : A = some ⟨g, 0, none⟩ ∧ C = C' := by simpa using e
    rw [if_pos hs] at hR
    obtain ⟨f, hf⟩ : ∃ f : Int → Bool, f = fun i => (p.bk i).parent == b := ⟨_, rfl⟩
    have hfd : ∀ i, f i = ((p.bk i).parent == b) := fun i => by rw [hf]
    have hR2 : R = upto f p.length := by rw [hR, hf]; rfl
    have hu1 : upto f 1 = [] := upto_nil fun i hi => by
      obtain rfl : i = 0 := by omega
      rw [hfd, Int.natCast_zero, (shape_par0 hsh).1, beq_eq_false_iff_ne]
      omega
    have HR := Lib.hid hR2
    have HF := Lib.hid hfd
    have HU := Lib.hid hu1
    have HS := Lib.hid hs
    clear hs hR hR2 hf hfd hu1 e
    go_enter Try.func44, Try.ntmps44
    go_wp2_with fail
    refine (S_validAt _ p lo b _ ⟨_, rfl, HV.out.keep al1⟩).mono ?_
    rintro e w3 ⟨rfl, hb3⟩
    rw [HS.out]
    have hB3 := bthen (al1 (w := w)) hb3
    have kn := knd (w := w) (W3 := w3) w3.heap.size rfl (boxAt hb3 (by simp [go_sem])) (by have := hb3.size; simp at this; omega) (HV.out.keep hB3) hB3
    have KN := Lib.hid kn
    have hz3 := hB3.size
    clear kn hb3 hB3
    go_wp2
    go_loopw [5, 6] (fun o i wr => ∃ k : Nat, 1 ≤ k ∧ k ≤ p.length ∧ i = .int .i64 k ∧ Ints wr w3.heap.size o (upto f k) ∧ Below w3.heap.size w3 wr) (fun _ i _ => p.length - (intOf i).toNat)
    case atStart => exact ⟨1, Nat.le_refl _, by omega, rfl, by rw [HU.out]; exact Ints.zero _ _ (Nat.le_refl _), al1⟩
    case round =>
      obtain ⟨k, hk1, hk, rfl, hown, hB⟩ := hrel
      obtain ⟨cb, hvr, hBw, hsz⟩ := KN.out wr hB
      have hlen := upto_len f k
      have HO := Lib.hid hown
      clear hown
      by_cases hlt : k < p.length
      · obtain ⟨hgr, A2, A3, C2, C3, c0, c1, c2, c3, hps, hbs⟩ := Prog.atn hvr k hlt
        clear c0 c2 c3 hps hbs hvr
        by_cases hfx : f k = true
        · have hs := upto_yes f k hfx
          have ht := (HF.out _).symm.trans hfx
          have HS := Lib.hid hs
          clear hs hfx
          go_wp2_with (at_builtin; refine wpList_append_ints rfl _ _ rfl _ _ _ [(k : Int)] w3.heap.size _ rfl rfl (HO.out.keep al1) (Ints.one _ _ _ (Nat.le_refl _)) (by show _ + 1 ≤ _; omega) (by rw [World.size_alloc]; omega) ?_; intro v' w2 hown1 hgrow hbel hfrom)
          go_roundw
          case rel => exact ⟨k + 1, by omega, by omega, by go_num, by rw [HS.out]; exact hown1, (hB.alloc hsz _).trans hbel⟩
          case measure => simp [intOf]; omega
        · have hfx := Bool.eq_false_iff.2 hfx
          have hs := upto_no f k hfx
          have ht := (HF.out _).symm.trans hfx
          have HS := Lib.hid hs
          clear hs hfx
          go_wp2
          go_roundw
          case rel => exact ⟨k + 1, by omega, by omega, by go_num, by rw [HS.out]; exact HO.out, hB⟩
          case measure => simp [intOf]; omega
      · obtain rfl : k = p.length := by omega
        go_wp2
        go_ret
        exact ⟨_, rfl, by rw [HR.out]; exact HO.out.lo_ hz3, hBw⟩
  · have hs' := Bool.eq_false_iff.2 hs
    rw [if_neg hs] at hR
    have HR := Lib.hid hR
    have HS := Lib.hid hs'
    clear hs hs' hR
    go_enter Try.func44, Try.ntmps44
    go_wp2_with (go_at_call 131; refine (S_validAt _ p lo b _ ⟨_, rfl, HV.out.keep al1⟩).mono ?_; rintro e w3 ⟨rfl, hb3⟩; rw [HS.out])
    go_ret
    exact ⟨_, rfl, by rw [HR.out]; exact Ints.nil _ _, bthen al1 hb3⟩

set_option maxRecDepth 100000 in
theorem S_InsideOf (v : Value) (p : Pr) (lo : Nat) (b : Int) (w : World) (hv : Prog w lo v p) :
    Calls Try.prog 71 #[v, .int .i64 b] w fun e w' => ∃ v', e = .returned v' ∧ Ints w' w.heap.size v' (rInsides p b) ∧ Below w.heap.size w w' := by
  obtain ⟨sl, rfl, hv⟩ := hv
  have HV := Lib.hid hv
  obtain ⟨A, C, rfl⟩ := hv.form
  have hR : rInsides p b = if shapeAt p b then insidesF p b else [] := rfl
  generalize rInsides p b = R at *
  clear hv
  by_cases hs : shapeAt p b = true
  · obtain ⟨hsh, hb0, hb1⟩ := shapeAt_iff.1 hs
    have HSH := Lib.hid hsh
    have hl := shape_len hsh
    obtain ⟨g, C', e, hg⟩ := HV.out.formS (by omega)
    obtain ⟨rfl, rfl⟩ : A = some ⟨g, 0, none⟩ ∧ C = C' := by simpa using e
    rw [if_pos hs] at hR
    obtain ⟨f, hf⟩ : ∃ f : Int → Bool, f = fun i => inside p b i := ⟨_, rfl⟩
    have hfd : ∀ i, inside p b i = f i := fun i => by rw [hf]
    have hR2 : R = upto f p.length := by rw [hR, hf]; rfl
    have hu1 : upto f b.toNat = [] := upto_nil fun i hi => by
      rw [← hfd, inside_end (by omega), beq_eq_false_iff_ne]
      omega
    have HR := Lib.hid hR2
    have HF := Lib.hid hfd
    have HU := Lib.hid hu1
    have HS := Lib.hid hs
    clear hs hsh hR hR2 hf hfd hu1 e
    go_enter Try.func71, Try.ntmps71
    go_wp2_with fail
    refine (S_validAt _ p lo b _ ⟨_, rfl, HV.out.keep al1⟩).mono ?_
    rintro e w3 ⟨rfl, hb3⟩
    rw [HS.out]
    have hB3 := bthen (al1 (w := w)) hb3
    have kn := knd (w := w) (W3 := w3) w3.heap.size rfl (boxAt hb3 (by simp [go_sem])) (by have := hb3.size; simp at this; omega) (HV.out.keep hB3) hB3
    have KN := Lib.hid kn
    have hz3 := hB3.size
    clear kn hb3 hB3
    go_wp2
    go_loopw [5, 6] (fun o i wr => ∃ k : Nat, b ≤ k ∧ k ≤ p.length ∧ i = .int .i64 k ∧ Ints wr w3.heap.size o (upto f k) ∧ Below w3.heap.size w3 wr) (fun _ i _ => p.length - (intOf i).toNat)
    case atStart => exact ⟨b.toNat, by omega, by omega, by rw [Int.toNat_of_nonneg hb0], by rw [HU.out]; exact Ints.zero _ _ (Nat.le_refl _), al1⟩
    case round =>
      obtain ⟨k, hk1, hk, rfl, hown, hB⟩ := hrel
      obtain ⟨cb, hvr, hBw, hsz⟩ := KN.out wr hB
      have hlen := upto_len f k
      have HO := Lib.hid hown
      have HVR := Lib.hid hvr
      clear hown hvr
      by_cases hlt : k < p.length
      · by_cases hfx : f k = true
        · have hs := upto_yes f k hfx
          have ht := (HF.out _).trans hfx
          have HS := Lib.hid hs
          have HT := Lib.hid ht
          clear hs hfx ht
          go_wp2_with (first
            | (go_at_call 157; refine (S_inside _ p lo b k _ HVR.out HSH.out hb0 (by omega)).mono ?_; rintro e w4 ⟨rfl, hb4⟩; rw [HT.out]; have hz4 := hb4.size)
            | (at_builtin; refine wpList_append_ints rfl _ _ rfl _ _ _ [(k : Int)] w3.heap.size _ rfl rfl ((HO.out.keep hb4).keep al1) (Ints.one _ _ _ (Nat.le_refl _)) (by show _ + 1 ≤ _; omega) (by rw [World.size_alloc]; omega) ?_; intro v' w2 hown1 hgrow hbel hfrom))
          go_roundw
          case rel => exact ⟨k + 1, by omega, by omega, by go_num, by rw [HS.out]; exact hown1, ((hB.trans (hb4.mono hsz)).alloc (by omega) _).trans hbel⟩
          case measure => simp [intOf]; omega
        · have hfx := Bool.eq_false_iff.2 hfx
          have hs := upto_no f k hfx
          have ht := (HF.out _).trans hfx
          have HS := Lib.hid hs
          have HT := Lib.hid ht
          clear hs hfx ht
          go_wp2_with (go_at_call 157; refine (S_inside _ p lo b k _ HVR.out HSH.out hb0 (by omega)).mono ?_; rintro e w4 ⟨rfl, hb4⟩; rw [HT.out]; have hz4 := hb4.size)
          go_roundw
          case rel => exact ⟨k + 1, by omega, by omega, by go_num, by rw [HS.out]; exact HO.out.keep hb4, hB.trans (hb4.mono hsz)⟩
          case measure => simp [intOf]; omega
      · obtain rfl : k = p.length := by omega
        go_wp2
        go_ret
        exact ⟨_, rfl, by rw [HR.out]; exact HO.out.lo_ hz3, hBw⟩
  · have hs' := Bool.eq_false_iff.2 hs
    rw [if_neg hs] at hR
    have HR := Lib.hid hR
    have HS := Lib.hid hs'
    clear hs hs' hR
    go_enter Try.func71, Try.ntmps71
    go_wp2_with (go_at_call 131; refine (S_validAt _ p lo b _ ⟨_, rfl, HV.out.keep al1⟩).mono ?_; rintro e w3 ⟨rfl, hb3⟩; rw [HS.out])
    go_ret
    exact ⟨_, rfl, by rw [HR.out]; exact Ints.nil _ _, bthen al1 hb3⟩

theorem S_DepthOf (v : Value) (p : Pr) (lo : Nat) (b : Int) (w : World) (hv : Prog w lo v p) :
    Calls Try.prog 40 #[v, .int .i64 b] w fun e w' => e = .returned (.int .i64 (rDepth p b)) ∧ Below w.heap.size w w' := by
  obtain ⟨sl, rfl, hv⟩ := hv
  have HV := Lib.hid hv
  obtain ⟨A, C, rfl⟩ := hv.form
  have hR : rDepth p b = if shapeAt p b then depth p b else -1 := rfl
  generalize rDepth p b = R at *
  clear hv
  by_cases hs : shapeAt p b = true
  · obtain ⟨hsh, hb0, hb1⟩ := shapeAt_iff.1 hs
    have HSH := Lib.hid hsh
    have hl := shape_len hsh
    obtain ⟨g, C', e, hg⟩ := HV.out.formS (by omega)
    obtain ⟨rfl, rfl⟩ : A = some ⟨g, 0, none⟩ ∧ C = C' := by simpa using e
    rw [if_pos hs] at hR
    have HR := Lib.hid hR
    have HS := Lib.hid hs
    have hdl := (depth_le p b.toNat b (by omega)).2
    rw [← hR] at hdl
    clear hs hsh hR e
    go_enter Try.func40, Try.ntmps40
    go_wp2_with fail
    refine (S_validAt _ p lo b _ ⟨_, rfl, HV.out.keep al1⟩).mono ?_
    rintro e w3 ⟨rfl, hb3⟩
    rw [HS.out]
    have hB3 := bthen (al1 (w := w)) hb3
    have cb := boxAt hb3 (v := .slice (some ⟨g, 0, none⟩) p.length C) (by simp [go_sem])
    have HVR := Lib.hid (HV.out.keep hB3)
    clear hb3
    go_wp2
    go_loop [1, 5] (fun i n => ∃ (k : Int) (m : Int), 0 ≤ k ∧ k ≤ b ∧ 0 ≤ m ∧ m ≤ b - k ∧ i = .int .i64 k ∧ n = .int .i64 m ∧ R = m + depth p k) (fun i _ => (intOf i).toNat)
    case atStart => exact ⟨b, 0, hb0, Int.le_refl _, Int.le_refl _, by omega, rfl, rfl, by rw [HR.out]; omega⟩
    case round =>
      obtain ⟨k, m, hk0, hk, hm0, hm, rfl, rfl, hp⟩ := hrel
      have HP := Lib.hid hp
      clear hp
      by_cases hlt : 0 < k
      · obtain ⟨hgr, A2, A3, C2, C3, c0, c1, c2, c3, hps, hbs⟩ := Prog.atg HVR.out k (by omega) (by omega)
        have hpar := shape_par HSH.out k (by omega) (by omega)
        have hup := up_eq HSH.out k (by omega) (by omega)
        have hin := depth_up (p := p) hlt
        rw [hup] at hin
        generalize hq : (p.bk k).parent = q at *
        have HIN := Lib.hid hin
        clear c0 c2 c3 hps hbs hin hup hq
        go_wp2
        go_round
        case rel => exact ⟨q, m + 1, by omega, by omega, by omega, by omega, rfl, rfl, by rw [HP.out, HIN.out]; omega⟩
        case measure => simp [intOf]; omega
      · go_wp2
        go_ret
        exact ⟨ret_int (by rw [HP.out, depth_end (Int.not_lt.2 hlt)]; omega), hB3⟩
  · have hs' := Bool.eq_false_iff.2 hs
    rw [if_neg hs] at hR
    have HR := Lib.hid hR
    have HS := Lib.hid hs'
    clear hs hs' hR
    go_enter Try.func40, Try.ntmps40
    go_wp2_with (go_at_call 131; refine (S_validAt _ p lo b _ ⟨_, rfl, HV.out.keep al1⟩).mono ?_; rintro e w3 ⟨rfl, hb3⟩; rw [HS.out])
    go_ret
    exact ⟨ret_int HR.out.symm, bthen al1 hb3⟩

set_option maxRecDepth 100000 in
theorem S_ReadIn (v : Value) (p : Pr) (lo : Nat) (b : Int) (w : World) (hv : Prog w lo v p) :
    Calls Try.prog 65 #[v, .int .i64 b] w fun e w' => ∃ v', e = .returned v' ∧ Ints w' w.heap.size v' (rRead p b) ∧ Below w.heap.size w w' := by
  obtain ⟨sl, rfl, hv⟩ := hv
  have HV := Lib.hid hv
  obtain ⟨A, C, rfl⟩ := hv.form
  have hR : rRead p b = if shapeAt p b then readF p b else [] := rfl
  generalize rRead p b = R at *
  clear hv
  by_cases hs : shapeAt p b = true
  · obtain ⟨hsh, hb0, hb1⟩ := shapeAt_iff.1 hs
    have HSH := Lib.hid hsh
    have hl := shape_len hsh
    rw [if_pos hs] at hR
    have HR := Lib.hid hR
    have HS := Lib.hid hs
    clear hs hsh hR
    go_enter Try.func65, Try.ntmps65
    go_wp2_with (first
      | (go_at_call 131; refine (S_validAt _ p lo b _ ⟨_, rfl, HV.out.keep al1⟩).mono ?_; rintro e w3 ⟨rfl, hb3⟩; rw [HS.out]; have cb := boxAt hb3 (v := .slice A p.length C) (by simp [go_sem]); have hB3 := bthen (al1 (w := w)) hb3; have hz3 := hB3.size; clear hb3)
      | (go_at_call 150; refine (S_read _ p lo b _ ⟨_, rfl, HV.out.keep hB3⟩ hb0 hb1 (by omega) (Nat.le_trans (shape_body HSH.out b hb0 hb1) (by omega))).mono ?_; rintro e w4 ⟨rv, rfl, hi4, hb4⟩))
    go_ret
    exact ⟨_, rfl, by rw [HR.out]; exact hi4.lo_ hz3, bthen hB3 hb4⟩
  · have hs' := Bool.eq_false_iff.2 hs
    rw [if_neg hs] at hR
    have HR := Lib.hid hR
    have HS := Lib.hid hs'
    clear hs hs' hR
    go_enter Try.func65, Try.ntmps65
    go_wp2_with (go_at_call 131; refine (S_validAt _ p lo b _ ⟨_, rfl, HV.out.keep al1⟩).mono ?_; rintro e w3 ⟨rfl, hb3⟩; rw [HS.out])
    go_ret
    exact ⟨_, rfl, by rw [HR.out]; exact Ints.nil _ _, bthen al1 hb3⟩

set_option maxRecDepth 100000 in
theorem S_BoundIn (v : Value) (p : Pr) (lo : Nat) (b : Int) (w : World) (hv : Prog w lo v p) :
    Calls Try.prog 52 #[v, .int .i64 b] w fun e w' => ∃ v', e = .returned v' ∧ Ints w' w.heap.size v' (rBound p b) ∧ Below w.heap.size w w' := by
  obtain ⟨sl, rfl, hv⟩ := hv
  have HV := Lib.hid hv
  obtain ⟨A, C, rfl⟩ := hv.form
  have hR : rBound p b = if shapeAt p b then boundF p b else [] := rfl
  generalize rBound p b = R at *
  clear hv
  by_cases hs : shapeAt p b = true
  · obtain ⟨hsh, hb0, hb1⟩ := shapeAt_iff.1 hs
    have HSH := Lib.hid hsh
    have hl := shape_len hsh
    rw [if_pos hs] at hR
    have HR := Lib.hid hR
    have HS := Lib.hid hs
    clear hs hsh hR
    go_enter Try.func52, Try.ntmps52
    go_wp2_with (first
      | (go_at_call 131; refine (S_validAt _ p lo b _ ⟨_, rfl, HV.out.keep al1⟩).mono ?_; rintro e w3 ⟨rfl, hb3⟩; rw [HS.out]; have cb := boxAt hb3 (v := .slice A p.length C) (by simp [go_sem]); have hB3 := bthen (al1 (w := w)) hb3; have hz3 := hB3.size; clear hb3)
      | (go_at_call 137; refine (S_bound _ p lo b _ ⟨_, rfl, HV.out.keep hB3⟩ hb0 hb1 (by omega) (Nat.le_trans (shape_body HSH.out b hb0 hb1) (by omega)) (Nat.le_trans (shape_params HSH.out b hb0 hb1).1 (by omega))).mono ?_; rintro e w4 ⟨rv, rfl, hi4, hb4⟩))
    go_ret
    exact ⟨_, rfl, by rw [HR.out]; exact hi4.lo_ hz3, bthen hB3 hb4⟩
  · have hs' := Bool.eq_false_iff.2 hs
    rw [if_neg hs] at hR
    have HR := Lib.hid hR
    have HS := Lib.hid hs'
    clear hs hs' hR
    go_enter Try.func52, Try.ntmps52
    go_wp2_with (go_at_call 131; refine (S_validAt _ p lo b _ ⟨_, rfl, HV.out.keep al1⟩).mono ?_; rintro e w3 ⟨rfl, hb3⟩; rw [HS.out])
    go_ret
    exact ⟨_, rfl, by rw [HR.out]; exact Ints.nil _ _, bthen al1 hb3⟩

set_option maxRecDepth 100000 in
theorem S_DeclaredIn (v : Value) (p : Pr) (lo : Nat) (b d : Int) (w : World) (hv : Prog w lo v p) :
    Calls Try.prog 49 #[v, .int .i64 b, .int .i64 d] w fun e w' => ∃ v', e = .returned v' ∧ Ints w' w.heap.size v' (rDecl p b d) ∧ Below w.heap.size w w' := by
  obtain ⟨sl, rfl, hv⟩ := hv
  have HV := Lib.hid hv
  obtain ⟨A, C, rfl⟩ := hv.form
  have hR : rDecl p b d = if shapeAt p b && inR d 9 10 then declF p b d else [] := rfl
  generalize rDecl p b d = R at *
  clear hv
  by_cases hs : shapeAt p b = true
  · obtain ⟨hsh, hb0, hb1⟩ := shapeAt_iff.1 hs
    have HSH := Lib.hid hsh
    have hl := shape_len hsh
    rw [hs, Bool.true_and] at hR
    have HR := Lib.hid hR
    have HS := Lib.hid hs
    clear hs hsh hR
    cases hd : inR d 9 10
    all_goals
      have HD := Lib.hid hd
      clear hd
      go_enter Try.func49, Try.ntmps49
      go_wp2_with (first
        | (go_at_call 131; refine (S_validAt _ p lo b _ ⟨_, rfl, HV.out.keep al1⟩).mono ?_; rintro e w3 ⟨rfl, hb3⟩; rw [HS.out]; have cb := boxAt hb3 (v := .slice A p.length C) (by simp [go_sem]); have hB3 := bthen (al1 (w := w)) hb3; have hz3 := hB3.size; clear hb3)
        | (go_at_call 134; refine (S_inRange _ _ _ _).mono ?_; rintro e w' ⟨rfl, rfl⟩; rw [HD.out])
        | (go_at_call 135; refine (S_declared _ p lo b d _ ⟨_, rfl, HV.out.keep hB3⟩ hb0 hb1 (by omega) (Nat.le_trans (shape_body HSH.out b hb0 hb1) (by omega))).mono ?_; rintro e w4 ⟨rv, rfl, hi4, hb4⟩))
      go_ret
      first
        | exact ⟨_, rfl, by rw [HR.out, HD.out]; exact hi4.lo_ hz3, bthen hB3 hb4⟩
        | exact ⟨_, rfl, by rw [HR.out, HD.out]; exact Ints.nil _ _, hB3⟩
  · have hs' := Bool.eq_false_iff.2 hs
    rw [hs', Bool.false_and] at hR
    have HR := Lib.hid hR
    have HS := Lib.hid hs'
    clear hs hs' hR
    go_enter Try.func49, Try.ntmps49
    go_wp2_with (go_at_call 131; refine (S_validAt _ p lo b _ ⟨_, rfl, HV.out.keep al1⟩).mono ?_; rintro e w3 ⟨rfl, hb3⟩; rw [HS.out])
    go_ret
    exact ⟨_, rfl, by rw [HR.out]; exact Ints.nil _ _, bthen al1 hb3⟩

end Go.Proofs.Ytklikpcfmmpocaa
