/-
  Walks: the reference's allNames, seen, SeenIn. Condition: the argument reads as a program.
-/
import Derived.Test.YtklikpcfmmpocaaSpec13
namespace Go.Proofs.Ytklikpcfmmpocaa
open Go.RowKit
set_option linter.unusedVariables false

/-- What a block sees: P41. -/
def seenB (p : Pr) (b x : Int) : Bool := !decide ((p.bk b).kind = 1) || (locP p b x || freeB p b x)
def seenF (p : Pr) (b : Int) : List Int := nms (seenB p b)
def rSeen (p : Pr) (b : Int) : List Int := if validB p b then seenF p b else []
theorem rSeen_len (p : Pr) (b : Int) : (rSeen p b).length ≤ 1000000 := by unfold rSeen; split; exact nms_lenB _; simp
theorem seen_all {p : Pr} {b : Int} (hk : (p.bk b).kind ≠ 1) : nms (fun _ => true) = seenF p b := nms_congr fun x _ _ => by unfold seenB; rw [decide_eq_false hk]; rfl
theorem cell_loc {p : Pr} {b x : Int} (hb : 0 ≤ b) (h : cellB p b x = true) : locP p b x = true := by
  obtain ⟨_, c, h0, h1, h2, h3, h4⟩ := cellB_iff.1 h
  unfold locP
  rcases ownerF_cases p c x h0 with e | ⟨a1, _, a3, _⟩
  · rw [h4] at e
    omega
  · rw [h4] at a1 a3
    rw [decide_eq_true a1, Bool.true_and]
    exact a3
theorem seen_eq {p : Pr} {b : Int} (hs : shape p = true) (hb : 0 ≤ b) (hk : (p.bk b).kind = 1) : nms (hasF ((fastsF p b ++ cellsF p b) ++ freesF p b)) = seenF p b := by
  refine nms_congr fun x h0 h1 => ?_
  have e : ∀ l : List Int, hasF l x = l.contains x := fun _ => rfl
  rw [e, List.contains_append, List.contains_append, ← e, ← e, ← e]
  unfold fastsF cellsF freesF seenB
  rw [hasF_nms _ x h0 h1, hasF_nms _ x h0 h1, hasF_nms _ x h0 h1, decide_eq_true hk, fastB_yes hs hb hk]
  cases hc : cellB p b x
  · simp
  · rw [cell_loc hb hc]
    simp

set_option maxRecDepth 100000 in
theorem S_allNames (w : World) :
    Calls Try.prog 222 #[] w fun e w' => ∃ v', e = .returned v' ∧ Ints w' w.heap.size v' (nms (fun _ => true)) ∧ Below w.heap.size w w' := by
  obtain ⟨f, hf⟩ : ∃ f : Int → Bool, f = fun _ => true := ⟨_, rfl⟩
  have hfd : ∀ x, f x = true := fun x => by rw [hf]
  have hR : nms (fun _ => true) = upto f 8 := by rw [hf, nms]
  generalize nms (fun _ => true) = R at *
  have HR := Lib.hid hR
  have HF := Lib.hid hfd
  clear hR hf hfd
  go_enter Try.func222, Try.ntmps222
  go_wp2
  go_loopw [1, 2] (fun o i wr => ∃ k : Nat, k ≤ 8 ∧ i = .int .i64 k ∧ Ints wr w.heap.size o (upto f k) ∧ Below w.heap.size w wr) (fun _ i _ => 8 - (intOf i).toNat)
  case atStart => exact ⟨0, by omega, rfl, Ints.zero w _ (Nat.le_refl _), al1⟩
  case round =>
    obtain ⟨k, hk, rfl, hown, hB⟩ := hrel
    have hlen := upto_len f k
    have hsz := hB.size
    have HO := Lib.hid hown
    clear hown
    by_cases hlt : k < 8
    · have hs := upto_yes f k (HF.out _)
      have HS := Lib.hid hs
      have hle : (k : Int) ≤ 7 := by omega
      clear hs
      go_wp2_with (at_builtin; refine wpList_append_ints rfl _ _ rfl _ _ _ [(k : Int)] w.heap.size _ rfl rfl ((HO.out).keep al1) (Ints.one' _ _ (by first | rfl | simp only [World.size_alloc]) _ _ (Nat.le_refl _)) (by show _ + 1 ≤ _; omega) (by simp only [World.size_alloc]; omega) ?_; intro v' w9 hown9 hgrow9 hbel9 hfrom9)
      go_roundw
      case rel => exact ⟨k + 1, by omega, by go_num, by rw [HS.out]; exact hown9, hB.trans ((al1.mono (by omega)).trans hbel9)⟩
      case measure => simp [intOf]; omega
    · obtain rfl : k = 8 := by omega
      go_wp2
      go_ret
      exact ⟨_, rfl, by rw [HR.out]; exact HO.out, hB⟩

set_option maxRecDepth 100000 in
set_option maxHeartbeats 4000000 in
theorem S_seen (sl : Value) (p : Pr) (lo : Nat) (b : Int) (w : World) (hv : Blks w lo sl p) (hs : shape p = true) (hb0 : 0 ≤ b) (hb1 : b < p.length) :
    Calls Try.prog 189 #[.agg #[sl], .int .i64 b] w fun e w' => ∃ v', e = .returned v' ∧ Ints w' w.heap.size v' (seenF p b) ∧ Below w.heap.size w w' := by
  have hl := shape_len hs
  obtain ⟨g, C, rfl, hg⟩ := hv.formS (by omega)
  have HV := Lib.hid hv
  have HSH := Lib.hid hs
  obtain ⟨hg0, A0, B0, C0, D0, e0, _, _, _, _, _⟩ := Prog.atg hv b hb0 hb1
  have hlr : (fastsF p b).length ≤ 8 := nms_len _
  have hlb : (cellsF p b).length ≤ 8 := nms_len _
  have hld : (freesF p b).length ≤ 8 := nms_len _
  have hk0 := (al1.cell (p := ⟨g, b.toNat * 4, none⟩) (by exact hg) : (w.alloc (.cells #[.slice (some ⟨g, 0, none⟩) p.length C] 30)).cell? _ = _).trans e0
  by_cases hkd : (p.bk b).kind = 1
  · have hkb : ((p.bk b).kind == 1) = true := by simp [hkd]
    have hR := seen_eq hs hb0 hkd
    generalize seenF p b = R at *
    have HR := Lib.hid hR
    generalize (p.bk b).kind = K at *
    clear hv hs hR hkd e0
    go_enter Try.func189, Try.ntmps189
    go_wp2
    obtain ⟨W0, hW0⟩ : ∃ W0 : World, W0 = w.alloc (.cells #[.slice (some ⟨g, 0, none⟩) p.length C] 30) := ⟨_, rfl⟩
    have c0 : W0.cell? ⟨w.heap.size, 0, none⟩ = some (.slice (some ⟨g, 0, none⟩) p.length C) := by rw [hW0]; simp [go_sem]
    have hb : Below w.heap.size w W0 := by rw [hW0]; exact al1
    have z0 : w.heap.size + 1 ≤ W0.heap.size := by rw [hW0]; simp
    rw [← hW0]
    have HV0 := Lib.hid (HV.out.keep hb)
    have HB0 := Lib.hid hb
    clear hW0 hb hk0
    have hcur : Below W0.heap.size W0 W0.drew := (Below.refl _ _).drew
    have zc : W0.heap.size ≤ W0.drew.heap.size := Nat.le_refl _
    go_region_held3 (fun w' => w'.cell? ⟨w.heap.size, 0, none⟩ = some (.slice (some ⟨g, 0, none⟩) p.length C))
      (first | go_keep | exact cell_later hcur c0)
      (first
        | (go_at_call 181
           refine (S_fasts _ p lo b _ (HV0.out.keep hcur) HSH.out hb0 hb1).mono ?_
           rintro e wr ⟨vr, rfl, ir, br⟩
           have gr := own_block_ge ir
           have lr := own_block_lt ir
           have zr := br.size
           have ir := ir.lo_ hcur.size
           have hcur := bthen hcur br)
        | (go_at_call 184
           refine (S_cellNames _ p lo b _ (HV0.out.keep hcur) HSH.out hb0 hb1).mono ?_
           rintro e wb ⟨vb, rfl, ib, bb⟩
           have gb := own_block_ge ib
           have lb := own_block_lt ib
           have zb := bb.size
           have ib := ib.lo_ hcur.size
           have ir := ir.keep bb
           have hcur := bthen hcur bb)
        | (go_at_call 186
           refine (S_frees _ p lo b _ (HV0.out.keep hcur) HSH.out hb0 hb1).mono ?_
           rintro e wd ⟨vd, rfl, id_, bd⟩
           have gd := own_block_ge id_
           have ld := own_block_lt id_
           have zd := bd.size
           have id_ := id_.lo_ hcur.size
           try have ir := ir.keep bd
           try have ib := ib.keep bd
           try have i1 := i1.keep bd
           have hcur := bthen hcur bd)
        | (refine step_append_ints rfl _ _ rfl vr vb _ _ W0.heap.size _ rfl rfl ir ib (by omega) hcur.size ?_
           intro v1 w1 i1 g1 b1 f1
           have l1 := own_block_lt i1
           have z1 := b1.size
           try have id_ := Ints.kept id_ g1 (by (rcases hq : vd.ownBlock with _ | k); · exact .inl rfl; · (right; intro hc; have a1 := gd k hq; have a2 := ld k hq; have a3 := gr k hc.symm; have a4 := lr k hc.symm; omega))
           have hcur := hcur.trans b1)
        | (refine step_append_ints rfl _ _ rfl v1 vd _ _ W0.heap.size _ rfl rfl i1 id_ (by rw [List.length_append]; omega) hcur.size ?_
           intro v2 w2 i2 g2 b2 f2
           have hcur := hcur.trans b2)
        | (go_at_call 200
           refine (S_sorted v2 _ _ _ i2).mono ?_
           rintro e w9 ⟨v9, rfl, i9, b9⟩
           have i9 := i9.lo_ hcur.size
           have hcur := bthen hcur b9))
    all_goals
      go_wp2
      go_ret
      exact ⟨_, rfl, by rw [← HR.out]; exact i9.lo_ (by omega), HB0.out.trans (hcur.mono (by omega))⟩
  · have hkb : ((p.bk b).kind == 1) = false := by simp [hkd]
    have hR := seen_all hkd
    generalize seenF p b = R at *
    have HR := Lib.hid hR
    generalize (p.bk b).kind = K at *
    clear hv hs hR hkd e0
    go_enter Try.func189, Try.ntmps189
    go_wp2_with (go_at_call 222; refine (S_allNames _).mono ?_; rintro e w1 ⟨v1, rfl, i1, b1⟩)
    go_ret
    exact ⟨_, rfl, by rw [← HR.out]; exact i1.lo_ (by simp), bthen al1 b1⟩

set_option maxRecDepth 100000 in
theorem S_SeenIn (v : Value) (p : Pr) (lo : Nat) (b : Int) (w : World) (hv : Prog w lo v p) :
    Calls Try.prog 115 #[v, .int .i64 b] w fun e w' => ∃ v', e = .returned v' ∧ Ints w' w.heap.size v' (rSeen p b) ∧ Below w.heap.size w w' := by
  obtain ⟨sl, rfl, hv⟩ := hv
  have HV := Lib.hid hv
  obtain ⟨A, C, rfl⟩ := hv.form
  clear hv
  cases hp : validP p
  · have HP := Lib.hid hp
    have hno : validB p b = false := by unfold validB; rw [hp]; rfl
    have HNO := Lib.hid hno
    clear hp hno
    go_enter Try.func115, Try.ntmps115
    go_wp2_with (go_at_call 139; refine (S_validProgram _ p lo _ (HV.out.keep al1)).mono ?_; rintro e w1 ⟨rfl, hb1'⟩; rw [HP.out]; have cb1 := boxAt1 hb1'; have hB1 := bthen (al1 (w := w)) hb1'; have hz1 := hB1.size; clear hb1')
    go_ret
    have hB := hB1
    exact ⟨_, rfl, by unfold rSeen; rw [HNO.out]; exact Ints.nil _ _, hB⟩
  have HP := Lib.hid hp
  have hl := shape_len (validP_shape hp)
  cases hi : inR b 0 (p.length - 1)
  · have HI := Lib.hid hi
    have hno : validB p b = false := by unfold validB; rw [hp, hi]; rfl
    have HNO := Lib.hid hno
    clear hp hi hno
    go_enter Try.func115, Try.ntmps115
    go_wp2_with (first
      | (go_at_call 139; refine (S_validProgram _ p lo _ (HV.out.keep al1)).mono ?_; rintro e w1 ⟨rfl, hb1'⟩; rw [HP.out]; have cb1 := boxAt1 hb1'; have hB1 := bthen (al1 (w := w)) hb1'; have hz1 := hB1.size; clear hb1')
      | (go_at_call 134; refine (S_inRange _ _ _ _).mono ?_; rintro e w' ⟨rfl, rfl⟩; rw [HI.out]))
    go_ret
    have hB := hB1
    exact ⟨_, rfl, by unfold rSeen; rw [HNO.out]; exact Ints.nil _ _, hB⟩
  have HI := Lib.hid hi
  have hat : validB p b = true := by unfold validB; rw [hp, hi]; rfl
  have HYES := Lib.hid hat
  obtain ⟨hsh, hb0, hb1⟩ := shapeAt_iff.1 (validB_shape hat)
  have HSH := Lib.hid hsh
  clear hp hi hsh hat

  have hR : rSeen p b = seenF p b := by unfold rSeen; rw [HYES.out]; rfl
  have HR := Lib.hid hR
  clear hR
  go_enter Try.func115, Try.ntmps115
  go_wp2_with (first
    | (go_at_call 139; refine (S_validProgram _ p lo _ (HV.out.keep al1)).mono ?_; rintro e w1 ⟨rfl, hb1'⟩; rw [HP.out]; have cb1 := boxAt1 hb1'; have hB1 := bthen (al1 (w := w)) hb1'; have hz1 := hB1.size; clear hb1')
    | (go_at_call 134; refine (S_inRange _ _ _ _).mono ?_; rintro e w' ⟨rfl, rfl⟩; rw [HI.out])
    | (go_at_call 189; refine (S_seen _ p lo b _ (HV.out.keep hB1) HSH.out hb0 hb1).mono ?_; rintro e w4 ⟨rv, rfl, hi4, hb4⟩))
  go_ret
  exact ⟨_, rfl, by rw [HR.out]; exact hi4.lo_ hz1, bthen hB1 hb4⟩

end Go.Proofs.Ytklikpcfmmpocaa
