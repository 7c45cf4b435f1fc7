/-
  Walks: the program's UsedIn, TouchedBy. Condition: the argument reads as a program.
-/
import Derived.Test.YtklikpcfmmpocaaImpl9
import Derived.Test.YtklikpcfmmpocaaSpec10
namespace Go.Proofs.Ytklikpcfmmpocaa
open Go.RowKit
set_option linter.unusedVariables false

theorem SetAt.put {w : World} {b : Nat} {f g : Int → Bool} (h : SetAt w b f) (x : Nat) (v : Bool) (hg : ∀ y : Nat, y < 8 → g y = if y = x then v else f y) : SetAt (w.setCell ⟨b, x, none⟩ (.bool v)) b g := by
  refine (World.rowIs.set h x (.bool v)).congr fun j hj => ?_
  rw [hg j hj]
  by_cases e : j = x
  · rw [if_pos e, if_pos e]
  · rw [if_neg e, if_neg e]

theorem Scopes.set {w : World} {lo : Nat} {A : Nat → Nat} {p : Pr} (h : Scopes w lo A p) {a : Addr} (ha : a.block < lo) (u : Value) : Scopes (w.setCell a u) lo A p :=
  fun i hi => ⟨(h i hi).1, (h i hi).2.setOther (by have := (h i hi).1; omega)⟩

/-- The names below m for which f holds. -/
def cutTo (f : Int → Bool) (m : Nat) (y : Int) : Bool := decide (y < m) && f y
theorem cutTo_zero (f : Int → Bool) (y : Int) (h : 0 ≤ y) : cutTo f 0 y = false := by unfold cutTo; rw [decide_eq_false (by omega)]; rfl
theorem cutTo_all (f : Int → Bool) (y : Int) (h : y ≤ 7) : cutTo f 8 y = f y := by unfold cutTo; rw [decide_eq_true (by omega)]; rfl
theorem cutTo_put (f : Int → Bool) (m : Nat) (y : Nat) : cutTo f (m + 1) y = if y = m then f m else cutTo f m y := by
  unfold cutTo
  by_cases e : y = m
  · subst e; rw [if_pos rfl, decide_eq_true (by omega)]; rfl
  · rw [if_neg e]
    congr 1
    rw [decide_eq_decide]
    omega
theorem cutTo_add (f : Int → Bool) (m : Nat) (h : f m = true) (y : Int) : cutTo f (m + 1) y = (cutTo f m y || (m : Int) == y) := by
  unfold cutTo
  by_cases e : (m : Int) = y
  · subst e; rw [decide_eq_true (by omega), h]; simp
  · rw [show ((m : Int) == y) = false by simp [e], Bool.or_false]
    congr 1
    rw [decide_eq_decide]
    omega
theorem cutTo_no (f : Int → Bool) (m : Nat) (h : f m = false) (y : Int) : cutTo f (m + 1) y = cutTo f m y := by
  unfold cutTo
  by_cases e : (m : Int) = y
  · subst e; rw [h, Bool.and_false, Bool.and_false]
  · congr 1
    rw [decide_eq_decide]
    omega

set_option maxRecDepth 100000 in
theorem I_UsedIn (v : Value) (p : Pr) (lo : Nat) (b : Int) (w : World) (hv : Prog w lo v p) :
    Calls Try.prog 83 #[v, .int .i64 b] w fun e w' => ∃ v', e = .returned v' ∧ Ints w' w.heap.size v' (rUsed p b) ∧ Below w.heap.size w w' := by
  obtain ⟨sl, rfl, hv⟩ := hv
  have HV := Lib.hid hv
  obtain ⟨A, C, rfl⟩ := hv.form
  clear hv
  cases hs : validP p
  · have HS := Lib.hid hs
    have hno : (validB p b) = false := by unfold validB; rw [hs]; rfl
    have HNO := Lib.hid hno
    clear hs hno
    go_enter Try.func83, Try.ntmps83
    go_wp2_with (go_at_call 78; refine (I_ValidProgram _ p lo _ ⟨_, rfl, HV.out.keep al1⟩).mono ?_; rintro e w3 ⟨rfl, hb3⟩; rw [HS.out]; have cb3 := boxAt1 hb3; have hB3 := bthen (al1 (w := w)) hb3; have hz3 := hB3.size; clear hb3)
    go_ret
    have hB := hB3
    exact ⟨_, rfl, by unfold rUsed; rw [HNO.out]; exact Ints.nil _ _, hB⟩
  have HS := Lib.hid hs
  cases hi : inR b 0 (p.length - 1)
  · have HI := Lib.hid hi
    have hno : (validB p b) = false := by unfold validB; rw [hs, hi]; rfl
    have HNO := Lib.hid hno
    clear hs hi hno
    go_enter Try.func83, Try.ntmps83
    go_wp2_with (first
      | (go_at_call 78; refine (I_ValidProgram _ p lo _ ⟨_, rfl, HV.out.keep al1⟩).mono ?_; rintro e w3 ⟨rfl, hb3⟩; rw [HS.out]; have cb3 := boxAt1 hb3; have hB3 := bthen (al1 (w := w)) hb3; have hz3 := hB3.size; clear hb3)
      | (go_at_call 130; refine (I_isBlock _ p lo b _ (HV.out.keep hB3)).mono ?_; rintro e w4 ⟨rfl, hb4⟩; rw [HI.out]; have cb := cell_later hb4 cb3; have hB4 := bthen hB3 hb4; have hz4 := hB4.size; clear hb4 cb3))
    go_ret
    have hB := hB4
    exact ⟨_, rfl, by unfold rUsed; rw [HNO.out]; exact Ints.nil _ _, hB⟩
  have HI := Lib.hid hi
  have hat : validB p b = true := by unfold validB; rw [hs, hi]; rfl
  have HYES := Lib.hid hat
  have HVP := Lib.hid hs
  obtain ⟨hsh, hb0, hb1⟩ := shapeAt_iff.1 (validB_shape hat)
  have HSH := Lib.hid hsh
  have hl := shape_len hsh
  clear hs hi hsh hat

  have hR : rUsed p b = nms (p.bk b).usesB := by unfold rUsed; rw [HYES.out]; rfl
  have HR := Lib.hid hR
  clear hR
  go_enter Try.func83, Try.ntmps83
  go_wp2_with (first
    | (go_at_call 78; refine (I_ValidProgram _ p lo _ ⟨_, rfl, HV.out.keep al1⟩).mono ?_; rintro e w3 ⟨rfl, hb3⟩; rw [HS.out]; have cb3 := boxAt1 hb3; have hB3 := bthen (al1 (w := w)) hb3; have hz3 := hB3.size; clear hb3)
    | (go_at_call 130; refine (I_isBlock _ p lo b _ (HV.out.keep hB3)).mono ?_; rintro e w4 ⟨rfl, hb4⟩; rw [HI.out]; have cb := cell_later hb4 cb3; have hB4 := bthen hB3 hb4; have hz4 := hB4.size; clear hb4 cb3; have hlt4 : w.heap.size < w4.heap.size := World.block_lt_of_cell? _ _ cb)
    | (go_at_call 160; refine (I_scopesOf _ p lo _ (HV.out.keep (bal hB4 _)) HSH.out).mono ?_; rintro e w5 ⟨A', Bs, rfl, hBs, hrow, hsc, hb5⟩; have cr := hrow.cell (i := b.toNat) (by omega); have hgr := World.rowIs.lt hrow))
  have hset := (SetAt.zero w4).keep hb5
  have hB5 := bthen (bal hB4 (.cells #[.bool false, .bool false, .bool false, .bool false, .bool false, .bool false, .bool false, .bool false] 84)) hb5
  have hB45 : Below w4.heap.size w4 w5 := bthen al1 hb5
  have hz5 := hb5.size
  simp only [World.size_alloc] at hsc hz5
  have HSC := Lib.hid hsc
  clear hsc hrow cr hgr hb5 cb
  go_loopw [22] (fun v wr => ∃ m : Nat, m ≤ 8 ∧ v = .int .i64 m ∧ SetAt wr w4.heap.size (cutTo (p.bk b).usesB m) ∧ Scopes wr (w4.heap.size + 1) A' p ∧ Below w4.heap.size w4 wr) (fun v _ => 8 - (intOf v).toNat)
  case atStart => exact ⟨0, Nat.zero_le _, rfl, hset.congr (fun y h0 _ => cutTo_zero _ y h0), HSC.out, hB45⟩
  case round =>
    clear hset hB45
    obtain ⟨m, hm, rfl, hset, hsc, hB⟩ := hrel
    have HSE := Lib.hid hset
    have HSK := Lib.hid hsc
    clear hsc
    by_cases hml : m < 8
    · have hcell := hset.cell (i := m) hml
      have hfz := World.rowIs.frozen hset m
      have hgl := World.rowIs.lt hset
      clear hset
      go_wp2_with (go_at_call 169; refine (I_uses A' p _ b.toNat m _ HSK.out (by omega) (by omega) (by omega)).mono ?_; rw [Int.toNat_of_nonneg hb0]; rintro e w' ⟨rfl, rfl⟩)
      go_roundw
      case rel => exact ⟨m + 1, by omega, by go_num, HSE.out.put m _ (fun y _ => cutTo_put _ m y), HSK.out.set (by show w4.heap.size < _; omega) _, hB.setCell (p := ⟨w4.heap.size, _, none⟩) (Nat.le_refl _) _⟩
      case measure => simp [intOf]; omega
    · obtain rfl : m = 8 := by omega
      have hset2 : SetAt wr w4.heap.size (p.bk b).usesB := hset.congr (fun y _ h1 => (cutTo_all _ y h1).symm)
      obtain ⟨s0, s1, s2, s3, s4, s5, s6, s7⟩ := hset2.cells
      clear hset hset2
      go_wp2_with (go_at_call 133; refine (I_list (p.bk b).usesB _).mono ?_; rintro e w6 ⟨rv, rfl, hi6, hb6⟩)
      go_ret
      have hz6 := (bthen hB4 hB).size
      exact ⟨_, rfl, by rw [HR.out]; exact hi6.lo_ hz6, bthen (bthen hB4 hB) hb6⟩

set_option maxRecDepth 100000 in
theorem I_TouchedBy (v : Value) (p : Pr) (lo : Nat) (b x : Int) (w : World) (hv : Prog w lo v p) :
    Calls Try.prog 96 #[v, .int .i64 b, .int .i64 x] w fun e w' => ∃ v', e = .returned v' ∧ Ints w' w.heap.size v' (rTouch p b x) ∧ Below w.heap.size w w' := by
  obtain ⟨sl, rfl, hv⟩ := hv
  have HV := Lib.hid hv
  obtain ⟨A, C, rfl⟩ := hv.form
  clear hv
  cases hs : validP p
  · have HS := Lib.hid hs
    have hno : (validB p b && isNm x) = false := by unfold validB; rw [hs]; rfl
    have HNO := Lib.hid hno
    clear hs hno
    go_enter Try.func96, Try.ntmps96
    go_wp2_with (go_at_call 78; refine (I_ValidProgram _ p lo _ ⟨_, rfl, HV.out.keep al1⟩).mono ?_; rintro e w3 ⟨rfl, hb3⟩; rw [HS.out]; have cb3 := boxAt1 hb3; have hB3 := bthen (al1 (w := w)) hb3; have hz3 := hB3.size; clear hb3)
    go_ret
    have hB := hB3
    exact ⟨_, rfl, by unfold rTouch; rw [HNO.out]; exact Ints.nil _ _, hB⟩
  have HS := Lib.hid hs
  cases hi : inR b 0 (p.length - 1)
  · have HI := Lib.hid hi
    have hno : (validB p b && isNm x) = false := by unfold validB; rw [hs, hi]; rfl
    have HNO := Lib.hid hno
    clear hs hi hno
    go_enter Try.func96, Try.ntmps96
    go_wp2_with (first
      | (go_at_call 78; refine (I_ValidProgram _ p lo _ ⟨_, rfl, HV.out.keep al1⟩).mono ?_; rintro e w3 ⟨rfl, hb3⟩; rw [HS.out]; have cb3 := boxAt1 hb3; have hB3 := bthen (al1 (w := w)) hb3; have hz3 := hB3.size; clear hb3)
      | (go_at_call 130; refine (I_isBlock _ p lo b _ (HV.out.keep hB3)).mono ?_; rintro e w4 ⟨rfl, hb4⟩; rw [HI.out]; have cb := cell_later hb4 cb3; have hB4 := bthen hB3 hb4; have hz4 := hB4.size; clear hb4 cb3))
    go_ret
    have hB := hB4
    exact ⟨_, rfl, by unfold rTouch; rw [HNO.out]; exact Ints.nil _ _, hB⟩
  have HI := Lib.hid hi
  have hat : validB p b = true := by unfold validB; rw [hs, hi]; rfl
  cases hn : isNm x
  · have HN := Lib.hid hn
    have hno : (validB p b && isNm x) = false := by rw [hn, Bool.and_false]
    have HNO := Lib.hid hno
    clear hs hi hn hat hno
    go_enter Try.func96, Try.ntmps96
    go_wp2_with (first
      | (go_at_call 78; refine (I_ValidProgram _ p lo _ ⟨_, rfl, HV.out.keep al1⟩).mono ?_; rintro e w3 ⟨rfl, hb3⟩; rw [HS.out]; have cb3 := boxAt1 hb3; have hB3 := bthen (al1 (w := w)) hb3; have hz3 := hB3.size; clear hb3)
      | (go_at_call 130; refine (I_isBlock _ p lo b _ (HV.out.keep hB3)).mono ?_; rintro e w4 ⟨rfl, hb4⟩; rw [HI.out]; have cb := cell_later hb4 cb3; have hB4 := bthen hB3 hb4; have hz4 := hB4.size; clear hb4 cb3)
      | (go_at_call 159; refine (I_isName _ _).mono ?_; rintro e w' ⟨rfl, rfl⟩; rw [HN.out]))
    go_ret
    have hB := hB4
    exact ⟨_, rfl, by unfold rTouch; rw [HNO.out]; exact Ints.nil _ _, hB⟩
  have HN := Lib.hid hn
  have hyes : (validB p b && isNm x) = true := by rw [hat, hn]; rfl
  have HYES := Lib.hid hyes
  obtain ⟨hx0, hx1⟩ := isNm_iff.1 hn
  have HVP := Lib.hid hs
  obtain ⟨hsh, hb0, hb1⟩ := shapeAt_iff.1 (validB_shape hat)
  have HSH := Lib.hid hsh
  have hl := shape_len hsh
  clear hs hi hsh hat hn hyes

  have hR : rTouch p b x = touchF p b x := by unfold rTouch; rw [HYES.out]; rfl
  obtain ⟨f, hf⟩ : ∃ f : Int → Bool, f = fun c => (p.bk c).usesB x && ownerF p c x == b := ⟨_, rfl⟩
  have hfd : ∀ c, f c = ((p.bk c).usesB x && ownerF p c x == b) := fun c => by rw [hf]
  have hR2 : rTouch p b x = upto f p.length := by rw [hR, hf]; rfl
  have HR := Lib.hid hR2
  have HF := Lib.hid hfd
  clear hR hR2 hf hfd
  go_enter Try.func96, Try.ntmps96
  go_wp2_with (first
    | (go_at_call 78; refine (I_ValidProgram _ p lo _ ⟨_, rfl, HV.out.keep al1⟩).mono ?_; rintro e w3 ⟨rfl, hb3⟩; rw [HS.out]; have cb3 := boxAt1 hb3; have hB3 := bthen (al1 (w := w)) hb3; have hz3 := hB3.size; clear hb3)
    | (go_at_call 130; refine (I_isBlock _ p lo b _ (HV.out.keep hB3)).mono ?_; rintro e w4 ⟨rfl, hb4⟩; rw [HI.out]; have cb := cell_later hb4 cb3; have hB4 := bthen hB3 hb4; have hz4 := hB4.size; clear hb4 cb3)
    | (go_at_call 159; refine (I_isName _ _).mono ?_; rintro e w' ⟨rfl, rfl⟩; rw [HN.out])
    | (go_at_call 160; refine (I_scopesOf _ p lo _ (HV.out.keep hB4) HSH.out).mono ?_; rintro e w5 ⟨A', Bs, rfl, hBs, hrow, hsc, hb5⟩))
  have hB5 := bthen hB4 hb5
  have hz5 := hB5.size
  have HROW := Lib.hid hrow
  have HSC := Lib.hid hsc
  clear hrow hsc hb5 cb
  go_loopw [7, 27] (fun o v wr => ∃ k : Nat, k ≤ p.length ∧ v = .int .i64 k ∧ Ints wr w5.heap.size o (upto f k) ∧ Below w5.heap.size w5 wr) (fun _ v _ => p.length - (intOf v).toNat)
  case atStart => exact ⟨0, Nat.zero_le _, rfl, Ints.nil _ _, Below.refl _ _⟩
  case round =>
    obtain ⟨k, hk, rfl, hown, hB⟩ := hrel
    have hsz := hB.size
    have hlen := upto_len f k
    have HO := Lib.hid hown
    clear hown
    by_cases hlt : k < p.length
    · have hrow := World.rowIs.of_block HROW.out (hB.block Bs (World.rowIs.lt HROW.out))
      have cr := hrow.cell (i := k) hlt
      have hgr := World.rowIs.lt hrow
      have hsc := HSC.out.keep hB
      have HSK := Lib.hid hsc
      have hfk := HF.out (k : Int)
      clear hrow
      cases h1 : (p.bk k).usesB x
      · rw [h1, Bool.false_and] at hfk
        have hs := upto_no f k hfk
        have HS2 := Lib.hid hs
        have HU := Lib.hid h1
        clear hs hfk h1 hsc
        go_wp2_with (go_at_call 169; refine (I_uses A' p _ k x _ HSK.out hlt hx0 hx1).mono ?_; rintro e w' ⟨rfl, rfl⟩; rw [HU.out])
        go_roundw
        case rel => exact ⟨k + 1, by omega, by go_num, by rw [HS2.out]; exact HO.out, hB⟩
        case measure => simp [intOf]; omega
      · rw [h1, Bool.true_and] at hfk
        have HU := Lib.hid h1
        clear h1
        obtain ⟨ov, hov⟩ : ∃ ov : Int, ownerF p k x = ov := ⟨_, rfl⟩
        rw [hov] at hfk
        have HOV := Lib.hid hov
        clear hov
        cases h2 : ov == b
        · rw [h2] at hfk
          have hs := upto_no f k hfk
          have HS2 := Lib.hid hs
          clear hs hfk hsc
          go_wp2_with (first
            | (go_at_call 169; refine (I_uses A' p _ k x _ HSK.out hlt hx0 hx1).mono ?_; rintro e w' ⟨rfl, rfl⟩; rw [HU.out])
            | (go_at_call 167; refine (I_owner A' p _ k _ x HSK.out hlt HSH.out hx0 hx1).mono ?_; rintro e w6 ⟨rfl, hb6⟩; rw [HOV.out]))
          go_roundw
          case rel => exact ⟨k + 1, by omega, by go_num, by rw [HS2.out]; exact HO.out.keep hb6, bthen hB hb6⟩
          case measure => simp [intOf]; omega
        · rw [h2] at hfk
          have hs := upto_yes f k hfk
          have HS2 := Lib.hid hs
          clear hs hfk hsc
          go_wp2_with (first
            | (go_at_call 169; refine (I_uses A' p _ k x _ HSK.out hlt hx0 hx1).mono ?_; rintro e w' ⟨rfl, rfl⟩; rw [HU.out])
            | (go_at_call 167; refine (I_owner A' p _ k _ x HSK.out hlt HSH.out hx0 hx1).mono ?_; rintro e w6 ⟨rfl, hb6⟩; rw [HOV.out]; have hz6 := hb6.size; have c0 := (HSK.out.keep hb6 k hlt).2.c0; have hgl := World.rowIs.lt (HSK.out.keep hb6 k hlt).2)
            | (at_builtin; refine wpList_append_ints rfl _ _ rfl _ _ _ [(k : Int)] w5.heap.size _ rfl rfl ((HO.out.keep hb6).keep al1) (Ints.one' _ _ (by first | rfl | simp only [World.size_alloc]) _ _ (Nat.le_refl _)) (by show _ + 1 ≤ _; omega) (by simp only [World.size_alloc]; omega) ?_; intro v' w9 hown9 hgrow9 hbel9 hfrom9))
          go_roundw
          case rel => exact ⟨k + 1, by omega, by go_num, by rw [HS2.out]; exact hown9, (bthen hB hb6).trans ((al1.mono (by omega)).trans hbel9)⟩
          case measure => simp [intOf]; omega
    · obtain rfl : k = p.length := by omega
      go_wp2
      go_ret
      exact ⟨_, rfl, by rw [HR.out]; exact HO.out.lo_ hz5, bthen hB5 hB⟩

end Go.Proofs.Ytklikpcfmmpocaa
