/-
  Walks: the program's SharesCell. Condition: the argument reads as a program.
-/
import Derived.Test.YtklikpcfmmpocaaImpl15
import Derived.Test.YtklikpcfmmpocaaSpec16
namespace Go.Proofs.Ytklikpcfmmpocaa
open Go.RowKit
set_option linter.unusedVariables false

theorem World.cell?_alloc_at (w : World) (vs : Array Value) (t : TypeId) (v : Value) (i : Nat) (h : vs[i]? = some v) : (w.alloc (.cells vs t)).cell? ⟨w.heap.size, i, none⟩ = some v := by
  simp [go_sem, h]

set_option maxRecDepth 100000 in
set_option maxHeartbeats 2000000 in
theorem I_SharesCell (v : Value) (p : Pr) (lo : Nat) (a b x : Int) (w : World) (hv : Prog w lo v p) :
    Calls Try.prog 93 #[v, .int .i64 a, .int .i64 b, .int .i64 x] w fun e w' => e = .returned (.bool (rShares p a b x)) ∧ Below w.heap.size w w' := by
  obtain ⟨sl, rfl, hv⟩ := hv
  have HV := Lib.hid hv
  obtain ⟨A, C, rfl⟩ := hv.form
  clear hv
  obtain ⟨R, hR⟩ : ∃ R : Bool, R = rShares p a b x := ⟨_, rfl⟩
  rw [← hR]
  unfold rShares at hR
  cases hp : validP p
  · have hR2 : R = false := by rw [hR, hp]; simp
    have HP := Lib.hid hp
    clear hp
    have HR := Lib.hid hR2
    clear hR
    clear hR2
    go_enter Try.func93, Try.ntmps93
    go_wp2_with (first
      | (go_at_call 78; refine (I_ValidProgram _ p lo _ ⟨_, rfl, HV.out.keep al1⟩).mono ?_; rintro e w1 ⟨rfl, hn⟩; rw [HP.out]; have cb := boxAt1 hn; have hcur := bthen (al1 (w := w)) hn; have hz := hcur.size; clear hn))
    go_ret
    exact ⟨ret_bool HR.out.symm, hcur⟩
  have HP := Lib.hid hp
  have hsh := validP_shape hp
  have hl := shape_len hsh
  have HSH := Lib.hid hsh
  have hsa : shapeAt p a = inR a 0 (p.length - 1) := by unfold shapeAt; rw [hsh, Bool.true_and]
  have hsb : shapeAt p b = inR b 0 (p.length - 1) := by unfold shapeAt; rw [hsh, Bool.true_and]
  rw [hp, Bool.true_and, hsa, hsb] at hR
  clear hp hsh hsa hsb
  cases hia : inR a 0 (p.length - 1)
  · have hR2 : R = false := by rw [hR, hia]; simp
    have HIa := Lib.hid hia
    clear hia
    have HR := Lib.hid hR2
    clear hR
    clear hR2
    go_enter Try.func93, Try.ntmps93
    go_wp2_with (first
      | (go_at_call 78; refine (I_ValidProgram _ p lo _ ⟨_, rfl, HV.out.keep al1⟩).mono ?_; rintro e w1 ⟨rfl, hn⟩; rw [HP.out]; have cb := boxAt1 hn; have hcur := bthen (al1 (w := w)) hn; have hz := hcur.size; clear hn)
      | (go_at_call_of 130 (Value.int .i64 a); refine (I_isBlock _ p lo a _ (HV.out.keep hcur)).mono ?_; rintro e wia ⟨rfl, hn⟩; rw [HIa.out]; have cb := cell_later hn cb; have hcur := bthen hcur hn; have hz := hcur.size; clear hn))
    go_ret
    exact ⟨ret_bool HR.out.symm, hcur⟩
  have HIa := Lib.hid hia
  cases hib : inR b 0 (p.length - 1)
  · have hR2 : R = false := by rw [hR, hia, hib]; simp
    have HIb := Lib.hid hib
    clear hia hib
    have HR := Lib.hid hR2
    clear hR
    clear hR2
    go_enter Try.func93, Try.ntmps93
    go_wp2_with (first
      | (go_at_call 78; refine (I_ValidProgram _ p lo _ ⟨_, rfl, HV.out.keep al1⟩).mono ?_; rintro e w1 ⟨rfl, hn⟩; rw [HP.out]; have cb := boxAt1 hn; have hcur := bthen (al1 (w := w)) hn; have hz := hcur.size; clear hn)
      | (go_at_call_of 130 (Value.int .i64 a); refine (I_isBlock _ p lo a _ (HV.out.keep hcur)).mono ?_; rintro e wia ⟨rfl, hn⟩; rw [HIa.out]; have cb := cell_later hn cb; have hcur := bthen hcur hn; have hz := hcur.size; clear hn)
      | (go_at_call_of 130 (Value.int .i64 b); refine (I_isBlock _ p lo b _ (HV.out.keep hcur)).mono ?_; rintro e wib ⟨rfl, hn⟩; rw [HIb.out]; have cb := cell_later hn cb; have hcur := bthen hcur hn; have hz := hcur.size; clear hn))
    go_ret
    exact ⟨ret_bool HR.out.symm, hcur⟩
  have HIb := Lib.hid hib
  cases hn : isNm x
  · have hR2 : R = false := by rw [hR, hia, hib, hn]; simp
    have HN := Lib.hid hn
    clear hia hib hn
    have HR := Lib.hid hR2
    clear hR
    clear hR2
    go_enter Try.func93, Try.ntmps93
    go_wp2_with (first
      | (go_at_call 78; refine (I_ValidProgram _ p lo _ ⟨_, rfl, HV.out.keep al1⟩).mono ?_; rintro e w1 ⟨rfl, hn⟩; rw [HP.out]; have cb := boxAt1 hn; have hcur := bthen (al1 (w := w)) hn; have hz := hcur.size; clear hn)
      | (go_at_call_of 130 (Value.int .i64 a); refine (I_isBlock _ p lo a _ (HV.out.keep hcur)).mono ?_; rintro e wia ⟨rfl, hn⟩; rw [HIa.out]; have cb := cell_later hn cb; have hcur := bthen hcur hn; have hz := hcur.size; clear hn)
      | (go_at_call_of 130 (Value.int .i64 b); refine (I_isBlock _ p lo b _ (HV.out.keep hcur)).mono ?_; rintro e wib ⟨rfl, hn⟩; rw [HIb.out]; have cb := cell_later hn cb; have hcur := bthen hcur hn; have hz := hcur.size; clear hn)
      | (go_at_call 159; refine (I_isName _ _).mono ?_; rintro e w' ⟨rfl, rfl⟩; rw [HN.out]))
    go_ret
    exact ⟨ret_bool HR.out.symm, hcur⟩
  have HN := Lib.hid hn
  rw [hia, hib, hn, Bool.true_and, Bool.true_and, Bool.true_and] at hR
  obtain ⟨ha0, ha1⟩ : 0 ≤ a ∧ a < p.length := by unfold inR at hia; rw [decide_eq_true_iff] at hia; omega
  obtain ⟨hb0, hb1⟩ : 0 ≤ b ∧ b < p.length := by unfold inR at hib; rw [decide_eq_true_iff] at hib; omega
  obtain ⟨hx0, hx1⟩ := isNm_iff.1 hn
  clear hia hib hn
  cases hab : a == b
  case true =>
    have hR2 : R = false := by rw [hR, hab]; simp
    have HR := Lib.hid hR2
    clear hR
    clear hR2
    go_enter Try.func93, Try.ntmps93
    go_wp2_with (first
      | (go_at_call 78; refine (I_ValidProgram _ p lo _ ⟨_, rfl, HV.out.keep al1⟩).mono ?_; rintro e w1 ⟨rfl, hn⟩; rw [HP.out]; have cb := boxAt1 hn; have hcur := bthen (al1 (w := w)) hn; have hz := hcur.size; clear hn)
      | (go_at_call_of 130 (Value.int .i64 a); refine (I_isBlock _ p lo a _ (HV.out.keep hcur)).mono ?_; rintro e wia ⟨rfl, hn⟩; rw [HIa.out]; have cb := cell_later hn cb; have hcur := bthen hcur hn; have hz := hcur.size; clear hn)
      | (go_at_call_of 130 (Value.int .i64 b); refine (I_isBlock _ p lo b _ (HV.out.keep hcur)).mono ?_; rintro e wib ⟨rfl, hn⟩; rw [HIb.out]; have cb := cell_later hn cb; have hcur := bthen hcur hn; have hz := hcur.size; clear hn)
      | (go_at_call 159; refine (I_isName _ _).mono ?_; rintro e w' ⟨rfl, rfl⟩; rw [HN.out]))
    go_ret
    exact ⟨ret_bool HR.out.symm, hcur⟩
  rw [hab, Bool.not_false, Bool.true_and] at hR
  cases h1 : (p.bk a).usesB x
  · have hR2 : R = false := by rw [hR, h1]; simp
    have HUa := Lib.hid h1
    clear h1
    have HR := Lib.hid hR2
    clear hR
    clear hR2
    go_enter Try.func93, Try.ntmps93
    go_wp2_with (first
      | (go_at_call 78; refine (I_ValidProgram _ p lo _ ⟨_, rfl, HV.out.keep al1⟩).mono ?_; rintro e w1 ⟨rfl, hn⟩; rw [HP.out]; have cb := boxAt1 hn; have hcur := bthen (al1 (w := w)) hn; have hz := hcur.size; clear hn)
      | (go_at_call_of 130 (Value.int .i64 a); refine (I_isBlock _ p lo a _ (HV.out.keep hcur)).mono ?_; rintro e wia ⟨rfl, hn⟩; rw [HIa.out]; have cb := cell_later hn cb; have hcur := bthen hcur hn; have hz := hcur.size; clear hn)
      | (go_at_call_of 130 (Value.int .i64 b); refine (I_isBlock _ p lo b _ (HV.out.keep hcur)).mono ?_; rintro e wib ⟨rfl, hn⟩; rw [HIb.out]; have cb := cell_later hn cb; have hcur := bthen hcur hn; have hz := hcur.size; clear hn)
      | (go_at_call 159; refine (I_isName _ _).mono ?_; rintro e w' ⟨rfl, rfl⟩; rw [HN.out])
      | (go_at_call 160; refine (I_scopesOf _ p lo _ (HV.out.keep hcur) HSH.out).mono ?_; rintro e w5 ⟨A', Bs, rfl, hBs, hrow, hsc, hn⟩; have hcur := bthen hcur hn; have hz := hcur.size; have hgr := World.rowIs.lt hrow; have HROW := Lib.hid hrow; have HSC := Lib.hid hsc; have cra := hrow.cell (i := a.toNat) (by omega); have crb := hrow.cell (i := b.toNat) (by omega); clear hn hrow hsc)
      | (go_at_call_of 169 (Value.pointer (some ⟨A' a.toNat, 0, none⟩)); refine (I_uses A' p _ a.toNat x _ HSC.out (by omega) hx0 hx1).mono ?_; rw [Int.toNat_of_nonneg ha0]; rintro e w' ⟨rfl, rfl⟩; rw [HUa.out]))
    go_ret
    exact ⟨ret_bool HR.out.symm, hcur⟩
  rw [h1, Bool.true_and] at hR
  have HUa := Lib.hid h1
  clear h1
  cases h1 : (p.bk b).usesB x
  · have hR2 : R = false := by rw [hR, h1]; simp
    have HUb := Lib.hid h1
    clear h1
    have HR := Lib.hid hR2
    clear hR
    clear hR2
    go_enter Try.func93, Try.ntmps93
    go_wp2_with (first
      | (go_at_call 78; refine (I_ValidProgram _ p lo _ ⟨_, rfl, HV.out.keep al1⟩).mono ?_; rintro e w1 ⟨rfl, hn⟩; rw [HP.out]; have cb := boxAt1 hn; have hcur := bthen (al1 (w := w)) hn; have hz := hcur.size; clear hn)
      | (go_at_call_of 130 (Value.int .i64 a); refine (I_isBlock _ p lo a _ (HV.out.keep hcur)).mono ?_; rintro e wia ⟨rfl, hn⟩; rw [HIa.out]; have cb := cell_later hn cb; have hcur := bthen hcur hn; have hz := hcur.size; clear hn)
      | (go_at_call_of 130 (Value.int .i64 b); refine (I_isBlock _ p lo b _ (HV.out.keep hcur)).mono ?_; rintro e wib ⟨rfl, hn⟩; rw [HIb.out]; have cb := cell_later hn cb; have hcur := bthen hcur hn; have hz := hcur.size; clear hn)
      | (go_at_call 159; refine (I_isName _ _).mono ?_; rintro e w' ⟨rfl, rfl⟩; rw [HN.out])
      | (go_at_call 160; refine (I_scopesOf _ p lo _ (HV.out.keep hcur) HSH.out).mono ?_; rintro e w5 ⟨A', Bs, rfl, hBs, hrow, hsc, hn⟩; have hcur := bthen hcur hn; have hz := hcur.size; have hgr := World.rowIs.lt hrow; have HROW := Lib.hid hrow; have HSC := Lib.hid hsc; have cra := hrow.cell (i := a.toNat) (by omega); have crb := hrow.cell (i := b.toNat) (by omega); clear hn hrow hsc)
      | (go_at_call_of 169 (Value.pointer (some ⟨A' a.toNat, 0, none⟩)); refine (I_uses A' p _ a.toNat x _ HSC.out (by omega) hx0 hx1).mono ?_; rw [Int.toNat_of_nonneg ha0]; rintro e w' ⟨rfl, rfl⟩; rw [HUa.out])
      | (go_at_call_of 169 (Value.pointer (some ⟨A' b.toNat, 0, none⟩)); refine (I_uses A' p _ b.toNat x _ HSC.out (by omega) hx0 hx1).mono ?_; rw [Int.toNat_of_nonneg hb0]; rintro e w' ⟨rfl, rfl⟩; rw [HUb.out]))
    go_ret
    exact ⟨ret_bool HR.out.symm, hcur⟩
  rw [h1, Bool.true_and] at hR
  have HUb := Lib.hid h1
  clear h1
  have hoc := ownerF_cases p a x ha0
  have hod := ownerF_cases p b x hb0
  unfold shareQ at hR
  obtain ⟨oa, hoa⟩ : ∃ oa : Int, ownerF p a x = oa := ⟨_, rfl⟩
  obtain ⟨ob, hob⟩ : ∃ ob : Int, ownerF p b x = ob := ⟨_, rfl⟩
  rw [hoa, hob] at hR
  rw [hoa] at hoc
  rw [hob] at hod
  have HOa := Lib.hid hoa
  have HOb := Lib.hid hob
  have hoab : oa = -1 ∨ (0 < oa ∧ oa ≤ a) := hoc.imp id fun h => ⟨h.1, h.2.1⟩
  have hobb : ob = -1 ∨ (0 < ob ∧ ob ≤ b) := hod.imp id fun h => ⟨h.1, h.2.1⟩
  clear hoa hob hoc hod
  obtain ⟨K, hK⟩ : ∃ K : Int, (p.bk oa).kind = K := ⟨_, rfl⟩
  rw [hK] at hR
  have HK := Lib.hid hK
  clear hK
  cases he : oa == ob
  · have hR2 : R = false := by rw [hR, he]; simp
    have HR := Lib.hid hR2
    clear hR hoab hobb
    clear hR2
    go_enter Try.func93, Try.ntmps93
    go_wp2_with (first
      | (go_at_call 78; refine (I_ValidProgram _ p lo _ ⟨_, rfl, HV.out.keep al1⟩).mono ?_; rintro e w1 ⟨rfl, hn⟩; rw [HP.out]; have cb := boxAt1 hn; have hcur := bthen (al1 (w := w)) hn; have hz := hcur.size; clear hn)
      | (go_at_call_of 130 (Value.int .i64 a); refine (I_isBlock _ p lo a _ (HV.out.keep hcur)).mono ?_; rintro e wia ⟨rfl, hn⟩; rw [HIa.out]; have cb := cell_later hn cb; have hcur := bthen hcur hn; have hz := hcur.size; clear hn)
      | (go_at_call_of 130 (Value.int .i64 b); refine (I_isBlock _ p lo b _ (HV.out.keep hcur)).mono ?_; rintro e wib ⟨rfl, hn⟩; rw [HIb.out]; have cb := cell_later hn cb; have hcur := bthen hcur hn; have hz := hcur.size; clear hn)
      | (go_at_call 159; refine (I_isName _ _).mono ?_; rintro e w' ⟨rfl, rfl⟩; rw [HN.out])
      | (go_at_call 160; refine (I_scopesOf _ p lo _ (HV.out.keep hcur) HSH.out).mono ?_; rintro e w5 ⟨A', Bs, rfl, hBs, hrow, hsc, hn⟩; have hcur := bthen hcur hn; have hz := hcur.size; have hgr := World.rowIs.lt hrow; have HROW := Lib.hid hrow; have HSC := Lib.hid hsc; have cra := hrow.cell (i := a.toNat) (by omega); have crb := hrow.cell (i := b.toNat) (by omega); clear hn hrow hsc)
      | (go_at_call_of 169 (Value.pointer (some ⟨A' a.toNat, 0, none⟩)); refine (I_uses A' p _ a.toNat x _ HSC.out (by omega) hx0 hx1).mono ?_; rw [Int.toNat_of_nonneg ha0]; rintro e w' ⟨rfl, rfl⟩; rw [HUa.out])
      | (go_at_call_of 169 (Value.pointer (some ⟨A' b.toNat, 0, none⟩)); refine (I_uses A' p _ b.toNat x _ HSC.out (by omega) hx0 hx1).mono ?_; rw [Int.toNat_of_nonneg hb0]; rintro e w' ⟨rfl, rfl⟩; rw [HUb.out])
      | (go_at_call_of 167 (Value.pointer (some ⟨A' a.toNat, 0, none⟩)); refine (I_owner A' p _ a.toNat _ x HSC.out (by omega) HSH.out hx0 hx1).mono ?_; rw [Int.toNat_of_nonneg ha0]; rintro e w6 ⟨rfl, hn⟩; rw [HOa.out]; have hcur := bthen hcur hn; have hz := hcur.size; have HSC6 := Lib.hid (HSC.out.keep hn); have hrow6 := World.rowIs.of_block HROW.out (hn.block Bs hgr); have crb := hrow6.cell (i := b.toNat) (by omega); have HROW6 := Lib.hid hrow6; have hgr6 := World.rowIs.lt hrow6; clear hn hrow6)
      | (go_at_call_of 167 (Value.pointer (some ⟨A' b.toNat, 0, none⟩)); refine (I_owner A' p _ b.toNat _ x (HSC6.out.keep al1) (by omega) HSH.out hx0 hx1).mono ?_; rw [Int.toNat_of_nonneg hb0]; rintro e w7 ⟨rfl, hn⟩; rw [HOb.out]; have sa0 := cell_later hn (World.cell?_alloc_at _ _ _ (Value.int .i64 oa) 0 rfl); have sa1 := cell_later hn (World.cell?_alloc_at _ _ _ (Value.int .i64 x) 1 rfl); have sz7 := hn.size; rw [World.size_alloc] at sz7; have sl7 : w6.heap.size < w7.heap.size := sz7; have hcur := bthen (bal hcur _) hn; clear hn))
    go_ret
    exact ⟨ret_bool HR.out.symm, bal hcur _⟩
  rw [he, Bool.true_and] at hR
  by_cases h0 : 0 < oa
  case neg =>
    have hR2 : R = false := by rw [hR, decide_eq_false h0, Bool.false_and]
    have hne : (oa != -1) = false := by simp; omega
    have HR := Lib.hid hR2
    clear hR hoab hobb h0
    clear hR2
    go_enter Try.func93, Try.ntmps93
    go_wp2_with (first
      | (go_at_call 78; refine (I_ValidProgram _ p lo _ ⟨_, rfl, HV.out.keep al1⟩).mono ?_; rintro e w1 ⟨rfl, hn⟩; rw [HP.out]; have cb := boxAt1 hn; have hcur := bthen (al1 (w := w)) hn; have hz := hcur.size; clear hn)
      | (go_at_call_of 130 (Value.int .i64 a); refine (I_isBlock _ p lo a _ (HV.out.keep hcur)).mono ?_; rintro e wia ⟨rfl, hn⟩; rw [HIa.out]; have cb := cell_later hn cb; have hcur := bthen hcur hn; have hz := hcur.size; clear hn)
      | (go_at_call_of 130 (Value.int .i64 b); refine (I_isBlock _ p lo b _ (HV.out.keep hcur)).mono ?_; rintro e wib ⟨rfl, hn⟩; rw [HIb.out]; have cb := cell_later hn cb; have hcur := bthen hcur hn; have hz := hcur.size; clear hn)
      | (go_at_call 159; refine (I_isName _ _).mono ?_; rintro e w' ⟨rfl, rfl⟩; rw [HN.out])
      | (go_at_call 160; refine (I_scopesOf _ p lo _ (HV.out.keep hcur) HSH.out).mono ?_; rintro e w5 ⟨A', Bs, rfl, hBs, hrow, hsc, hn⟩; have hcur := bthen hcur hn; have hz := hcur.size; have hgr := World.rowIs.lt hrow; have HROW := Lib.hid hrow; have HSC := Lib.hid hsc; have cra := hrow.cell (i := a.toNat) (by omega); have crb := hrow.cell (i := b.toNat) (by omega); clear hn hrow hsc)
      | (go_at_call_of 169 (Value.pointer (some ⟨A' a.toNat, 0, none⟩)); refine (I_uses A' p _ a.toNat x _ HSC.out (by omega) hx0 hx1).mono ?_; rw [Int.toNat_of_nonneg ha0]; rintro e w' ⟨rfl, rfl⟩; rw [HUa.out])
      | (go_at_call_of 169 (Value.pointer (some ⟨A' b.toNat, 0, none⟩)); refine (I_uses A' p _ b.toNat x _ HSC.out (by omega) hx0 hx1).mono ?_; rw [Int.toNat_of_nonneg hb0]; rintro e w' ⟨rfl, rfl⟩; rw [HUb.out])
      | (go_at_call_of 167 (Value.pointer (some ⟨A' a.toNat, 0, none⟩)); refine (I_owner A' p _ a.toNat _ x HSC.out (by omega) HSH.out hx0 hx1).mono ?_; rw [Int.toNat_of_nonneg ha0]; rintro e w6 ⟨rfl, hn⟩; rw [HOa.out]; have hcur := bthen hcur hn; have hz := hcur.size; have HSC6 := Lib.hid (HSC.out.keep hn); have hrow6 := World.rowIs.of_block HROW.out (hn.block Bs hgr); have crb := hrow6.cell (i := b.toNat) (by omega); have HROW6 := Lib.hid hrow6; have hgr6 := World.rowIs.lt hrow6; clear hn hrow6)
      | (go_at_call_of 167 (Value.pointer (some ⟨A' b.toNat, 0, none⟩)); refine (I_owner A' p _ b.toNat _ x (HSC6.out.keep al1) (by omega) HSH.out hx0 hx1).mono ?_; rw [Int.toNat_of_nonneg hb0]; rintro e w7 ⟨rfl, hn⟩; rw [HOb.out]; have sa0 := cell_later hn (World.cell?_alloc_at _ _ _ (Value.int .i64 oa) 0 rfl); have sa1 := cell_later hn (World.cell?_alloc_at _ _ _ (Value.int .i64 x) 1 rfl); have sz7 := hn.size; rw [World.size_alloc] at sz7; have sl7 : w6.heap.size < w7.heap.size := sz7; have hcur := bthen (bal hcur _) hn; clear hn))
    go_ret
    exact ⟨ret_bool HR.out.symm, bal hcur _⟩
  rw [decide_eq_true h0, Bool.true_and] at hR
  have hne : (oa != -1) = true := by simp; omega
  have hoa0 : 0 ≤ oa := by omega
  have hoa1 : oa < p.length := by omega
  clear hoab hobb h0
  cases hk : K == 1
  all_goals
    have hR2 := hR
    rw [hk] at hR2
    have HR := Lib.hid hR2
    clear hR
    clear hR2
    go_enter Try.func93, Try.ntmps93
    go_wp2_with (first
      | (go_at_call 78; refine (I_ValidProgram _ p lo _ ⟨_, rfl, HV.out.keep al1⟩).mono ?_; rintro e w1 ⟨rfl, hn⟩; rw [HP.out]; have cb := boxAt1 hn; have hcur := bthen (al1 (w := w)) hn; have hz := hcur.size; clear hn)
      | (go_at_call_of 130 (Value.int .i64 a); refine (I_isBlock _ p lo a _ (HV.out.keep hcur)).mono ?_; rintro e wia ⟨rfl, hn⟩; rw [HIa.out]; have cb := cell_later hn cb; have hcur := bthen hcur hn; have hz := hcur.size; clear hn)
      | (go_at_call_of 130 (Value.int .i64 b); refine (I_isBlock _ p lo b _ (HV.out.keep hcur)).mono ?_; rintro e wib ⟨rfl, hn⟩; rw [HIb.out]; have cb := cell_later hn cb; have hcur := bthen hcur hn; have hz := hcur.size; clear hn)
      | (go_at_call 159; refine (I_isName _ _).mono ?_; rintro e w' ⟨rfl, rfl⟩; rw [HN.out])
      | (go_at_call 160; refine (I_scopesOf _ p lo _ (HV.out.keep hcur) HSH.out).mono ?_; rintro e w5 ⟨A', Bs, rfl, hBs, hrow, hsc, hn⟩; have hcur := bthen hcur hn; have hz := hcur.size; have hgr := World.rowIs.lt hrow; have HROW := Lib.hid hrow; have HSC := Lib.hid hsc; have cra := hrow.cell (i := a.toNat) (by omega); have crb := hrow.cell (i := b.toNat) (by omega); clear hn hrow hsc)
      | (go_at_call_of 169 (Value.pointer (some ⟨A' a.toNat, 0, none⟩)); refine (I_uses A' p _ a.toNat x _ HSC.out (by omega) hx0 hx1).mono ?_; rw [Int.toNat_of_nonneg ha0]; rintro e w' ⟨rfl, rfl⟩; rw [HUa.out])
      | (go_at_call_of 169 (Value.pointer (some ⟨A' b.toNat, 0, none⟩)); refine (I_uses A' p _ b.toNat x _ HSC.out (by omega) hx0 hx1).mono ?_; rw [Int.toNat_of_nonneg hb0]; rintro e w' ⟨rfl, rfl⟩; rw [HUb.out])
      | (go_at_call_of 167 (Value.pointer (some ⟨A' a.toNat, 0, none⟩)); refine (I_owner A' p _ a.toNat _ x HSC.out (by omega) HSH.out hx0 hx1).mono ?_; rw [Int.toNat_of_nonneg ha0]; rintro e w6 ⟨rfl, hn⟩; rw [HOa.out]; have hcur := bthen hcur hn; have hz := hcur.size; have HSC6 := Lib.hid (HSC.out.keep hn); have hrow6 := World.rowIs.of_block HROW.out (hn.block Bs hgr); have crb := hrow6.cell (i := b.toNat) (by omega); have HROW6 := Lib.hid hrow6; have hgr6 := World.rowIs.lt hrow6; clear hn hrow6)
      | (go_at_call_of 167 (Value.pointer (some ⟨A' b.toNat, 0, none⟩)); refine (I_owner A' p _ b.toNat _ x (HSC6.out.keep al1) (by omega) HSH.out hx0 hx1).mono ?_; rw [Int.toNat_of_nonneg hb0]; rintro e w7 ⟨rfl, hn⟩; rw [HOb.out]; have sa0 := cell_later hn (World.cell?_alloc_at _ _ _ (Value.int .i64 oa) 0 rfl); have sa1 := cell_later hn (World.cell?_alloc_at _ _ _ (Value.int .i64 x) 1 rfl); have sz7 := hn.size; rw [World.size_alloc] at sz7; have sl7 : w6.heap.size < w7.heap.size := sz7; have hcur := bthen (bal hcur _) hn; have hrow7 := World.rowIs.of_block (World.rowIs.alloc HROW6.out _) (hn.block Bs (by rw [World.size_alloc]; omega)); have crc := hrow7.cell (i := oa.toNat) (by omega); have hgr7 := World.rowIs.lt hrow7; have hsq := ((HSC6.out.keep al1).keep hn) oa.toNat (by omega); have ckq := hsq.2.c1; have hkl := World.rowIs.lt hsq.2; rw [Int.toNat_of_nonneg hoa0, HK.out] at ckq; clear hrow7 hsq; clear hn))
    go_ret
    exact ⟨ret_bool HR.out.symm, bal hcur _⟩

end Go.Proofs.Ytklikpcfmmpocaa
