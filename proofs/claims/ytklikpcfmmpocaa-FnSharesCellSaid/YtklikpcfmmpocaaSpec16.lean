/-
  Walks: the reference's SharesCell. Condition: the argument reads as a program.
-/
import Derived.Test.YtklikpcfmmpocaaSpec15
namespace Go.Proofs.Ytklikpcfmmpocaa
open Go.RowKit
set_option linter.unusedVariables false

/-- Do two blocks that use a name share its cell? -/
def shareQ (p : Pr) (a b x : Int) : Bool := decide (0 < ownerF p a x) && (ownerF p a x == ownerF p b x && (p.bk (ownerF p a x)).kind == 1)
def rShares (p : Pr) (a b x : Int) : Bool := validP p && ((shapeAt p a && isNm x) && ((shapeAt p b && isNm x) && (!(a == b) && ((p.bk a).usesB x && ((p.bk b).usesB x && shareQ p a b x)))))

set_option maxRecDepth 100000 in
set_option maxHeartbeats 2000000 in
theorem S_SharesCell (v : Value) (p : Pr) (lo : Nat) (a b x : Int) (w : World) (hv : Prog w lo v p) :
    Calls Try.prog 94 #[v, .int .i64 a, .int .i64 b, .int .i64 x] w fun e w' => e = .returned (.bool (rShares p a b x)) ∧ Below w.heap.size w w' := by
  obtain ⟨sl, rfl, hv⟩ := hv
  have HV := Lib.hid hv
  obtain ⟨A, C, rfl⟩ := hv.form
  clear hv
  obtain ⟨R, hR⟩ : ∃ R : Bool, R = rShares p a b x := ⟨_, rfl⟩
  rw [← hR]
  unfold rShares at hR
  cases hp : validP p
  · rw [hp, Bool.false_and] at hR
    have HP := Lib.hid hp
    clear hp
    have HR := Lib.hid hR
    clear hR
    go_enter Try.func94, Try.ntmps94
    go_wp2_with (first
      | (go_at_call 139; refine (S_validProgram _ p lo _ (HV.out.keep al1)).mono ?_; rintro e w1 ⟨rfl, hn⟩; rw [HP.out]; have cb := boxAt1 hn; have hcur := bthen (al1 (w := w)) hn; have hz := hcur.size; clear hn))
    go_ret
    exact ⟨ret_bool HR.out.symm, hcur⟩
  rw [hp, Bool.true_and] at hR
  have HP := Lib.hid hp
  have hsh := validP_shape hp
  have hl := shape_len hsh
  have HSH := Lib.hid hsh
  obtain ⟨g, C', e, hg⟩ := HV.out.formS (by omega)
  obtain ⟨rfl, rfl⟩ : A = some ⟨g, 0, none⟩ ∧ C = C' := by simpa using e
  clear e hp hsh
  cases hsa : shapeAt p a && isNm x
  · rw [hsa, Bool.false_and] at hR
    have HSA := Lib.hid hsa
    clear hsa
    have HR := Lib.hid hR
    clear hR
    go_enter Try.func94, Try.ntmps94
    go_wp2_with (first
      | (go_at_call 139; refine (S_validProgram _ p lo _ (HV.out.keep al1)).mono ?_; rintro e w1 ⟨rfl, hn⟩; rw [HP.out]; have cb := boxAt1 hn; have hcur := bthen (al1 (w := w)) hn; have hz := hcur.size; clear hn)
      | (go_at_call_of 162 (Value.int .i64 a); refine (S_validUse _ p lo a x _ (HV.out.keep hcur)).mono ?_; rintro e wva ⟨rfl, hn⟩; rw [HSA.out]; have cb := cell_later hn cb; have hcur := bthen hcur hn; have hz := hcur.size; clear hn))
    go_ret
    exact ⟨ret_bool HR.out.symm, hcur⟩
  rw [hsa, Bool.true_and] at hR
  have HSA := Lib.hid hsa
  obtain ⟨h1, h2⟩ := Bool.and_eq_true_iff.1 hsa
  obtain ⟨_, ha0, ha1⟩ := shapeAt_iff.1 h1
  obtain ⟨hx0, hx1⟩ := isNm_iff.1 h2
  clear hsa h1 h2
  cases hsb : shapeAt p b && isNm x
  · rw [hsb, Bool.false_and] at hR
    have HSB := Lib.hid hsb
    clear hsb
    have HR := Lib.hid hR
    clear hR
    go_enter Try.func94, Try.ntmps94
    go_wp2_with (first
      | (go_at_call 139; refine (S_validProgram _ p lo _ (HV.out.keep al1)).mono ?_; rintro e w1 ⟨rfl, hn⟩; rw [HP.out]; have cb := boxAt1 hn; have hcur := bthen (al1 (w := w)) hn; have hz := hcur.size; clear hn)
      | (go_at_call_of 162 (Value.int .i64 a); refine (S_validUse _ p lo a x _ (HV.out.keep hcur)).mono ?_; rintro e wva ⟨rfl, hn⟩; rw [HSA.out]; have cb := cell_later hn cb; have hcur := bthen hcur hn; have hz := hcur.size; clear hn)
      | (go_at_call_of 162 (Value.int .i64 b); refine (S_validUse _ p lo b x _ (HV.out.keep hcur)).mono ?_; rintro e wvb ⟨rfl, hn⟩; rw [HSB.out]; have cb := cell_later hn cb; have hcur := bthen hcur hn; have hz := hcur.size; clear hn))
    go_ret
    exact ⟨ret_bool HR.out.symm, hcur⟩
  rw [hsb, Bool.true_and] at hR
  have HSB := Lib.hid hsb
  obtain ⟨h1, h2⟩ := Bool.and_eq_true_iff.1 hsb
  obtain ⟨_, hb0, hb1⟩ := shapeAt_iff.1 h1
  clear hsb h1 h2
  cases hab : a == b
  case true =>
    rw [hab, Bool.not_true, Bool.false_and] at hR
    have HR := Lib.hid hR
    clear hR
    go_enter Try.func94, Try.ntmps94
    go_wp2_with (first
      | (go_at_call 139; refine (S_validProgram _ p lo _ (HV.out.keep al1)).mono ?_; rintro e w1 ⟨rfl, hn⟩; rw [HP.out]; have cb := boxAt1 hn; have hcur := bthen (al1 (w := w)) hn; have hz := hcur.size; clear hn)
      | (go_at_call_of 162 (Value.int .i64 a); refine (S_validUse _ p lo a x _ (HV.out.keep hcur)).mono ?_; rintro e wva ⟨rfl, hn⟩; rw [HSA.out]; have cb := cell_later hn cb; have hcur := bthen hcur hn; have hz := hcur.size; clear hn)
      | (go_at_call_of 162 (Value.int .i64 b); refine (S_validUse _ p lo b x _ (HV.out.keep hcur)).mono ?_; rintro e wvb ⟨rfl, hn⟩; rw [HSB.out]; have cb := cell_later hn cb; have hcur := bthen hcur hn; have hz := hcur.size; clear hn))
    go_ret
    exact ⟨ret_bool HR.out.symm, hcur⟩
  rw [hab, Bool.not_false, Bool.true_and] at hR
  have hua : hasF (usedF p a) x = (p.bk a).usesB x := hasF_nms _ x hx0 hx1
  have hub : hasF (usedF p b) x = (p.bk b).usesB x := hasF_nms _ x hx0 hx1
  cases h1 : (p.bk a).usesB x
  · rw [h1] at hua
    rw [h1, Bool.false_and] at hR
    have HUa := Lib.hid hua
    clear hua hub h1
    have HR := Lib.hid hR
    clear hR
    go_enter Try.func94, Try.ntmps94
    go_wp2_with (first
      | (go_at_call 139; refine (S_validProgram _ p lo _ (HV.out.keep al1)).mono ?_; rintro e w1 ⟨rfl, hn⟩; rw [HP.out]; have cb := boxAt1 hn; have hcur := bthen (al1 (w := w)) hn; have hz := hcur.size; clear hn)
      | (go_at_call_of 162 (Value.int .i64 a); refine (S_validUse _ p lo a x _ (HV.out.keep hcur)).mono ?_; rintro e wva ⟨rfl, hn⟩; rw [HSA.out]; have cb := cell_later hn cb; have hcur := bthen hcur hn; have hz := hcur.size; clear hn)
      | (go_at_call_of 162 (Value.int .i64 b); refine (S_validUse _ p lo b x _ (HV.out.keep hcur)).mono ?_; rintro e wvb ⟨rfl, hn⟩; rw [HSB.out]; have cb := cell_later hn cb; have hcur := bthen hcur hn; have hz := hcur.size; clear hn)
      | (go_at_call_of 170 (Value.int .i64 a); refine (S_used _ p lo a _ (HV.out.keep hcur) HSH.out ha0 ha1).mono ?_; rintro e wua ⟨va, rfl, hia, hn⟩; have cb := cell_later hn cb; have hcur := bthen hcur hn; have hz := hcur.size; clear hn)
      | (go_at_call 175; refine (S_has va _ _ x _ hia).mono ?_; rintro e w' ⟨rfl, rfl⟩; rw [HUa.out]))
    go_ret
    exact ⟨ret_bool HR.out.symm, hcur⟩
  rw [h1] at hua
  rw [h1, Bool.true_and] at hR
  have HUa := Lib.hid hua
  clear hua h1
  cases h1 : (p.bk b).usesB x
  · rw [h1] at hub
    rw [h1, Bool.false_and] at hR
    have HUb := Lib.hid hub
    clear hub h1
    have HR := Lib.hid hR
    clear hR
    go_enter Try.func94, Try.ntmps94
    go_wp2_with (first
      | (go_at_call 139; refine (S_validProgram _ p lo _ (HV.out.keep al1)).mono ?_; rintro e w1 ⟨rfl, hn⟩; rw [HP.out]; have cb := boxAt1 hn; have hcur := bthen (al1 (w := w)) hn; have hz := hcur.size; clear hn)
      | (go_at_call_of 162 (Value.int .i64 a); refine (S_validUse _ p lo a x _ (HV.out.keep hcur)).mono ?_; rintro e wva ⟨rfl, hn⟩; rw [HSA.out]; have cb := cell_later hn cb; have hcur := bthen hcur hn; have hz := hcur.size; clear hn)
      | (go_at_call_of 162 (Value.int .i64 b); refine (S_validUse _ p lo b x _ (HV.out.keep hcur)).mono ?_; rintro e wvb ⟨rfl, hn⟩; rw [HSB.out]; have cb := cell_later hn cb; have hcur := bthen hcur hn; have hz := hcur.size; clear hn)
      | (go_at_call_of 170 (Value.int .i64 a); refine (S_used _ p lo a _ (HV.out.keep hcur) HSH.out ha0 ha1).mono ?_; rintro e wua ⟨va, rfl, hia, hn⟩; have cb := cell_later hn cb; have hcur := bthen hcur hn; have hz := hcur.size; clear hn)
      | (go_at_call 175; refine (S_has vb _ _ x _ hib).mono ?_; rintro e w' ⟨rfl, rfl⟩; rw [HUb.out])
      | (go_at_call 175; refine (S_has va _ _ x _ hia).mono ?_; rintro e w' ⟨rfl, rfl⟩; rw [HUa.out])
      | (go_at_call_of 170 (Value.int .i64 b); refine (S_used _ p lo b _ (HV.out.keep hcur) HSH.out hb0 hb1).mono ?_; rintro e wub ⟨vb, rfl, hib, hn⟩; have cb := cell_later hn cb; have hcur := bthen hcur hn; have hz := hcur.size; clear hn))
    go_ret
    exact ⟨ret_bool HR.out.symm, hcur⟩
  rw [h1] at hub
  rw [h1, Bool.true_and] at hR
  have HUb := Lib.hid hub
  clear hub h1
  have hoc := ownerF_cases p a x ha0
  unfold shareQ at hR
  obtain ⟨oa, hoa⟩ : ∃ oa : Int, ownerF p a x = oa := ⟨_, rfl⟩
  obtain ⟨ob, hob⟩ : ∃ ob : Int, ownerF p b x = ob := ⟨_, rfl⟩
  rw [hoa, hob] at hR
  rw [hoa] at hoc
  have HOa := Lib.hid hoa
  have HOb := Lib.hid hob
  have hoab : oa = -1 ∨ (0 < oa ∧ oa ≤ a) := hoc.imp id fun h => ⟨h.1, h.2.1⟩
  clear hoa hob hoc
  by_cases h0 : 0 < oa
  case neg =>
    rw [decide_eq_false h0, Bool.false_and] at hR
    have HR := Lib.hid hR
    clear hR hoab
    go_enter Try.func94, Try.ntmps94
    go_wp2_with (first
      | (go_at_call 139; refine (S_validProgram _ p lo _ (HV.out.keep al1)).mono ?_; rintro e w1 ⟨rfl, hn⟩; rw [HP.out]; have cb := boxAt1 hn; have hcur := bthen (al1 (w := w)) hn; have hz := hcur.size; clear hn)
      | (go_at_call_of 162 (Value.int .i64 a); refine (S_validUse _ p lo a x _ (HV.out.keep hcur)).mono ?_; rintro e wva ⟨rfl, hn⟩; rw [HSA.out]; have cb := cell_later hn cb; have hcur := bthen hcur hn; have hz := hcur.size; clear hn)
      | (go_at_call_of 162 (Value.int .i64 b); refine (S_validUse _ p lo b x _ (HV.out.keep hcur)).mono ?_; rintro e wvb ⟨rfl, hn⟩; rw [HSB.out]; have cb := cell_later hn cb; have hcur := bthen hcur hn; have hz := hcur.size; clear hn)
      | (go_at_call_of 170 (Value.int .i64 a); refine (S_used _ p lo a _ (HV.out.keep hcur) HSH.out ha0 ha1).mono ?_; rintro e wua ⟨va, rfl, hia, hn⟩; have cb := cell_later hn cb; have hcur := bthen hcur hn; have hz := hcur.size; clear hn)
      | (go_at_call 175; refine (S_has vb _ _ x _ hib).mono ?_; rintro e w' ⟨rfl, rfl⟩; rw [HUb.out])
      | (go_at_call 175; refine (S_has va _ _ x _ hia).mono ?_; rintro e w' ⟨rfl, rfl⟩; rw [HUa.out])
      | (go_at_call_of 170 (Value.int .i64 b); refine (S_used _ p lo b _ (HV.out.keep hcur) HSH.out hb0 hb1).mono ?_; rintro e wub ⟨vb, rfl, hib, hn⟩; have cb := cell_later hn cb; have hcur := bthen hcur hn; have hz := hcur.size; clear hn)
      | (go_at_call_of 168 (Value.int .i64 a); refine (S_owner _ p lo a x _ (HV.out.keep hcur) HSH.out ha0 ha1 hx0 hx1).mono ?_; rintro e woa ⟨rfl, hn⟩; rw [HOa.out]; have cb := cell_later hn cb; have hcur := bthen hcur hn; have hz := hcur.size; clear hn))
    go_ret
    exact ⟨ret_bool HR.out.symm, hcur⟩
  rw [decide_eq_true h0, Bool.true_and] at hR
  have hoa0 : 0 ≤ oa := by omega
  have hoa1 : oa < p.length := by omega
  clear hoab
  cases he : oa == ob
  · rw [he, Bool.false_and] at hR
    have HR := Lib.hid hR
    clear hR
    go_enter Try.func94, Try.ntmps94
    go_wp2_with (first
      | (go_at_call 139; refine (S_validProgram _ p lo _ (HV.out.keep al1)).mono ?_; rintro e w1 ⟨rfl, hn⟩; rw [HP.out]; have cb := boxAt1 hn; have hcur := bthen (al1 (w := w)) hn; have hz := hcur.size; clear hn)
      | (go_at_call_of 162 (Value.int .i64 a); refine (S_validUse _ p lo a x _ (HV.out.keep hcur)).mono ?_; rintro e wva ⟨rfl, hn⟩; rw [HSA.out]; have cb := cell_later hn cb; have hcur := bthen hcur hn; have hz := hcur.size; clear hn)
      | (go_at_call_of 162 (Value.int .i64 b); refine (S_validUse _ p lo b x _ (HV.out.keep hcur)).mono ?_; rintro e wvb ⟨rfl, hn⟩; rw [HSB.out]; have cb := cell_later hn cb; have hcur := bthen hcur hn; have hz := hcur.size; clear hn)
      | (go_at_call_of 170 (Value.int .i64 a); refine (S_used _ p lo a _ (HV.out.keep hcur) HSH.out ha0 ha1).mono ?_; rintro e wua ⟨va, rfl, hia, hn⟩; have cb := cell_later hn cb; have hcur := bthen hcur hn; have hz := hcur.size; clear hn)
      | (go_at_call 175; refine (S_has vb _ _ x _ hib).mono ?_; rintro e w' ⟨rfl, rfl⟩; rw [HUb.out])
      | (go_at_call 175; refine (S_has va _ _ x _ hia).mono ?_; rintro e w' ⟨rfl, rfl⟩; rw [HUa.out])
      | (go_at_call_of 170 (Value.int .i64 b); refine (S_used _ p lo b _ (HV.out.keep hcur) HSH.out hb0 hb1).mono ?_; rintro e wub ⟨vb, rfl, hib, hn⟩; have cb := cell_later hn cb; have hcur := bthen hcur hn; have hz := hcur.size; clear hn)
      | (go_at_call_of 168 (Value.int .i64 a); refine (S_owner _ p lo a x _ (HV.out.keep hcur) HSH.out ha0 ha1 hx0 hx1).mono ?_; rintro e woa ⟨rfl, hn⟩; rw [HOa.out]; have cb := cell_later hn cb; have hcur := bthen hcur hn; have hz := hcur.size; clear hn)
      | (go_at_call_of 168 (Value.int .i64 b); refine (S_owner _ p lo b x _ (HV.out.keep hcur) HSH.out hb0 hb1 hx0 hx1).mono ?_; rintro e wob ⟨rfl, hn⟩; rw [HOb.out]; have cb := cell_later hn cb; have hcur := bthen hcur hn; have hz := hcur.size; clear hn))
    go_ret
    exact ⟨ret_bool HR.out.symm, hcur⟩
  rw [he, Bool.true_and] at hR
  obtain ⟨K, hK⟩ : ∃ K : Int, (p.bk oa).kind = K := ⟨_, rfl⟩
  rw [hK] at hR
  have HK := Lib.hid hK
  clear hK
  cases hk : K == 1
  all_goals
    rw [hk] at hR
    have HR := Lib.hid hR
    clear hR
    go_enter Try.func94, Try.ntmps94
    go_wp2_with (first
      | (go_at_call 139; refine (S_validProgram _ p lo _ (HV.out.keep al1)).mono ?_; rintro e w1 ⟨rfl, hn⟩; rw [HP.out]; have cb := boxAt1 hn; have hcur := bthen (al1 (w := w)) hn; have hz := hcur.size; clear hn)
      | (go_at_call_of 162 (Value.int .i64 a); refine (S_validUse _ p lo a x _ (HV.out.keep hcur)).mono ?_; rintro e wva ⟨rfl, hn⟩; rw [HSA.out]; have cb := cell_later hn cb; have hcur := bthen hcur hn; have hz := hcur.size; clear hn)
      | (go_at_call_of 162 (Value.int .i64 b); refine (S_validUse _ p lo b x _ (HV.out.keep hcur)).mono ?_; rintro e wvb ⟨rfl, hn⟩; rw [HSB.out]; have cb := cell_later hn cb; have hcur := bthen hcur hn; have hz := hcur.size; clear hn)
      | (go_at_call_of 170 (Value.int .i64 a); refine (S_used _ p lo a _ (HV.out.keep hcur) HSH.out ha0 ha1).mono ?_; rintro e wua ⟨va, rfl, hia, hn⟩; have cb := cell_later hn cb; have hcur := bthen hcur hn; have hz := hcur.size; clear hn)
      | (go_at_call 175; refine (S_has vb _ _ x _ hib).mono ?_; rintro e w' ⟨rfl, rfl⟩; rw [HUb.out])
      | (go_at_call 175; refine (S_has va _ _ x _ hia).mono ?_; rintro e w' ⟨rfl, rfl⟩; rw [HUa.out])
      | (go_at_call_of 170 (Value.int .i64 b); refine (S_used _ p lo b _ (HV.out.keep hcur) HSH.out hb0 hb1).mono ?_; rintro e wub ⟨vb, rfl, hib, hn⟩; have cb := cell_later hn cb; have hcur := bthen hcur hn; have hz := hcur.size; clear hn)
      | (go_at_call_of 168 (Value.int .i64 a); refine (S_owner _ p lo a x _ (HV.out.keep hcur) HSH.out ha0 ha1 hx0 hx1).mono ?_; rintro e woa ⟨rfl, hn⟩; rw [HOa.out]; have cb := cell_later hn cb; have hcur := bthen hcur hn; have hz := hcur.size; clear hn)
      | (go_at_call_of 168 (Value.int .i64 b); refine (S_owner _ p lo b x _ (HV.out.keep hcur) HSH.out hb0 hb1 hx0 hx1).mono ?_; rintro e wob ⟨rfl, hn⟩; rw [HOb.out]; have cb := cell_later hn cb; have hcur := bthen hcur hn; have hz := hcur.size; clear hn; obtain ⟨hgq, _, _, _, _, e0q, _⟩ := Prog.atg (HV.out.keep hcur) oa hoa0 hoa1; rw [HK.out] at e0q))
    go_ret
    exact ⟨ret_bool HR.out.symm, hcur⟩

end Go.Proofs.Ytklikpcfmmpocaa
