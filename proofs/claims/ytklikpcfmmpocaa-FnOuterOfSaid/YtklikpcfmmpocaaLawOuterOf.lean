/-
  The law FnOuterOf: for every input it answers true and leaves its argument as it was. No condition.
-/
import Derived.Test.YtklikpcfmmpocaaFrame
import Derived.Test.YtklikpcfmmpocaaFacts
import Derived.Test.YtklikpcfmmpocaaDwD
import Derived.Test.YtklikpcfmmpocaaImpl9
import Derived.Test.YtklikpcfmmpocaaDwM
namespace Go.Proofs.Ytklikpcfmmpocaa.outerOf
open Go.ChangeShapes Go.WideShapes Go.ChangeAt Go.RowKit
set_option linter.unusedVariables false

set_option maxRecDepth 100000 in
set_option maxHeartbeats 1000000 in
theorem walk (v : Value) (l : List Int) (w : World) (hv : OBytes w v l) :
    Calls Try.prog 13 #[v] w fun e w' => e = .returned (.bool true) ∧ Below w.heap.size w w' := by
  have HV := Lib.hid hv
  obtain ⟨⟨A, C, b', o, rfl, hn, hc, _, _⟩, _⟩ := hv
  unfold maxLen at hc
  by_cases hbig : 1048576 < l.length
  · go_enter Try.func13, Try.ntmps13
    go_wp2
    go_ret
    exact ⟨rfl, Below.refl _ _⟩
  have hl : l.length ≤ 1048576 := by omega
  go_enter Try.func13, Try.ntmps13
  go_wp2_with fail
  refine (S_DrawOuterOf _ l _ HV.out hl).mono ?_
  rintro e w1 ⟨sl, xs, p, b, x, rfl, hrow, hp, hB⟩
  clear HV hbig hl hc hn
  obtain ⟨ga, Cp, rfl, _, hCp, _, _, _, _⟩ := PRowX.rd hrow (by omega)
  unfold maxLen at hCp
  obtain ⟨PB, hPB⟩ : ∃ PB : Nat, PB = w1.heap.size := ⟨_, rfl⟩
  obtain ⟨W, hW⟩ : ∃ W : World, W = w1.alloc (.cells #[.slice (some ⟨ga, 0, none⟩) p.length Cp] 30) := ⟨_, rfl⟩
  have hB : Below w.heap.size w W := by rw [hW]; exact bal hB _
  have hP : Blks W w.heap.size (.slice (some ⟨ga, 0, none⟩) p.length Cp) p := by rw [hW]; exact (PRowX.blks hrow).keep al1
  have cP : W.cell? ⟨PB, 0, none⟩ = some (.slice (some ⟨ga, 0, none⟩) p.length Cp) := by rw [hW, hPB]; simp [go_sem]
  have HPB := Lib.hid hPB
  have HW := Lib.hid hW
  clear hPB hW hrow
  obtain ⟨R, hR⟩ : ∃ R : Int, R = rOuter p b x := ⟨_, rfl⟩
  have HR := Lib.hid hR
  clear hR
  have hne : (R != R) = false := by simp
  go_wp2_with fail
  rw [← HPB.out, ← HW.out]
  clear HPB HW
  refine (I_OuterOf _ p _ b x _ ⟨_, rfl, hP⟩).mono ?_
  rintro e w2 ⟨rfl, hb⟩
  rw [← HR.out]
  replace cP := cell_later hb cP
  replace hP := hP.keep hb
  replace hB := bthen hB hb
  clear hb
  by_cases h0 : R < 0
  · skip
    go_wp2_with fail
    refine (S_OuterOf _ p _ b x _ ⟨_, rfl, hP⟩).mono ?_
    rintro e w3 ⟨rfl, hb⟩
    rw [← HR.out]
    replace cP := cell_later hb cP
    replace hP := hP.keep hb
    replace hB := bthen hB hb
    clear hb
    go_wp2_with fail
    refine (S_OuterOf _ p _ b x _ ⟨_, rfl, hP⟩).mono ?_
    rintro e w4 ⟨rfl, hb⟩
    rw [← HR.out]
    replace cP := cell_later hb cP
    replace hP := hP.keep hb
    replace hB := bthen hB hb
    clear hb
    go_wp2
    go_ret
    exact ⟨rfl, hB⟩
  go_wp2_with fail
  refine (S_OuterOf _ p _ b x _ ⟨_, rfl, hP⟩).mono ?_
  rintro e w5 ⟨rfl, hb⟩
  rw [← HR.out]
  replace cP := cell_later hb cP
  replace hP := hP.keep hb
  replace hB := bthen hB hb
  clear hb
  obtain ⟨⟨hbp, hb1⟩, e1, e2, e3, e4, e5, ⟨u0, u1⟩, e6, e7⟩ := outer_law (p := p) (b := b) (x := x) (by rw [← HR.out]; omega)
  rw [← HR.out] at e1 e2 e3 e4 e5 e6
  have hb0 : 0 ≤ b := by omega
  have HE3 := Lib.hid e3
  have HE4 := Lib.hid e4
  have HE5 := Lib.hid e5
  have HE6 := Lib.hid e6
  have HE7 := Lib.hid e7
  clear e3 e4 e5 e6 e7 h0
  obtain ⟨A', C', g', e', _, _, hA', _, hcell, _⟩ := hP.rd
  obtain rfl := hA' (by omega)
  obtain ⟨rfl, rfl⟩ : ga = g' ∧ Cp = C' := by simpa using e'
  have hcl : ∀ j : Nat, j < p.length → w5.cell? ⟨ga, j * 4, none⟩ = some (.int .i64 (p.bk (j : Int)).kind) ∧ w5.cell? ⟨ga, j * 4 + 1, none⟩ = some (.int .i64 (p.bk (j : Int)).parent) := fun j hj => by
    obtain ⟨pv, bv, d0, d1, _⟩ := hcell j hj
    have ebk : p.bk (j : Int) = p.getD j default := by show p.getD (j : Int).toNat default = _; rw [Int.toNat_natCast]
    rw [ebk]; exact ⟨d0, d1⟩
  have HCL := Lib.hid hcl
  clear hcell hcl e' hA'
  obtain ⟨kb, rfl⟩ := Int.eq_ofNat_of_zero_le hb0
  obtain ⟨d0, d1⟩ := HCL.out kb (by omega)
  generalize hUP : (p.bk (kb : Int)).parent = UP at *
  obtain ⟨ku, rfl⟩ := Int.eq_ofNat_of_zero_le u0
  clear hUP d0
  go_wp2
  go_loopw [7] (fun i wi => ∃ k : Nat, k < p.length ∧ i = .int .i64 k ∧ outerK p x k = R ∧ Below w5.heap.size w5 wi) (fun i _ => (intOf i).toNat)
  case atStart => exact ⟨ku, by omega, rfl, HE6.out, below0 _⟩
  case round =>
    clear d1
    obtain ⟨k, hk, rfl, hkr, hb⟩ := hrel
    have hBik := hb
    have HKR := Lib.hid hkr
    clear hkr
    replace cP := cell_later hb cP
    replace hP := hP.keep hb
    replace hB := bthen hB hb
    clear hb
    by_cases hgt : (k : Int) > R
    · skip
      obtain ⟨d0, d1⟩ := HCL.out k hk
      replace d0 := cell_later hBik d0
      replace d1 := cell_later hBik d1
      obtain ⟨f1, ⟨f2, f3⟩, f4⟩ := HE7.out k (by rw [← HR.out]; exact hgt) (by omega) (by rw [← HR.out]; exact HKR.out)
      rw [← HR.out] at f4
      have HF1 := Lib.hid f1
      have HF4 := Lib.hid f4
      clear f1 f4
      generalize hQ : (p.bk (k : Int)).parent = Q at *
      obtain ⟨q, rfl⟩ := Int.eq_ofNat_of_zero_le f2
      have hki0 : (0 : Int) ≤ (k : Int) := by omega
      have hki1 : (k : Int) < (p.length : Int) := by omega
      clear hQ
      by_cases hk1 : (p.bk (k : Int)).kind = 1
      · have hlf := HF1.out hk1
        rw [hk1] at d0
        go_wp2_with fail
        refine (I_LocalIn _ p _ k x _ ⟨_, rfl, hP⟩).mono ?_
        rintro e w6 ⟨rfl, hb⟩
        rw [hlf]
        replace cP := cell_later hb cP
        replace d0 := cell_later hb d0
        replace d1 := cell_later hb d1
        replace hP := hP.keep hb
        replace hB := bthen hB hb
        replace hBik := bthen hBik hb
        clear hb
        go_wp2
        go_roundw
        case rel => exact ⟨q, by omega, rfl, HF4.out, hBik⟩
        case measure => simp [intOf]; omega
      have hkb : ((p.bk (k : Int)).kind == 1) = false := by rw [beq_eq_false_iff_ne]; exact hk1
      go_wp2
      go_roundw
      case rel => exact ⟨q, by omega, rfl, HF4.out, hBik⟩
      case measure => simp [intOf]; omega
    obtain ⟨r, rfl⟩ := Int.eq_ofNat_of_zero_le (show 0 ≤ R by omega)
    obtain ⟨d0, d1⟩ := HCL.out r (by omega)
    replace d0 := cell_later hBik d0
    rw [HE3.out] at d0
    have hq1 : (r : Int) > 0 := e1
    clear d1
    go_wp2_with fail
    refine (I_LocalIn _ p _ r x _ ⟨_, rfl, hP⟩).mono ?_
    rintro e w7 ⟨rfl, hb⟩
    rw [HE4.out]
    replace cP := cell_later hb cP
    replace d0 := cell_later hb d0
    replace hP := hP.keep hb
    replace hB := bthen hB hb
    clear hb
    go_wp2_with fail
    refine (I_InsideOf _ p _ r _ ⟨_, rfl, hP⟩).mono ?_
    rintro e w8 ⟨y, rfl, hy, hb⟩
    replace cP := cell_later hb cP
    replace d0 := cell_later hb d0
    replace hP := hP.keep hb
    replace hB := bthen hB hb
    clear hb
    go_wp2_with fail
    refine (L_isIn _ _ _ (kb : Int) _ hy).mono ?_
    rintro e w' ⟨rfl, rfl⟩
    rw [HE5.out]
    go_wp2
    go_ret
    exact ⟨rfl, hB⟩

theorem own : ownKnob Try.prog.godebug = none := by kernel_rfl
theorem laidOut : laidOutB Try.prog = true := by kernel_rfl

set_option maxRecDepth 100000 in
theorem lifted (os : Os) (started : os.Started) (H : Type) (enc : TypeId × Value → H) :
    ReturnsInHanded {} Try.checked os 13 .any (Rows.fnOuterOfSpec.pre6 enc Try.prog Try.f13 Rows.fnOuterOfRow.domain false) (Rows.fnOuterOfSpec.post enc Try.prog Try.f13 false true false false) := by
  refine returnsInHanded_of_change (C := Try.checked) own started (by kernel_rfl) Try.func13
    (ChangeSpec.witness6 (enc := enc) (C := Try.checked) false ⟨#[], #[.slice none 0 0], []⟩ 8 (by kernel_rfl) (by kernel_rfl) (by kernel_rfl) (by kernel_rfl)) ?_
  intro W base args ds gs before hval0 hW hcnd _
  have hval : ∀ (j : Nat) t v, Try.f13.params[j]? = some t → args[j]? = some v → Value.okWide Try.prog W .any base t v := hval0
  have hW' := hW
  obtain ⟨p, q, hA0, hV, rfl, hfz, hnd⟩ := hW
  have hA : DataW.TrodAll enc Try.prog W 0 (fun _ => true) true Try.f13.params.toList args.toList ds p := hA0
  rw [Try.params13] at hA hval
  obtain ⟨v0, d0, rfl, rfl, h0⟩ := trodAll_one hA
  obtain ⟨rfl, rfl⟩ := trodVars_none hV
  clear hA0 hval0
  simp only [List.append_nil] at hW'
  have hlt : ∀ x ∈ p, x.block < W.heap.size := fun x hx => hW'.lt x hx
  obtain ⟨q0, hq0⟩ := open_obytes (hval 0 22 v0 rfl rfl) h0
  refine (walk v0 q0 W hq0).mono fun e W' ⟨he, hb⟩ => ?_
  subst he
  exact ⟨_, rfl, post_of_below (pa := _) (pv := []) hW' (fun _ _ _ => (trodAll_cons_mk (shut_bool Try.underlying4 _) trodAll_mk0)) (fun sp hsp => (trodAll_cons_mk (WideElems.Trod_stays laidOut (by kernel_rfl) (of_decide_eq_true (by kernel_rfl)) h0 (fun x hx => hb.same (hlt x (hx))) (fun x hx => hsp x (hx))) trodAll_mk0)) (fun _ _ => rfl) (by simp)
    hb (ok_one (by kernel_rfl) rfl (okWide_bool_mk Try.underlying4 _))⟩

theorem closed : joinedFacts Try.pinned.checked.prog 13 Try.f13 Rows.fnOuterOfSpec Rows.fnOuterOfRow = true := by
  show joinedFacts Try.prog 13 Try.f13 Rows.fnOuterOfSpec Rows.fnOuterOfRow = true
  unfold joinedFacts
  rw [may_enter, lifts_not, make_cut]
  kernel_rfl

theorem over : Rows.fnOuterOfRow.holds Try.pinned (OpenSpec.ofChange Rows.fnOuterOfSpec) :=
  OpenClaim.holds_of_wide 13 Try.f13 rfl rfl rfl rfl rfl rfl rfl ⟨rfl, rfl, rfl, rfl, rfl⟩ rfl rfl rfl rfl rfl (by kernel_rfl) Try.func13 closed
    (of_decide_eq_true (by kernel_rfl)) (by unfold Func.isWrapper; first | (rw [if_pos (by decide +kernel)]; kernel_rfl) | (rw [if_neg (by decide +kernel)]; exact ⟨rfl, rfl⟩))
    (fun os started H enc _ => lifted os started H enc)

theorem proved : Rows.FnOuterOfSaid := over
#print axioms proved
end Go.Proofs.Ytklikpcfmmpocaa.outerOf
