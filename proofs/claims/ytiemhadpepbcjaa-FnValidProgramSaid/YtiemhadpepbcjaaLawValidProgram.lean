/-
  The law FnValidProgram: for every input it answers true and leaves its argument as it was. No condition.
-/
import Derived.Test.YtiemhadpepbcjaaFrame
import Derived.Test.YtiemhadpepbcjaaFacts
import Derived.Test.YtiemhadpepbcjaaDwA
import Derived.Test.YtiemhadpepbcjaaDwX
import Derived.Test.YtiemhadpepbcjaaLawFn
import Derived.Test.YtiemhadpepbcjaaDwV
import Derived.Test.YtiemhadpepbcjaaImpl3
namespace Go.Proofs.Ytiemhadpepbcjaa.validProgram
open Go.ChangeShapes Go.WideShapes Go.ChangeAt Go.RowKit
set_option linter.unusedVariables false

set_option maxRecDepth 100000 in
set_option maxHeartbeats 1000000 in
theorem walk (v : Value) (l : List Int) (w : World) (hv : OBytes w v l) :
    Calls Try.prog 3 #[v] w fun e w' => e = .returned (.bool true) ∧ Below w.heap.size w w' := by
  have HV := Lib.hid hv
  obtain ⟨⟨A, C, b', o, rfl, hn, hc, _, _⟩, _⟩ := hv
  unfold maxLen at hc
  by_cases hbig : 1048576 < l.length
  · go_enter Try.func3, Try.ntmps3
    go_wp2
    go_ret
    exact ⟨rfl, Below.refl _ _⟩
  have hl : l.length ≤ 1048576 := by omega
  go_enter Try.func3, Try.ntmps3
  go_wp2_with fail
  refine (S_DrawValidProgram _ l _ HV.out hl).mono ?_
  rintro e w1 ⟨sl, xs, p, rfl, hrow, hp, hB⟩
  clear HV hbig hl hc hn
  obtain ⟨ga, Cp, rfl, _, hCp, _, _, _, _⟩ := PRowX.rd hrow (by omega)
  unfold maxLen at hCp
  obtain ⟨PB, hPB⟩ : ∃ PB : Nat, PB = w1.heap.size := ⟨_, rfl⟩
  obtain ⟨W, hW⟩ : ∃ W : World, W = w1.alloc (.cells #[.slice (some ⟨ga, 0, none⟩) p.length Cp] 25) := ⟨_, rfl⟩
  have hB : Below w.heap.size w W := by rw [hW]; exact bal hB _
  have hP : Blks W w.heap.size (.slice (some ⟨ga, 0, none⟩) p.length Cp) p := by rw [hW]; exact (PRowX.blks hrow).keep al1
  have cP : W.cell? ⟨PB, 0, none⟩ = some (.slice (some ⟨ga, 0, none⟩) p.length Cp) := by rw [hW, hPB]; simp [go_sem]
  have HPB := Lib.hid hPB
  have HW := Lib.hid hW
  clear hPB hW hrow
  obtain ⟨R, hR⟩ : ∃ R : Bool, R = validP p := ⟨_, rfl⟩
  have HR := Lib.hid hR
  clear hR
  have hne : (R != R) = false := by simp
  go_wp2_with fail
  rw [← HPB.out, ← HW.out]
  clear HPB HW
  refine (I_ValidProgram _ p _ _ ⟨_, rfl, hP⟩).mono ?_
  rintro e w2 ⟨rfl, hb⟩
  rw [← HR.out]
  replace cP := cell_later hb cP
  replace hP := hP.keep hb
  replace hB := bthen hB hb
  clear hb
  go_wp2_with fail
  refine (S_ValidProgram _ p _ _ ⟨_, rfl, hP⟩).mono ?_
  rintro e w3 ⟨rfl, hb⟩
  rw [← HR.out]
  replace cP := cell_later hb cP
  replace hP := hP.keep hb
  replace hB := bthen hB hb
  clear hb
  cases hs : shape p
  · have HSH := Lib.hid hs
    clear hs
    go_wp2_with fail
    refine (I_ValidShape _ p _ _ ⟨_, rfl, hP⟩).mono ?_
    rintro e w4 ⟨rfl, hb⟩
    rw [HSH.out]
    replace cP := cell_later hb cP
    replace hP := hP.keep hb
    replace hB := bthen hB hb
    clear hb
    go_wp2_with fail
    refine (S_ValidProgram _ p _ _ ⟨_, rfl, hP⟩).mono ?_
    rintro e w5 ⟨rfl, hb⟩
    rw [← HR.out]
    replace cP := cell_later hb cP
    replace hP := hP.keep hb
    replace hB := bthen hB hb
    clear hb
    go_wp2
    go_ret
    exact ⟨ret_bool (by simp), hB⟩
  have HSH := Lib.hid hs
  clear hs
  go_wp2_with fail
  refine (I_ValidShape _ p _ _ ⟨_, rfl, hP⟩).mono ?_
  rintro e w6 ⟨rfl, hb⟩
  rw [HSH.out]
  replace cP := cell_later hb cP
  replace hP := hP.keep hb
  replace hB := bthen hB hb
  clear hb
  go_wp2_with fail
  refine (I_BareProgram _ p _ _ ⟨_, rfl, hP⟩).mono ?_
  rintro e w7 ⟨sl2, xs2, rfl, hr2, hap2, hb⟩
  rw [rBare_of_shape HSH.out] at hr2
  have hQ := PRowX.blks hr2
  clear hr2 hap2
  replace cP := cell_later hb cP
  replace hP := hP.keep hb
  replace hB := bthen hB hb
  clear hb
  go_wp2_with fail
  refine (I_ValidProgram _ (bareP p) _ _ ⟨_, rfl, hQ⟩).mono ?_
  rintro e w8 ⟨rfl, hb⟩
  rw [bare_valid HSH.out]
  replace cP := cell_later hb cP
  replace hP := hP.keep hb
  replace hQ := hQ.keep hb
  replace hB := bthen hB hb
  clear hb
  cases R
  · skip
    go_wp2
    go_ret
    exact ⟨rfl, hB⟩
  go_wp2_with fail
  refine (I_LeanProgram _ p _ _ hP HR.out.symm).mono ?_
  rintro e w9 ⟨sl3, xs3, q, rfl, hr3, hvq, hb⟩
  have HVQ := Lib.hid hvq
  have hQ3 := PRowX.blks hr3
  clear hvq hr3
  replace cP := cell_later hb cP
  replace hP := hP.keep hb
  replace hQ := hQ.keep hb
  replace hB := bthen hB hb
  clear hb
  go_wp2_with fail
  refine (I_ValidProgram _ q _ _ ⟨_, rfl, hQ3⟩).mono ?_
  rintro e w10 ⟨rfl, hb⟩
  rw [HVQ.out]
  replace cP := cell_later hb cP
  replace hP := hP.keep hb
  replace hQ := hQ.keep hb
  replace hQ3 := hQ3.keep hb
  replace hB := bthen hB hb
  clear hb
  go_wp2
  go_ret
  exact ⟨rfl, hB⟩

theorem own : ownKnob Try.prog.godebug = none := by kernel_rfl
theorem laidOut : laidOutB Try.prog = true := by kernel_rfl

set_option maxRecDepth 100000 in
theorem lifted (os : Os) (started : os.Started) (H : Type) (enc : TypeId × Value → H) :
    ReturnsInHanded {} Try.checked os 3 .any (Rows.fnValidProgramSpec.pre6 enc Try.prog Try.f3 Rows.fnValidProgramRow.domain false) (Rows.fnValidProgramSpec.post enc Try.prog Try.f3 false true false false) := by
  refine returnsInHanded_of_change (C := Try.checked) own started (by kernel_rfl) Try.func3
    (ChangeSpec.witness6 (enc := enc) (C := Try.checked) false ⟨#[], #[.slice none 0 0], []⟩ 8 (by kernel_rfl) (by kernel_rfl) (by kernel_rfl) (by kernel_rfl)) ?_
  intro W base args ds gs before hval0 hW hcnd _
  have hval : ∀ (j : Nat) t v, Try.f3.params[j]? = some t → args[j]? = some v → Value.okWide Try.prog W .any base t v := hval0
  have hW' := hW
  obtain ⟨p, q, hA0, hV, rfl, hfz, hnd⟩ := hW
  have hA : DataW.TrodAll enc Try.prog W 0 (fun _ => true) true Try.f3.params.toList args.toList ds p := hA0
  rw [Try.params3] at hA hval
  obtain ⟨v0, d0, rfl, rfl, h0⟩ := trodAll_one hA
  obtain ⟨rfl, rfl⟩ := trodVars_none hV
  clear hA0 hval0
  simp only [List.append_nil] at hW'
  have hlt : ∀ x ∈ p, x.block < W.heap.size := fun x hx => hW'.lt x hx
  obtain ⟨q0, hq0⟩ := open_obytes (hval 0 22 v0 rfl rfl) h0
  refine (walk v0 q0 W hq0).mono fun e W' ⟨he, hb⟩ => ?_
  subst he
  exact ⟨_, rfl, post_of_below (pa := _) (pv := []) hW' (fun _ _ _ => (trodAll_cons_mk (shut_bool Try.underlying4 _) trodAll_mk0)) (fun sp hsp => (trodAll_cons_mk (WideElems.Trod_stays laidOut (by kernel_rfl) (of_decide_eq_true (by kernel_rfl)) h0 (fun x hx => hb.same (hlt x (hx))) (fun x hx => hsp x (hx))) trodAll_mk0)) (fun _ _ => rfl) (by simp)
    hb (ok_one (by kernel_rfl) rfl (okWide_bool_mk Try.underlying4 _))⟩

theorem closed : joinedFacts Try.pinned.checked.prog 3 Try.f3 Rows.fnValidProgramSpec Rows.fnValidProgramRow = true := by
  show joinedFacts Try.prog 3 Try.f3 Rows.fnValidProgramSpec Rows.fnValidProgramRow = true
  unfold joinedFacts
  rw [may_enter, lifts_not, make_cut]
  kernel_rfl

theorem over : Rows.fnValidProgramRow.holds Try.pinned (OpenSpec.ofChange Rows.fnValidProgramSpec) :=
  OpenClaim.holds_of_wide 3 Try.f3 rfl rfl rfl rfl rfl rfl rfl ⟨rfl, rfl, rfl, rfl, rfl⟩ rfl rfl rfl rfl rfl (by kernel_rfl) Try.func3 closed
    (of_decide_eq_true (by kernel_rfl)) (by unfold Func.isWrapper; first | (rw [if_pos (by decide +kernel)]; kernel_rfl) | (rw [if_neg (by decide +kernel)]; exact ⟨rfl, rfl⟩))
    (fun os started H enc _ => lifted os started H enc)

theorem proved : Rows.FnValidProgramSaid := over
#print axioms proved
end Go.Proofs.Ytiemhadpepbcjaa.validProgram
