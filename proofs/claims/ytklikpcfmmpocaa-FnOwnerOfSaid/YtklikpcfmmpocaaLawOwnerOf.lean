/-
  The law FnOwnerOf: for every input it answers true and leaves its argument as it was. No condition.
-/
import Derived.Test.YtklikpcfmmpocaaFrame
import Derived.Test.YtklikpcfmmpocaaFacts
import Derived.Test.YtklikpcfmmpocaaDwD
import Derived.Test.YtklikpcfmmpocaaImpl9
import Derived.Test.YtklikpcfmmpocaaDwM
namespace Go.Proofs.Ytklikpcfmmpocaa.ownerOf
open Go.ChangeShapes Go.WideShapes Go.ChangeAt Go.RowKit
set_option linter.unusedVariables false

set_option maxRecDepth 100000 in
set_option maxHeartbeats 1000000 in
theorem walk (v : Value) (l : List Int) (w : World) (hv : OBytes w v l) :
    Calls Try.prog 15 #[v] w fun e w' => e = .returned (.bool true) ∧ Below w.heap.size w w' := by
  have HV := Lib.hid hv
  obtain ⟨⟨A, C, b', o, rfl, hn, hc, _, _⟩, _⟩ := hv
  unfold maxLen at hc
  by_cases hbig : 1048576 < l.length
  · go_enter Try.func15, Try.ntmps15
    go_wp2
    go_ret
    exact ⟨rfl, Below.refl _ _⟩
  have hl : l.length ≤ 1048576 := by omega
  go_enter Try.func15, Try.ntmps15
  go_wp2_with fail
  refine (S_DrawOwnerOf _ l _ HV.out hl).mono ?_
  rintro e w1 ⟨sl, xs, p, b, x, rfl, hrow, hp, hB⟩
  clear HV hbig hl hc hn
  obtain ⟨ga, Cp, rfl, _, hCp, _, _, _, _⟩ := PRowX.rd hrow (by omega)
  unfold maxLen at hCp
  obtain ⟨PB, hPB⟩ : ∃ PB : Nat, PB = w1.heap.size := ⟨_, rfl⟩
  obtain ⟨W, hW⟩ : ∃ W : World, W = w1.alloc (.cells #[.slice (some ⟨ga, 0, none⟩) p.length Cp] 30) := ⟨_, rfl⟩
  have hB : Below w.heap.size w W := by rw [hW]; exact bal hB _
  have hP : Blks W w.heap.size (.slice (some ⟨ga, 0, none⟩) p.length Cp) p := by rw [hW]; exact (PRowX.blks hrow).keep al1
  have cP : W.cell? ⟨PB, 0, none⟩ = some (.slice (some ⟨ga, 0, none⟩) p.length Cp) := by rw [hW, hPB]; simp [go_sem]
  have HPB := Lib.hid hPB
  have HW := Lib.hid hW
  clear hPB hW hrow
  obtain ⟨R, hR⟩ : ∃ R : Int, R = rOwner p b x := ⟨_, rfl⟩
  have HR := Lib.hid hR
  clear hR
  have hne : (R != R) = false := by simp
  go_wp2_with fail
  rw [← HPB.out, ← HW.out]
  clear HPB HW
  refine (I_OwnerOf _ p _ b x _ ⟨_, rfl, hP⟩).mono ?_
  rintro e w2 ⟨rfl, hb⟩
  rw [← HR.out]
  replace cP := cell_later hb cP
  replace hP := hP.keep hb
  replace hB := bthen hB hb
  clear hb
  go_wp2_with fail
  refine (S_OwnerOf _ p _ b x _ ⟨_, rfl, hP⟩).mono ?_
  rintro e w3 ⟨rfl, hb⟩
  rw [← HR.out]
  replace cP := cell_later hb cP
  replace hP := hP.keep hb
  replace hB := bthen hB hb
  clear hb
  by_cases h2 : R = -2
  · subst h2
    go_wp2_with fail
    refine (S_OwnerOf _ p _ b x _ ⟨_, rfl, hP⟩).mono ?_
    rintro e w4 ⟨rfl, hb⟩
    rw [← HR.out]
    replace cP := cell_later hb cP
    replace hP := hP.keep hb
    replace hB := bthen hB hb
    clear hb
    go_wp2
    go_ret
    exact ⟨rfl, hB⟩
  have hq2 : (R == -2) = false := by rw [beq_eq_false_iff_ne]; exact h2
  have HN := Lib.hid (show rOwner p b x ≠ -2 by rw [← HR.out]; exact h2)
  clear h2
  by_cases hb0 : b = 0
  · subst hb0
    obtain rfl : R = -1 := HR.out.trans (owner_zero HN.out rfl)
    go_wp2
    go_ret
    exact ⟨rfl, hB⟩
  have hqb : (b == 0) = false := by rw [beq_eq_false_iff_ne]; exact hb0
  go_wp2_with fail
  refine (I_DeclaredIn _ p _ b 9 _ ⟨_, rfl, hP⟩).mono ?_
  rintro e w5 ⟨y, rfl, hy, hb⟩
  replace cP := cell_later hb cP
  replace hP := hP.keep hb
  replace hB := bthen hB hb
  clear hb
  cases hd : hasF (rDecl p b 9) x
  case true =>
    have HD := Lib.hid hd
    clear hd
    obtain rfl : R = -1 := HR.out.trans (owner_glob HN.out HD.out)
    go_wp2_with fail
    refine (L_isIn _ _ _ x _ hy).mono ?_
    rintro e w' ⟨rfl, rfl⟩
    rw [HD.out]
    go_wp2
    go_ret
    exact ⟨rfl, hB⟩
  have HD := Lib.hid hd
  clear hd
  go_wp2_with fail
  refine (L_isIn _ _ _ x _ hy).mono ?_
  rintro e w' ⟨rfl, rfl⟩
  rw [HD.out]
  cases hl : rLocal p b x
  case true =>
    have HL := Lib.hid hl
    clear hl
    obtain rfl : R = b := HR.out.trans (owner_loc HN.out HL.out)
    go_wp2_with fail
    refine (I_LocalIn _ p _ R x _ ⟨_, rfl, hP⟩).mono ?_
    rintro e w6 ⟨rfl, hb⟩
    rw [HL.out]
    replace cP := cell_later hb cP
    replace hP := hP.keep hb
    replace hy := hy.keep hb
    replace hB := bthen hB hb
    clear hb
    go_wp2
    go_ret
    exact ⟨ret_bool (by simp), hB⟩
  have HL := Lib.hid hl
  clear hl
  go_wp2_with fail
  refine (I_LocalIn _ p _ b x _ ⟨_, rfl, hP⟩).mono ?_
  rintro e w7 ⟨rfl, hb⟩
  rw [HL.out]
  replace cP := cell_later hb cP
  replace hP := hP.keep hb
  replace hy := hy.keep hb
  replace hB := bthen hB hb
  clear hb
  obtain ⟨e1, e2⟩ := owner_out HN.out hb0 HD.out HL.out
  rw [← HR.out] at e1 e2
  have E1 := Lib.hid e1
  have E2 := Lib.hid e2
  clear e1 e2
  go_wp2_with fail
  refine (I_OuterOf _ p _ b x _ ⟨_, rfl, hP⟩).mono ?_
  rintro e w8 ⟨rfl, hb⟩
  rw [← E1.out]
  replace cP := cell_later hb cP
  replace hP := hP.keep hb
  replace hy := hy.keep hb
  replace hB := bthen hB hb
  clear hb
  go_wp2_with fail
  refine (I_DeclaredIn _ p _ b 10 _ ⟨_, rfl, hP⟩).mono ?_
  rintro e w9 ⟨z, rfl, hz, hb⟩
  replace cP := cell_later hb cP
  replace hP := hP.keep hb
  replace hy := hy.keep hb
  replace hB := bthen hB hb
  clear hb
  cases hd : hasF (rDecl p b 10) x
  · have HD2 := Lib.hid hd
    clear hd
    go_wp2_with fail
    refine (L_isIn _ _ _ x _ hz).mono ?_
    rintro e w' ⟨rfl, rfl⟩
    rw [HD2.out]
    go_wp2
    go_ret
    exact ⟨rfl, hB⟩
  have hq3 : R > 0 := E2.out hd
  have HD2 := Lib.hid hd
  clear hd
  go_wp2_with fail
  refine (L_isIn _ _ _ x _ hz).mono ?_
  rintro e w' ⟨rfl, rfl⟩
  rw [HD2.out]
  go_wp2
  go_ret
  exact ⟨rfl, hB⟩

theorem own : ownKnob Try.prog.godebug = none := by kernel_rfl
theorem laidOut : laidOutB Try.prog = true := by kernel_rfl

set_option maxRecDepth 100000 in
theorem lifted (os : Os) (started : os.Started) (H : Type) (enc : TypeId × Value → H) :
    ReturnsInHanded {} Try.checked os 15 .any (Rows.fnOwnerOfSpec.pre6 enc Try.prog Try.f15 Rows.fnOwnerOfRow.domain false) (Rows.fnOwnerOfSpec.post enc Try.prog Try.f15 false true false false) := by
  refine returnsInHanded_of_change (C := Try.checked) own started (by kernel_rfl) Try.func15
    (ChangeSpec.witness6 (enc := enc) (C := Try.checked) false ⟨#[], #[.slice none 0 0], []⟩ 8 (by kernel_rfl) (by kernel_rfl) (by kernel_rfl) (by kernel_rfl)) ?_
  intro W base args ds gs before hval0 hW hcnd _
  have hval : ∀ (j : Nat) t v, Try.f15.params[j]? = some t → args[j]? = some v → Value.okWide Try.prog W .any base t v := hval0
  have hW' := hW
  obtain ⟨p, q, hA0, hV, rfl, hfz, hnd⟩ := hW
  have hA : DataW.TrodAll enc Try.prog W 0 (fun _ => true) true Try.f15.params.toList args.toList ds p := hA0
  rw [Try.params15] at hA hval
  obtain ⟨v0, d0, rfl, rfl, h0⟩ := trodAll_one hA
  obtain ⟨rfl, rfl⟩ := trodVars_none hV
  clear hA0 hval0
  simp only [List.append_nil] at hW'
  have hlt : ∀ x ∈ p, x.block < W.heap.size := fun x hx => hW'.lt x hx
  obtain ⟨q0, hq0⟩ := open_obytes (hval 0 22 v0 rfl rfl) h0
  refine (walk v0 q0 W hq0).mono fun e W' ⟨he, hb⟩ => ?_
  subst he
  exact ⟨_, rfl, post_of_below (pa := _) (pv := []) hW' (fun _ _ _ => (trodAll_cons_mk (shut_bool Try.underlying4 _) trodAll_mk0)) (fun sp hsp => (trodAll_cons_mk (WideElems.Trod_stays laidOut (by kernel_rfl) (of_decide_eq_true (by kernel_rfl)) h0 (fun x hx => hb.same (hlt x (hx))) (fun x hx => hsp x (hx))) trodAll_mk0)) (fun _ _ => rfl) (by simp)
    hb (ok_one (by kernel_rfl) rfl (okWide_bool_mk Try.underlying4 _))⟩

theorem closed : joinedFacts Try.pinned.checked.prog 15 Try.f15 Rows.fnOwnerOfSpec Rows.fnOwnerOfRow = true := by
  show joinedFacts Try.prog 15 Try.f15 Rows.fnOwnerOfSpec Rows.fnOwnerOfRow = true
  unfold joinedFacts
  rw [may_enter, lifts_not, make_cut]
  kernel_rfl

theorem over : Rows.fnOwnerOfRow.holds Try.pinned (OpenSpec.ofChange Rows.fnOwnerOfSpec) :=
  OpenClaim.holds_of_wide 15 Try.f15 rfl rfl rfl rfl rfl rfl rfl ⟨rfl, rfl, rfl, rfl, rfl⟩ rfl rfl rfl rfl rfl (by kernel_rfl) Try.func15 closed
    (of_decide_eq_true (by kernel_rfl)) (by unfold Func.isWrapper; first | (rw [if_pos (by decide +kernel)]; kernel_rfl) | (rw [if_neg (by decide +kernel)]; exact ⟨rfl, rfl⟩))
    (fun os started H enc _ => lifted os started H enc)

theorem proved : Rows.FnOwnerOfSaid := over
#print axioms proved
end Go.Proofs.Ytklikpcfmmpocaa.ownerOf
