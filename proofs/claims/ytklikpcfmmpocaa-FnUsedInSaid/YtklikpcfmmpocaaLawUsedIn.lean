/-
  The law FnUsedIn: for every input it answers true and leaves its argument as it was. No condition.
-/
import Derived.Test.YtklikpcfmmpocaaFrame
import Derived.Test.YtklikpcfmmpocaaFacts
import Derived.Test.YtklikpcfmmpocaaDwD
import Derived.Test.YtklikpcfmmpocaaImpl9
import Derived.Test.YtklikpcfmmpocaaImpl10
import Derived.Test.YtklikpcfmmpocaaDwM
namespace Go.Proofs.Ytklikpcfmmpocaa.usedIn
open Go.ChangeShapes Go.WideShapes Go.ChangeAt Go.RowKit
set_option linter.unusedVariables false

set_option maxRecDepth 100000 in
set_option maxHeartbeats 1000000 in
theorem walk (v : Value) (l : List Int) (w : World) (hv : OBytes w v l) :
    Calls Try.prog 17 #[v] w fun e w' => e = .returned (.bool true) ∧ Below w.heap.size w w' := by
  have HV := Lib.hid hv
  obtain ⟨⟨A, C, b', o, rfl, hn, hc, _, _⟩, _⟩ := hv
  unfold maxLen at hc
  by_cases hbig : 1048576 < l.length
  · go_enter Try.func17, Try.ntmps17
    go_wp2
    go_ret
    exact ⟨rfl, Below.refl _ _⟩
  have hl : l.length ≤ 1048576 := by omega
  go_enter Try.func17, Try.ntmps17
  go_wp2_with fail
  refine (S_DrawUsedIn _ l _ HV.out hl).mono ?_
  rintro e w1 ⟨sl, xs, p, b, rfl, hrow, hp, hB⟩
  clear HV hbig hl hc hn
  obtain ⟨ga, Cp, rfl, _, hCp, _, _, _, _⟩ := PRowX.rd hrow (by omega)
  unfold maxLen at hCp
  obtain ⟨PB, hPB⟩ : ∃ PB : Nat, PB = w1.heap.size := ⟨_, rfl⟩
  obtain ⟨W, hW⟩ : ∃ W : World, W = w1.alloc (.cells #[.slice (some ⟨ga, 0, none⟩) p.length Cp] 30) := ⟨_, rfl⟩
  have hB : Below w.heap.size w W := by rw [hW]; exact bal hB _
  have hP : Blks W w.heap.size (.slice (some ⟨ga, 0, none⟩) p.length Cp) p := by rw [hW]; exact (PRowX.blks hrow).keep al1
  have cP : W.cell? ⟨PB, 0, none⟩ = some (.slice (some ⟨ga, 0, none⟩) p.length Cp) := by rw [hW, hPB]; simp [go_sem]
  have HPB := Lib.hid hPB
  have HW := Lib.hid hW
  clear hPB hW hrow
  go_wp2_with fail
  rw [← HPB.out, ← HW.out]
  clear HPB HW
  refine (I_UsedIn _ p _ b _ ⟨_, rfl, hP⟩).mono ?_
  rintro e w2 ⟨u, rfl, hu, hb⟩
  replace cP := cell_later hb cP
  replace hP := hP.keep hb
  replace hB := bthen hB hb
  clear hb
  obtain ⟨uA, uC, rfl⟩ := hu.form
  go_wp2_with fail
  refine (S_UsedIn _ p _ b _ ⟨_, rfl, hP⟩).mono ?_
  rintro e w3 ⟨t, rfl, ht, hb⟩
  replace cP := cell_later hb cP
  replace hP := hP.keep hb
  replace hu := hu.keep hb
  replace hB := bthen hB hb
  clear hb
  cases hv : validP p
  · have HVP := Lib.hid hv
    clear hv
    go_wp2_with fail
    refine (L_equalInts _ _ _ _ _ _ _ hu ht).mono ?_
    rintro e w4 ⟨rfl, hb⟩
    rw [beq_self_eq_true]
    replace cP := cell_later hb cP
    replace hP := hP.keep hb
    replace hu := hu.keep hb
    replace ht := ht.keep hb
    replace hB := bthen hB hb
    clear hb
    go_wp2_with fail
    refine (I_ValidProgram _ p _ _ ⟨_, rfl, hP⟩).mono ?_
    rintro e w5 ⟨rfl, hb⟩
    rw [HVP.out]
    replace cP := cell_later hb cP
    replace hP := hP.keep hb
    replace hu := hu.keep hb
    replace ht := ht.keep hb
    replace hB := bthen hB hb
    clear hb
    go_wp2_with fail
    refine (S_UsedIn _ p _ b _ ⟨_, rfl, hP⟩).mono ?_
    rintro e w6 ⟨t2, rfl, ht2, hb⟩
    replace cP := cell_later hb cP
    replace hP := hP.keep hb
    replace hu := hu.keep hb
    replace ht := ht.keep hb
    replace hB := bthen hB hb
    clear hb
    go_wp2_with fail
    refine (L_equalInts _ _ _ _ _ _ _ hu ht2).mono ?_
    rintro e w7 ⟨rfl, hb⟩
    rw [beq_self_eq_true]
    replace cP := cell_later hb cP
    replace hP := hP.keep hb
    replace hu := hu.keep hb
    replace ht := ht.keep hb
    replace ht2 := ht2.keep hb
    replace hB := bthen hB hb
    clear hb
    go_wp2
    go_ret
    exact ⟨rfl, hB⟩
  have HVP := Lib.hid hv
  clear hv
  by_cases hq0 : b < 0
  · skip
    go_wp2_with fail
    refine (L_equalInts _ _ _ _ _ _ _ hu ht).mono ?_
    rintro e w8 ⟨rfl, hb⟩
    rw [beq_self_eq_true]
    replace cP := cell_later hb cP
    replace hP := hP.keep hb
    replace hu := hu.keep hb
    replace ht := ht.keep hb
    replace hB := bthen hB hb
    clear hb
    go_wp2_with fail
    refine (I_ValidProgram _ p _ _ ⟨_, rfl, hP⟩).mono ?_
    rintro e w9 ⟨rfl, hb⟩
    rw [HVP.out]
    replace cP := cell_later hb cP
    replace hP := hP.keep hb
    replace hu := hu.keep hb
    replace ht := ht.keep hb
    replace hB := bthen hB hb
    clear hb
    go_wp2_with fail
    refine (S_UsedIn _ p _ b _ ⟨_, rfl, hP⟩).mono ?_
    rintro e w10 ⟨t2, rfl, ht2, hb⟩
    replace cP := cell_later hb cP
    replace hP := hP.keep hb
    replace hu := hu.keep hb
    replace ht := ht.keep hb
    replace hB := bthen hB hb
    clear hb
    go_wp2_with fail
    refine (L_equalInts _ _ _ _ _ _ _ hu ht2).mono ?_
    rintro e w11 ⟨rfl, hb⟩
    rw [beq_self_eq_true]
    replace cP := cell_later hb cP
    replace hP := hP.keep hb
    replace hu := hu.keep hb
    replace ht := ht.keep hb
    replace ht2 := ht2.keep hb
    replace hB := bthen hB hb
    clear hb
    go_wp2
    go_ret
    exact ⟨rfl, hB⟩
  by_cases hq1 : b ≥ (p.length : Int)
  · skip
    go_wp2_with fail
    refine (L_equalInts _ _ _ _ _ _ _ hu ht).mono ?_
    rintro e w12 ⟨rfl, hb⟩
    rw [beq_self_eq_true]
    replace cP := cell_later hb cP
    replace hP := hP.keep hb
    replace hu := hu.keep hb
    replace ht := ht.keep hb
    replace hB := bthen hB hb
    clear hb
    go_wp2_with fail
    refine (I_ValidProgram _ p _ _ ⟨_, rfl, hP⟩).mono ?_
    rintro e w13 ⟨rfl, hb⟩
    rw [HVP.out]
    replace cP := cell_later hb cP
    replace hP := hP.keep hb
    replace hu := hu.keep hb
    replace ht := ht.keep hb
    replace hB := bthen hB hb
    clear hb
    go_wp2_with fail
    refine (S_UsedIn _ p _ b _ ⟨_, rfl, hP⟩).mono ?_
    rintro e w14 ⟨t2, rfl, ht2, hb⟩
    replace cP := cell_later hb cP
    replace hP := hP.keep hb
    replace hu := hu.keep hb
    replace ht := ht.keep hb
    replace hB := bthen hB hb
    clear hb
    go_wp2_with fail
    refine (L_equalInts _ _ _ _ _ _ _ hu ht2).mono ?_
    rintro e w15 ⟨rfl, hb⟩
    rw [beq_self_eq_true]
    replace cP := cell_later hb cP
    replace hP := hP.keep hb
    replace hu := hu.keep hb
    replace ht := ht.keep hb
    replace ht2 := ht2.keep hb
    replace hB := bthen hB hb
    clear hb
    go_wp2
    go_ret
    exact ⟨rfl, hB⟩
  have hq2 : ¬ (p.length : Int) ≤ b := hq1
  have hb0 : 0 ≤ b := by omega
  have hb1 : b < p.length := by omega
  go_wp2_with fail
  refine (L_equalInts _ _ _ _ _ _ _ hu ht).mono ?_
  rintro e w16 ⟨rfl, hb⟩
  rw [beq_self_eq_true]
  replace cP := cell_later hb cP
  replace hP := hP.keep hb
  replace hu := hu.keep hb
  replace ht := ht.keep hb
  replace hB := bthen hB hb
  clear hb
  go_wp2_with fail
  refine (I_ValidProgram _ p _ _ ⟨_, rfl, hP⟩).mono ?_
  rintro e w17 ⟨rfl, hb⟩
  rw [HVP.out]
  replace cP := cell_later hb cP
  replace hP := hP.keep hb
  replace hu := hu.keep hb
  replace ht := ht.keep hb
  replace hB := bthen hB hb
  clear hb
  have hvb := validB_iff.2 ⟨HVP.out, hb0, hb1⟩
  have hlaw := used_law hvb
  have HLAW := Lib.hid hlaw
  clear hlaw hvb
  have l1 := rRead_len p b
  have l2 := rBound_len p b
  have l3 := rDecl_len p b 9
  have l4 := rDecl_len p b 10
  have rRead8 : (rRead p b).length ≤ 8 := by unfold rRead; split; exact nms_len _; exact Nat.zero_le _
  have rBound8 : (rBound p b).length ≤ 8 := by unfold rBound; split; exact nms_len _; exact Nat.zero_le _
  have rDecl89 : (rDecl p b 9).length ≤ 8 := by unfold rDecl; split; exact nms_len _; exact Nat.zero_le _
  have rDecl810 : (rDecl p b 10).length ≤ 8 := by unfold rDecl; split; exact nms_len _; exact Nat.zero_le _
  clear l1 l2 l3 l4
  go_wp2
  have hb := (below0 w17).drew
  replace cP := cell_later hb cP
  replace hP := hP.keep hb
  replace hu := hu.keep hb
  replace ht := ht.keep hb
  replace hB := bthen hB hb
  clear hb
  have hcur := below0 (w17).drew
  go_region_held3 (fun w' => w'.cell? ⟨PB, 0, none⟩ = some (.slice (some ⟨ga, 0, none⟩) p.length Cp))
    (first | go_keep | exact cell_later hcur cP)
    (first
      | (go_at_call 64
         refine (I_ReadIn _ p _ b _ ⟨_, rfl, hP.keep hcur⟩).mono ?_
         rintro e w18 ⟨ya, rfl, hya, hb⟩
         have hcur := bthen hcur hb
         clear hb)
      | (go_at_call 51
         refine (I_BoundIn _ p _ b _ ⟨_, rfl, hP.keep hcur⟩).mono ?_
         rintro e w19 ⟨yb, rfl, hyb, hb⟩
         have hya := hya.keep hb
         have hcur := bthen hcur hb
         clear hb)
      | (go_at_call 85
         refine (L_join ya yb _ _ _ _ _ hya hyb (by omega)).mono ?_
         rintro e w20 ⟨yj, rfl, hyj, hb⟩
         have hcur := bthen hcur hb
         clear hb)
    )
  have hb := hcur
  clear hcur
  replace cP := cell_later hb cP
  replace hP := hP.keep hb
  replace hu := hu.keep hb
  replace ht := ht.keep hb
  replace hB := bthen hB hb
  clear hb
  go_wp2
  have hb := (below0 w20).drew
  replace cP := cell_later hb cP
  replace hP := hP.keep hb
  replace hu := hu.keep hb
  replace ht := ht.keep hb
  replace hyj := hyj.keep hb
  replace hB := bthen hB hb
  clear hb
  have hcur := below0 (w20).drew
  go_region_held3 (fun w' => w'.cell? ⟨PB, 0, none⟩ = some (.slice (some ⟨ga, 0, none⟩) p.length Cp))
    (first | go_keep | exact cell_later hcur cP)
    (first
      | (go_at_call 85
         refine (L_join _ zk _ _ _ _ _ (hyj.keep hcur) hzk (by simp only [List.length_append]; omega)).mono ?_
         rintro e w21 ⟨zl, rfl, hzl, hb⟩
         have hcur := bthen hcur hb
         clear hb)
      | (go_at_call 85
         refine (L_join za zb _ _ _ _ _ hza hzb (by omega)).mono ?_
         rintro e w22 ⟨zk, rfl, hzk, hb⟩
         have hcur := bthen hcur hb
         clear hb)
      | (go_at_call_of 48 (Value.int .i64 10)
         refine (I_DeclaredIn _ p _ b 10 _ ⟨_, rfl, hP.keep hcur⟩).mono ?_
         rintro e w23 ⟨zb, rfl, hzb, hb⟩
         have hza := hza.keep hb
         have hcur := bthen hcur hb
         clear hb)
      | (go_at_call_of 48 (Value.int .i64 9)
         refine (I_DeclaredIn _ p _ b 9 _ ⟨_, rfl, hP.keep hcur⟩).mono ?_
         rintro e w24 ⟨za, rfl, hza, hb⟩
         have hcur := bthen hcur hb
         clear hb)
    )
  have hb := hcur
  clear hcur
  replace cP := cell_later hb cP
  replace hP := hP.keep hb
  replace hu := hu.keep hb
  replace ht := ht.keep hb
  replace hyj := hyj.keep hb
  replace hB := bthen hB hb
  clear hb
  go_wp2_with fail
  refine (L_ascends _ _ _ _ hu (rUsed_asc p b)).mono ?_
  rintro e w25 ⟨rfl, hb⟩
  replace cP := cell_later hb cP
  replace hP := hP.keep hb
  replace hu := hu.keep hb
  replace ht := ht.keep hb
  replace hyj := hyj.keep hb
  replace hzl := hzl.keep hb
  replace hB := bthen hB hb
  clear hb
  go_wp2_with fail
  refine (L_within _ _ _ _ _ _ _ hzl hu (fun x hx => (HLAW.out x).2 hx)).mono ?_
  rintro e w' ⟨rfl, rfl⟩
  go_wp2_with fail
  refine (L_within _ _ _ _ _ _ _ hu hzl (fun x hx => (HLAW.out x).1 hx)).mono ?_
  rintro e w' ⟨rfl, rfl⟩
  go_wp2
  go_ret
  exact ⟨rfl, hB⟩

theorem own : ownKnob Try.prog.godebug = none := by kernel_rfl
theorem laidOut : laidOutB Try.prog = true := by kernel_rfl

set_option maxRecDepth 100000 in
theorem lifted (os : Os) (started : os.Started) (H : Type) (enc : TypeId × Value → H) :
    ReturnsInHanded {} Try.checked os 17 .any (Rows.fnUsedInSpec.pre6 enc Try.prog Try.f17 Rows.fnUsedInRow.domain false) (Rows.fnUsedInSpec.post enc Try.prog Try.f17 false true false false) := by
  refine returnsInHanded_of_change (C := Try.checked) own started (by kernel_rfl) Try.func17
    (ChangeSpec.witness6 (enc := enc) (C := Try.checked) false ⟨#[], #[.slice none 0 0], []⟩ 8 (by kernel_rfl) (by kernel_rfl) (by kernel_rfl) (by kernel_rfl)) ?_
  intro W base args ds gs before hval0 hW hcnd _
  have hval : ∀ (j : Nat) t v, Try.f17.params[j]? = some t → args[j]? = some v → Value.okWide Try.prog W .any base t v := hval0
  have hW' := hW
  obtain ⟨p, q, hA0, hV, rfl, hfz, hnd⟩ := hW
  have hA : DataW.TrodAll enc Try.prog W 0 (fun _ => true) true Try.f17.params.toList args.toList ds p := hA0
  rw [Try.params17] at hA hval
  obtain ⟨v0, d0, rfl, rfl, h0⟩ := trodAll_one hA
  obtain ⟨rfl, rfl⟩ := trodVars_none hV
  clear hA0 hval0
  simp only [List.append_nil] at hW'
  have hlt : ∀ x ∈ p, x.block < W.heap.size := fun x hx => hW'.lt x hx
  obtain ⟨q0, hq0⟩ := open_obytes (hval 0 22 v0 rfl rfl) h0
  refine (walk v0 q0 W hq0).mono fun e W' ⟨he, hb⟩ => ?_
  subst he
  exact ⟨_, rfl, post_of_below (pa := _) (pv := []) hW' (fun _ _ _ => (trodAll_cons_mk (shut_bool Try.underlying4 _) trodAll_mk0)) (fun sp hsp => (trodAll_cons_mk (WideElems.Trod_stays laidOut (by kernel_rfl) (of_decide_eq_true (by kernel_rfl)) h0 (fun x hx => hb.same (hlt x (hx))) (fun x hx => hsp x (hx))) trodAll_mk0)) (fun _ _ => rfl) (by simp)
    hb (ok_one (by kernel_rfl) rfl (okWide_bool_mk Try.underlying4 _))⟩

theorem closed : joinedFacts Try.pinned.checked.prog 17 Try.f17 Rows.fnUsedInSpec Rows.fnUsedInRow = true := by
  show joinedFacts Try.prog 17 Try.f17 Rows.fnUsedInSpec Rows.fnUsedInRow = true
  unfold joinedFacts
  rw [may_enter, lifts_not, make_cut]
  kernel_rfl

theorem over : Rows.fnUsedInRow.holds Try.pinned (OpenSpec.ofChange Rows.fnUsedInSpec) :=
  OpenClaim.holds_of_wide 17 Try.f17 rfl rfl rfl rfl rfl rfl rfl ⟨rfl, rfl, rfl, rfl, rfl⟩ rfl rfl rfl rfl rfl (by kernel_rfl) Try.func17 closed
    (of_decide_eq_true (by kernel_rfl)) (by unfold Func.isWrapper; first | (rw [if_pos (by decide +kernel)]; kernel_rfl) | (rw [if_neg (by decide +kernel)]; exact ⟨rfl, rfl⟩))
    (fun os started H enc _ => lifted os started H enc)

theorem proved : Rows.FnUsedInSaid := over
#print axioms proved
end Go.Proofs.Ytklikpcfmmpocaa.usedIn
