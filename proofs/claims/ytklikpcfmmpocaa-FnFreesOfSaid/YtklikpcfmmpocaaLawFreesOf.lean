/-
  The law FnFreesOf: for every input it answers true and leaves its argument as it was. No condition.
-/
import Derived.Test.YtklikpcfmmpocaaFrame
import Derived.Test.YtklikpcfmmpocaaFacts
import Derived.Test.YtklikpcfmmpocaaDwD
import Derived.Test.YtklikpcfmmpocaaImpl13
import Derived.Test.YtklikpcfmmpocaaImpl12
import Derived.Test.YtklikpcfmmpocaaDwM
namespace Go.Proofs.Ytklikpcfmmpocaa.freesOf
open Go.ChangeShapes Go.WideShapes Go.ChangeAt Go.RowKit
set_option linter.unusedVariables false

set_option maxRecDepth 100000 in
set_option maxHeartbeats 1000000 in
theorem walk (v : Value) (l : List Int) (w : World) (hv : OBytes w v l) :
    Calls Try.prog 26 #[v] w fun e w' => e = .returned (.bool true) ∧ Below w.heap.size w w' := by
  have HV := Lib.hid hv
  obtain ⟨⟨A, C, b', o, rfl, hn, hc, _, _⟩, _⟩ := hv
  unfold maxLen at hc
  by_cases hbig : 1048576 < l.length
  · go_enter Try.func26, Try.ntmps26
    go_wp2
    go_ret
    exact ⟨rfl, Below.refl _ _⟩
  have hl : l.length ≤ 1048576 := by omega
  go_enter Try.func26, Try.ntmps26
  go_wp2_with fail
  refine (S_DrawFreesOf _ l _ HV.out hl).mono ?_
  rintro e w1 ⟨sl, xs, p, b, rfl, hrow, hp, hB⟩
  clear HV hbig hl hc hn
  obtain ⟨ga, Cp, rfl, _, hCp, _, _, _, _⟩ := PRowX.rd hrow (by omega)
  unfold maxLen at hCp
  obtain ⟨PB, hPB⟩ : ∃ PB : Nat, PB = w1.heap.size := ⟨_, rfl⟩
  obtain ⟨W, hW⟩ : ∃ W : World, W = w1.alloc (.cells #[.slice (some ⟨ga, 0, none⟩) p.length Cp] 30) := ⟨_, rfl⟩
  have hB : Below w.heap.size w W := by rw [hW]; exact bal hB _
  have hP : Blks W w.heap.size (.slice (some ⟨ga, 0, none⟩) p.length Cp) p := by rw [hW]; exact (PRowX.blks hrow).keep al1
  have cP : W.cell? ⟨PB, 0, none⟩ = some (.slice (some ⟨ga, 0, none⟩) p.length Cp) := by rw [hW, hPB]; simp [go_sem]
  have HPB := Lib.hid hPB
  have HW := Lib.hid hW
  clear hPB hW hrow
  go_wp2_with fail
  rw [← HPB.out, ← HW.out]
  clear HPB HW
  refine (I_FreesOf _ p _ b _ ⟨_, rfl, hP⟩).mono ?_
  rintro e w2 ⟨u, rfl, hu, hb⟩
  replace cP := cell_later hb cP
  replace hP := hP.keep hb
  replace hB := bthen hB hb
  clear hb
  obtain ⟨uA, uC, rfl⟩ := hu.form
  go_wp2_with fail
  refine (S_FreesOf _ p _ b _ ⟨_, rfl, hP⟩).mono ?_
  rintro e w3 ⟨t, rfl, ht, hb⟩
  replace cP := cell_later hb cP
  replace hP := hP.keep hb
  replace hu := hu.keep hb
  replace hB := bthen hB hb
  clear hb
  by_cases h0 : (rFrees p b).length = 0
  · skip
    have hz : (((rFrees p b).length : Int) == 0) = true := by rw [h0]; rfl
    clear h0
    go_wp2_with fail
    refine (L_equalInts _ _ _ _ _ _ _ hu ht).mono ?_
    rintro e w4 ⟨rfl, hb⟩
    rw [beq_self_eq_true]
    replace cP := cell_later hb cP
    replace hP := hP.keep hb
    replace hu := hu.keep hb
    replace ht := ht.keep hb
    replace hB := bthen hB hb
    clear hb
    go_wp2_with fail
    refine (S_FreesOf _ p _ b _ ⟨_, rfl, hP⟩).mono ?_
    rintro e w5 ⟨t2, rfl, ht2, hb⟩
    replace cP := cell_later hb cP
    replace hP := hP.keep hb
    replace hu := hu.keep hb
    replace ht := ht.keep hb
    replace hB := bthen hB hb
    clear hb
    go_wp2_with fail
    refine (L_equalInts _ _ _ _ _ _ _ hu ht2).mono ?_
    rintro e w6 ⟨rfl, hb⟩
    rw [beq_self_eq_true]
    replace cP := cell_later hb cP
    replace hP := hP.keep hb
    replace hu := hu.keep hb
    replace ht := ht.keep hb
    replace ht2 := ht2.keep hb
    replace hB := bthen hB hb
    clear hb
    go_wp2
    go_ret
    exact ⟨rfl, hB⟩
  have hz : (((rFrees p b).length : Int) == 0) = false := by rw [beq_eq_false_iff_ne]; omega
  have hne : rFrees p b ≠ [] := fun h => h0 (by rw [h]; rfl)
  go_wp2_with fail
  refine (L_equalInts _ _ _ _ _ _ _ hu ht).mono ?_
  rintro e w7 ⟨rfl, hb⟩
  rw [beq_self_eq_true]
  replace cP := cell_later hb cP
  replace hP := hP.keep hb
  replace hu := hu.keep hb
  replace ht := ht.keep hb
  replace hB := bthen hB hb
  clear hb
  obtain ⟨hb2, hb1, up0, up1, hall⟩ := frees_law hne
  have hb0 : 0 ≤ b := by omega
  have HALL := Lib.hid hall
  clear hall hne
  obtain ⟨kb, rfl⟩ := Int.eq_ofNat_of_zero_le hb0
  have ebk : p.bk (kb : Int) = p.getD kb default := by show p.getD (kb : Int).toNat default = _; rw [Int.toNat_natCast]
  obtain ⟨A', C', g', e', _, _, hA', _, hcell, _⟩ := hP.rd
  obtain rfl := hA' (by omega)
  obtain ⟨rfl, rfl⟩ : ga = g' ∧ Cp = C' := by simpa using e'
  obtain ⟨pv, bv, d0, d1, d2, d3, hpv, hbv⟩ := hcell kb (by omega)
  rw [← ebk] at d0 d1 hpv hbv
  clear hcell e' hA' ebk
  have hz0 := frees_zero p
  generalize (p.bk (kb : Int)).parent = up at *
  have rCells8 : (rCells p up).length ≤ 8 := by unfold rCells; split; exact nms_len _; exact Nat.zero_le _
  have rFrees8 : (rFrees p up).length ≤ 8 := by unfold rFrees; split; exact nms_len _; exact Nat.zero_le _
  go_wp2
  go_wp2
  have hb := (below0 w7).drew
  replace cP := cell_later hb cP
  replace d0 := cell_later hb d0
  replace d1 := cell_later hb d1
  replace d2 := cell_later hb d2
  replace d3 := cell_later hb d3
  replace hP := hP.keep hb
  replace hu := hu.keep hb
  replace ht := ht.keep hb
  replace hpv := hpv.keep hb
  replace hbv := hbv.keep hb
  replace hB := bthen hB hb
  clear hb
  have hcur := below0 (w7).drew
  go_region_held3 (fun w' => w'.cell? ⟨PB, 0, none⟩ = some (.slice (some ⟨ga, 0, none⟩) p.length Cp))
    (first | go_keep | exact cell_later hcur cP)
    (first
      | (go_at_call 95
         refine (I_CellsOf _ p _ up _ ⟨_, rfl, hP.keep hcur⟩).mono ?_
         rintro e w8 ⟨ya, rfl, hya, hb⟩
         have hcur := bthen hcur hb
         clear hb)
      | (go_at_call 108
         refine (I_FreesOf _ p _ up _ ⟨_, rfl, hP.keep hcur⟩).mono ?_
         rintro e w9 ⟨yb, rfl, hyb, hb⟩
         have hya := hya.keep hb
         have hcur := bthen hcur hb
         clear hb)
      | (go_at_call 85
         refine (L_join ya yb _ _ _ _ _ hya hyb (by omega)).mono ?_
         rintro e w10 ⟨yj, rfl, hyj, hb⟩
         have hcur := bthen hcur hb
         clear hb)
    )
  have hb := hcur
  clear hcur
  replace cP := cell_later hb cP
  replace d0 := cell_later hb d0
  replace d1 := cell_later hb d1
  replace d2 := cell_later hb d2
  replace d3 := cell_later hb d3
  replace hP := hP.keep hb
  replace hu := hu.keep hb
  replace ht := ht.keep hb
  replace hpv := hpv.keep hb
  replace hbv := hbv.keep hb
  replace hB := bthen hB hb
  clear hb
  go_wp2_with fail
  refine (L_within _ _ _ _ _ _ _ hu hyj HALL.out).mono ?_
  rintro e w' ⟨rfl, rfl⟩
  go_wp2_with fail
  refine (L_ascends _ _ _ _ hu (rFrees_asc p kb)).mono ?_
  rintro e w11 ⟨rfl, hb⟩
  replace cP := cell_later hb cP
  replace d0 := cell_later hb d0
  replace d1 := cell_later hb d1
  replace d2 := cell_later hb d2
  replace d3 := cell_later hb d3
  replace hP := hP.keep hb
  replace hu := hu.keep hb
  replace ht := ht.keep hb
  replace hpv := hpv.keep hb
  replace hbv := hbv.keep hb
  replace hyj := hyj.keep hb
  replace hB := bthen hB hb
  clear hb
  have hq : (kb : Int) > 0 := hb2
  go_wp2_with fail
  refine (I_FreesOf _ p _ 0 _ ⟨_, rfl, hP⟩).mono ?_
  rintro e w12 ⟨z, rfl, hz, hb⟩
  rw [hz0] at hz
  obtain ⟨zA, zC, rfl⟩ := hz.form
  replace cP := cell_later hb cP
  replace d0 := cell_later hb d0
  replace d1 := cell_later hb d1
  replace d2 := cell_later hb d2
  replace d3 := cell_later hb d3
  replace hP := hP.keep hb
  replace hu := hu.keep hb
  replace ht := ht.keep hb
  replace hpv := hpv.keep hb
  replace hbv := hbv.keep hb
  replace hyj := hyj.keep hb
  replace hB := bthen hB hb
  clear hb
  go_wp2
  go_ret
  exact ⟨rfl, hB⟩

theorem own : ownKnob Try.prog.godebug = none := by kernel_rfl
theorem laidOut : laidOutB Try.prog = true := by kernel_rfl

set_option maxRecDepth 100000 in
theorem lifted (os : Os) (started : os.Started) (H : Type) (enc : TypeId × Value → H) :
    ReturnsInHanded {} Try.checked os 26 .any (Rows.fnFreesOfSpec.pre6 enc Try.prog Try.f26 Rows.fnFreesOfRow.domain false) (Rows.fnFreesOfSpec.post enc Try.prog Try.f26 false true false false) := by
  refine returnsInHanded_of_change (C := Try.checked) own started (by kernel_rfl) Try.func26
    (ChangeSpec.witness6 (enc := enc) (C := Try.checked) false ⟨#[], #[.slice none 0 0], []⟩ 8 (by kernel_rfl) (by kernel_rfl) (by kernel_rfl) (by kernel_rfl)) ?_
  intro W base args ds gs before hval0 hW hcnd _
  have hval : ∀ (j : Nat) t v, Try.f26.params[j]? = some t → args[j]? = some v → Value.okWide Try.prog W .any base t v := hval0
  have hW' := hW
  obtain ⟨p, q, hA0, hV, rfl, hfz, hnd⟩ := hW
  have hA : DataW.TrodAll enc Try.prog W 0 (fun _ => true) true Try.f26.params.toList args.toList ds p := hA0
  rw [Try.params26] at hA hval
  obtain ⟨v0, d0, rfl, rfl, h0⟩ := trodAll_one hA
  obtain ⟨rfl, rfl⟩ := trodVars_none hV
  clear hA0 hval0
  simp only [List.append_nil] at hW'
  have hlt : ∀ x ∈ p, x.block < W.heap.size := fun x hx => hW'.lt x hx
  obtain ⟨q0, hq0⟩ := open_obytes (hval 0 22 v0 rfl rfl) h0
  refine (walk v0 q0 W hq0).mono fun e W' ⟨he, hb⟩ => ?_
  subst he
  exact ⟨_, rfl, post_of_below (pa := _) (pv := []) hW' (fun _ _ _ => (trodAll_cons_mk (shut_bool Try.underlying4 _) trodAll_mk0)) (fun sp hsp => (trodAll_cons_mk (WideElems.Trod_stays laidOut (by kernel_rfl) (of_decide_eq_true (by kernel_rfl)) h0 (fun x hx => hb.same (hlt x (hx))) (fun x hx => hsp x (hx))) trodAll_mk0)) (fun _ _ => rfl) (by simp)
    hb (ok_one (by kernel_rfl) rfl (okWide_bool_mk Try.underlying4 _))⟩

theorem closed : joinedFacts Try.pinned.checked.prog 26 Try.f26 Rows.fnFreesOfSpec Rows.fnFreesOfRow = true := by
  show joinedFacts Try.prog 26 Try.f26 Rows.fnFreesOfSpec Rows.fnFreesOfRow = true
  unfold joinedFacts
  rw [may_enter, lifts_not, make_cut]
  kernel_rfl

theorem over : Rows.fnFreesOfRow.holds Try.pinned (OpenSpec.ofChange Rows.fnFreesOfSpec) :=
  OpenClaim.holds_of_wide 26 Try.f26 rfl rfl rfl rfl rfl rfl rfl ⟨rfl, rfl, rfl, rfl, rfl⟩ rfl rfl rfl rfl rfl (by kernel_rfl) Try.func26 closed
    (of_decide_eq_true (by kernel_rfl)) (by unfold Func.isWrapper; first | (rw [if_pos (by decide +kernel)]; kernel_rfl) | (rw [if_neg (by decide +kernel)]; exact ⟨rfl, rfl⟩))
    (fun os started H enc _ => lifted os started H enc)

theorem proved : Rows.FnFreesOfSaid := over
#print axioms proved
end Go.Proofs.Ytklikpcfmmpocaa.freesOf
