/-
  The law FnTouchedBy: for every input it answers true and leaves its argument as it was. No condition.
-/
import Derived.Test.YtklikpcfmmpocaaFrame
import Derived.Test.YtklikpcfmmpocaaFacts
import Derived.Test.YtklikpcfmmpocaaDwA
import Derived.Test.YtklikpcfmmpocaaDwD
import Derived.Test.YtklikpcfmmpocaaImpl10
import Derived.Test.YtklikpcfmmpocaaImpl12
import Derived.Test.YtklikpcfmmpocaaImpl4
import Derived.Test.YtklikpcfmmpocaaImpl9
import Derived.Test.YtklikpcfmmpocaaDwM
namespace Go.Proofs.Ytklikpcfmmpocaa.touchedBy
open Go.ChangeShapes Go.WideShapes Go.ChangeAt Go.RowKit
set_option linter.unusedVariables false

set_option maxRecDepth 100000 in
set_option maxHeartbeats 1000000 in
theorem walk (v : Value) (l : List Int) (w : World) (hv : OBytes w v l) :
    Calls Try.prog 28 #[v] w fun e w' => e = .returned (.bool true) ∧ Below w.heap.size w w' := by
  have HV := Lib.hid hv
  obtain ⟨⟨A, C, b', o, rfl, hn, hc, _, _⟩, _⟩ := hv
  unfold maxLen at hc
  by_cases hbig : 1048576 < l.length
  · go_enter Try.func28, Try.ntmps28
    go_wp2
    go_ret
    exact ⟨rfl, Below.refl _ _⟩
  have hl : l.length ≤ 1048576 := by omega
  go_enter Try.func28, Try.ntmps28
  go_wp2_with fail
  refine (S_DrawTouchedBy _ l _ HV.out hl).mono ?_
  rintro e w1 ⟨sl, xs, p, b, x, rfl, hrow, hp, hB⟩
  clear HV hbig hl hc hn
  obtain ⟨ga, Cp, rfl, _, hCp, _, _, _, _⟩ := PRowX.rd hrow (by omega)
  unfold maxLen at hCp
  obtain ⟨PB, hPB⟩ : ∃ PB : Nat, PB = w1.heap.size := ⟨_, rfl⟩
  obtain ⟨W, hW⟩ : ∃ W : World, W = w1.alloc (.cells #[.slice (some ⟨ga, 0, none⟩) p.length Cp] 30) := ⟨_, rfl⟩
  have hB : Below w.heap.size w W := by rw [hW]; exact bal hB _
  have hP : Blks W w.heap.size (.slice (some ⟨ga, 0, none⟩) p.length Cp) p := by rw [hW]; exact (PRowX.blks hrow).keep al1
  have cP : W.cell? ⟨PB, 0, none⟩ = some (.slice (some ⟨ga, 0, none⟩) p.length Cp) := by rw [hW, hPB]; simp [go_sem]
  have HPB := Lib.hid hPB
  have HW := Lib.hid hW
  clear hPB hW hrow
  go_wp2_with fail
  rw [← HPB.out, ← HW.out]
  clear HPB HW
  refine (I_TouchedBy _ p _ b x _ ⟨_, rfl, hP⟩).mono ?_
  rintro e w2 ⟨u, rfl, hu, hb⟩
  replace cP := cell_later hb cP
  replace hP := hP.keep hb
  replace hB := bthen hB hb
  clear hb
  obtain ⟨uA, uC, rfl⟩ := hu.form
  go_wp2_with fail
  refine (S_TouchedBy _ p _ b x _ ⟨_, rfl, hP⟩).mono ?_
  rintro e w3 ⟨t, rfl, ht, hb⟩
  replace cP := cell_later hb cP
  replace hP := hP.keep hb
  replace hu := hu.keep hb
  replace hB := bthen hB hb
  clear hb
  by_cases h0 : (rTouch p b x).length = 0
  · skip
    have hz : (((rTouch p b x).length : Int) == 0) = true := by rw [h0]; rfl
    clear h0
    go_wp2_with fail
    refine (L_equalInts _ _ _ _ _ _ _ hu ht).mono ?_
    rintro e w4 ⟨rfl, hb⟩
    rw [beq_self_eq_true]
    replace cP := cell_later hb cP
    replace hP := hP.keep hb
    replace hu := hu.keep hb
    replace ht := ht.keep hb
    replace hB := bthen hB hb
    clear hb
    go_wp2_with fail
    refine (S_TouchedBy _ p _ b x _ ⟨_, rfl, hP⟩).mono ?_
    rintro e w5 ⟨t2, rfl, ht2, hb⟩
    replace cP := cell_later hb cP
    replace hP := hP.keep hb
    replace hu := hu.keep hb
    replace ht := ht.keep hb
    replace hB := bthen hB hb
    clear hb
    go_wp2_with fail
    refine (L_equalInts _ _ _ _ _ _ _ hu ht2).mono ?_
    rintro e w6 ⟨rfl, hb⟩
    rw [beq_self_eq_true]
    replace cP := cell_later hb cP
    replace hP := hP.keep hb
    replace hu := hu.keep hb
    replace ht := ht.keep hb
    replace ht2 := ht2.keep hb
    replace hB := bthen hB hb
    clear hb
    go_wp2
    go_ret
    exact ⟨rfl, hB⟩
  have hz : (((rTouch p b x).length : Int) == 0) = false := by rw [beq_eq_false_iff_ne]; omega
  have hne : rTouch p b x ≠ [] := fun h => h0 (by rw [h]; rfl)
  go_wp2_with fail
  refine (L_equalInts _ _ _ _ _ _ _ hu ht).mono ?_
  rintro e w7 ⟨rfl, hb⟩
  rw [beq_self_eq_true]
  replace cP := cell_later hb cP
  replace hP := hP.keep hb
  replace hu := hu.keep hb
  replace ht := ht.keep hb
  replace hB := bthen hB hb
  clear hb
  obtain ⟨⟨hb2, hb1⟩, hall, hbm, hgt⟩ := touch_law hne
  have hb0 : 0 ≤ b := by omega
  have HALL := Lib.hid hall
  have HGT := Lib.hid hgt
  have HBM := Lib.hid hbm
  have HASC := Lib.hid (rTouch_asc p b x)
  clear hall hne hgt hbm
  have hlen := rTouch_len p b x
  obtain ⟨kb, rfl⟩ := Int.eq_ofNat_of_zero_le hb0
  have ebk : p.bk (kb : Int) = p.getD kb default := by show p.getD (kb : Int).toNat default = _; rw [Int.toNat_natCast]
  obtain ⟨A', C', g', e', _, _, hA', _, hcell, _⟩ := hP.rd
  obtain rfl := hA' (by omega)
  obtain ⟨rfl, rfl⟩ : ga = g' ∧ Cp = C' := by simpa using e'
  obtain ⟨pv, bv, d0, d1, d2, d3, hpv, hbv⟩ := hcell kb (by omega)
  rw [← ebk] at d0 d1 hpv hbv
  clear hcell e' hA' ebk
  obtain ⟨uA', uC', ug, ue, _, uc, uh, ul, ucell, _⟩ := hu.rd
  simp only [Value.slice.injEq] at ue
  obtain ⟨rfl, _, rfl⟩ := ue
  unfold maxLen at uc
  have Huc := Lib.hid ucell
  clear ucell
  go_wp2
  go_loopw [7] (fun i wi => ∃ k : Nat, k ≤ (rTouch p kb x).length ∧ i = .int .i64 k ∧ Below w7.heap.size w7 wi) (fun i _ => (rTouch p kb x).length - (intOf i).toNat)
  case atStart => exact ⟨0, Nat.zero_le _, rfl, below0 _⟩
  case round =>
    obtain ⟨k, hk, rfl, hb⟩ := hrel
    have hBik := hb
    replace cP := cell_later hb cP
    replace d0 := cell_later hb d0
    replace d1 := cell_later hb d1
    replace d2 := cell_later hb d2
    replace d3 := cell_later hb d3
    replace hP := hP.keep hb
    replace hu := hu.keep hb
    replace ht := ht.keep hb
    replace hpv := hpv.keep hb
    replace hbv := hbv.keep hb
    replace hB := bthen hB hb
    clear hb
    by_cases hltk : k < (rTouch p kb x).length
    · skip
      have c1 := cell_later hBik (Huc.out k hltk)
      obtain rfl := uh (by omega)
      have hmm : (rTouch p kb x).getD k 0 ∈ rTouch p kb x := by rw [show (rTouch p kb x).getD k 0 = (rTouch p kb x)[k] by simp [List.getD, hltk]]; exact List.getElem_mem _
      generalize hEQK : (rTouch p kb x).getD k 0 = K at *
      have HK := Lib.hid hmm
      have HEQK := Lib.hid hEQK
      have hkk0 : (0 : Int) ≤ (k : Int) := by omega
      have hkk1 : (k : Int) < ((rTouch p kb x).length : Int) := by omega
      clear hmm hEQK
      obtain ⟨e1, e2, e3⟩ := HALL.out K HK.out
      have HE1 := Lib.hid e1
      have HE2 := Lib.hid e2
      clear e1 e2 e3
      go_wp2
      have hb := (below0 wr).drew
      replace cP := cell_later hb cP
      replace d0 := cell_later hb d0
      replace d1 := cell_later hb d1
      replace d2 := cell_later hb d2
      replace d3 := cell_later hb d3
      replace c1 := cell_later hb c1
      replace hP := hP.keep hb
      replace hu := hu.keep hb
      replace ht := ht.keep hb
      replace hpv := hpv.keep hb
      replace hbv := hbv.keep hb
      replace hB := bthen hB hb
      replace hBik := bthen hBik hb
      clear hb
      have hcur := below0 (wr).drew
      go_region_held3 (fun w' => w'.cell? ⟨PB, 0, none⟩ = some (.slice (some ⟨ga, 0, none⟩) p.length Cp) ∧ w'.cell? ⟨ug, k, none⟩ = some (.int .i64 K))
        (first | go_keep | exact ⟨cell_later hcur cP, cell_later hcur c1⟩)
        (first
          | (go_at_call 45
             refine (L_isIn ya _ _ x _ hya).mono ?_
             rintro e w' ⟨rfl, rfl⟩
             rw [HE2.out])
          | (go_at_call 79
             refine (I_OwnerOf _ p _ K x _ ⟨_, rfl, hP.keep hcur⟩).mono ?_
             rintro e w8 ⟨rfl, hb⟩
             rw [HE1.out]
             have hcur := bthen hcur hb
             clear hb)
          | (go_at_call 83
             refine (I_UsedIn _ p _ K _ ⟨_, rfl, hP.keep hcur⟩).mono ?_
             rintro e w9 ⟨ya, rfl, hya, hb⟩
             have hcur := bthen hcur hb
             clear hb)
        )
      have hb := hcur
      clear hcur
      replace cP := cell_later hb cP
      replace d0 := cell_later hb d0
      replace d1 := cell_later hb d1
      replace d2 := cell_later hb d2
      replace d3 := cell_later hb d3
      replace c1 := cell_later hb c1
      replace hP := hP.keep hb
      replace hu := hu.keep hb
      replace ht := ht.keep hb
      replace hpv := hpv.keep hb
      replace hbv := hbv.keep hb
      replace hB := bthen hB hb
      replace hBik := bthen hBik hb
      clear hb
      go_wp2
      go_roundw
      case rel => exact ⟨k + 1, by omega, by go_num, hBik⟩
      case measure => simp [intOf]; omega
    obtain rfl : k = (rTouch p kb x).length := by omega
    by_cases hk1 : (p.bk (kb : Int)).kind = 1
    · rw [hk1] at d0
      cases hc : hasF (rCells p kb) x
      · have HC := Lib.hid hc
        have hgt : ¬ ((rTouch p kb x).length : Int) > 1 := by
          have h := HGT.out
          rw [decide_eq_true hk1, hc] at h
          simp at h
          omega
        clear hc hk1
        go_wp2_with fail
        refine (I_InsideOf _ p _ kb _ ⟨_, rfl, hP⟩).mono ?_
        rintro e w10 ⟨z, rfl, hz, hb⟩
        replace cP := cell_later hb cP
        replace d0 := cell_later hb d0
        replace d1 := cell_later hb d1
        replace d2 := cell_later hb d2
        replace d3 := cell_later hb d3
        replace hP := hP.keep hb
        replace hu := hu.keep hb
        replace ht := ht.keep hb
        replace hpv := hpv.keep hb
        replace hbv := hbv.keep hb
        replace hB := bthen hB hb
        clear hb
        go_wp2_with fail
        refine (L_within _ _ _ _ _ _ _ hu hz (fun c hc => (HALL.out c hc).2.2)).mono ?_
        rintro e w' ⟨rfl, rfl⟩
        have hbm : hasF (rTouch p kb x) kb = true := hasF_iff.2 HBM.out
        go_wp2_with fail
        refine (L_isIn _ _ _ (kb : Int) _ hu).mono ?_
        rintro e w' ⟨rfl, rfl⟩
        rw [hbm]
        go_wp2_with fail
        refine (L_ascends _ _ _ _ hu HASC.out).mono ?_
        rintro e w11 ⟨rfl, hb⟩
        replace cP := cell_later hb cP
        replace d0 := cell_later hb d0
        replace d1 := cell_later hb d1
        replace d2 := cell_later hb d2
        replace d3 := cell_later hb d3
        replace hP := hP.keep hb
        replace hu := hu.keep hb
        replace ht := ht.keep hb
        replace hpv := hpv.keep hb
        replace hbv := hbv.keep hb
        replace hz := hz.keep hb
        replace hB := bthen hB hb
        clear hb
        go_wp2_with fail
        refine (I_CellsOf _ p _ kb _ ⟨_, rfl, hP⟩).mono ?_
        rintro e w12 ⟨z2, rfl, hz2, hb⟩
        replace cP := cell_later hb cP
        replace d0 := cell_later hb d0
        replace d1 := cell_later hb d1
        replace d2 := cell_later hb d2
        replace d3 := cell_later hb d3
        replace hP := hP.keep hb
        replace hu := hu.keep hb
        replace ht := ht.keep hb
        replace hpv := hpv.keep hb
        replace hbv := hbv.keep hb
        replace hz := hz.keep hb
        replace hB := bthen hB hb
        clear hb
        go_wp2_with fail
        refine (L_isIn _ _ _ x _ hz2).mono ?_
        rintro e w' ⟨rfl, rfl⟩
        rw [HC.out]
        go_wp2
        go_ret
        exact ⟨by first | rfl | exact ret_bool (by simp; omega) | exact ret_bool (by simp [*]), hB⟩
      · have HC := Lib.hid hc
        have hgt : ((rTouch p kb x).length : Int) > 1 := by
          have h := HGT.out
          rw [decide_eq_true hk1, hc] at h
          simp at h
          omega
        clear hc hk1
        go_wp2_with fail
        refine (I_InsideOf _ p _ kb _ ⟨_, rfl, hP⟩).mono ?_
        rintro e w13 ⟨z, rfl, hz, hb⟩
        replace cP := cell_later hb cP
        replace d0 := cell_later hb d0
        replace d1 := cell_later hb d1
        replace d2 := cell_later hb d2
        replace d3 := cell_later hb d3
        replace hP := hP.keep hb
        replace hu := hu.keep hb
        replace ht := ht.keep hb
        replace hpv := hpv.keep hb
        replace hbv := hbv.keep hb
        replace hB := bthen hB hb
        clear hb
        go_wp2_with fail
        refine (L_within _ _ _ _ _ _ _ hu hz (fun c hc => (HALL.out c hc).2.2)).mono ?_
        rintro e w' ⟨rfl, rfl⟩
        have hbm : hasF (rTouch p kb x) kb = true := hasF_iff.2 HBM.out
        go_wp2_with fail
        refine (L_isIn _ _ _ (kb : Int) _ hu).mono ?_
        rintro e w' ⟨rfl, rfl⟩
        rw [hbm]
        go_wp2_with fail
        refine (L_ascends _ _ _ _ hu HASC.out).mono ?_
        rintro e w14 ⟨rfl, hb⟩
        replace cP := cell_later hb cP
        replace d0 := cell_later hb d0
        replace d1 := cell_later hb d1
        replace d2 := cell_later hb d2
        replace d3 := cell_later hb d3
        replace hP := hP.keep hb
        replace hu := hu.keep hb
        replace ht := ht.keep hb
        replace hpv := hpv.keep hb
        replace hbv := hbv.keep hb
        replace hz := hz.keep hb
        replace hB := bthen hB hb
        clear hb
        go_wp2_with fail
        refine (I_CellsOf _ p _ kb _ ⟨_, rfl, hP⟩).mono ?_
        rintro e w15 ⟨z2, rfl, hz2, hb⟩
        replace cP := cell_later hb cP
        replace d0 := cell_later hb d0
        replace d1 := cell_later hb d1
        replace d2 := cell_later hb d2
        replace d3 := cell_later hb d3
        replace hP := hP.keep hb
        replace hu := hu.keep hb
        replace ht := ht.keep hb
        replace hpv := hpv.keep hb
        replace hbv := hbv.keep hb
        replace hz := hz.keep hb
        replace hB := bthen hB hb
        clear hb
        go_wp2_with fail
        refine (L_isIn _ _ _ x _ hz2).mono ?_
        rintro e w' ⟨rfl, rfl⟩
        rw [HC.out]
        go_wp2
        go_ret
        exact ⟨by first | rfl | exact ret_bool (by simp; omega) | exact ret_bool (by simp [*]), hB⟩
    have hgt : ¬ ((rTouch p kb x).length : Int) > 1 := by
      have h := HGT.out
      rw [decide_eq_false hk1] at h
      simp at h
      omega
    have hkb : ((p.bk (kb : Int)).kind == 1) = false := by rw [beq_eq_false_iff_ne]; exact hk1
    go_wp2_with fail
    refine (I_InsideOf _ p _ kb _ ⟨_, rfl, hP⟩).mono ?_
    rintro e w16 ⟨z, rfl, hz, hb⟩
    replace cP := cell_later hb cP
    replace d0 := cell_later hb d0
    replace d1 := cell_later hb d1
    replace d2 := cell_later hb d2
    replace d3 := cell_later hb d3
    replace hP := hP.keep hb
    replace hu := hu.keep hb
    replace ht := ht.keep hb
    replace hpv := hpv.keep hb
    replace hbv := hbv.keep hb
    replace hB := bthen hB hb
    clear hb
    go_wp2_with fail
    refine (L_within _ _ _ _ _ _ _ hu hz (fun c hc => (HALL.out c hc).2.2)).mono ?_
    rintro e w' ⟨rfl, rfl⟩
    have hbm : hasF (rTouch p kb x) kb = true := hasF_iff.2 HBM.out
    go_wp2_with fail
    refine (L_isIn _ _ _ (kb : Int) _ hu).mono ?_
    rintro e w' ⟨rfl, rfl⟩
    rw [hbm]
    go_wp2_with fail
    refine (L_ascends _ _ _ _ hu HASC.out).mono ?_
    rintro e w17 ⟨rfl, hb⟩
    replace cP := cell_later hb cP
    replace d0 := cell_later hb d0
    replace d1 := cell_later hb d1
    replace d2 := cell_later hb d2
    replace d3 := cell_later hb d3
    replace hP := hP.keep hb
    replace hu := hu.keep hb
    replace ht := ht.keep hb
    replace hpv := hpv.keep hb
    replace hbv := hbv.keep hb
    replace hz := hz.keep hb
    replace hB := bthen hB hb
    clear hb
    go_wp2
    go_ret
    exact ⟨by first | rfl | exact ret_bool (by simp; omega) | exact ret_bool (by simp [*]), hB⟩

theorem own : ownKnob Try.prog.godebug = none := by kernel_rfl
theorem laidOut : laidOutB Try.prog = true := by kernel_rfl

set_option maxRecDepth 100000 in
theorem lifted (os : Os) (started : os.Started) (H : Type) (enc : TypeId × Value → H) :
    ReturnsInHanded {} Try.checked os 28 .any (Rows.fnTouchedBySpec.pre6 enc Try.prog Try.f28 Rows.fnTouchedByRow.domain false) (Rows.fnTouchedBySpec.post enc Try.prog Try.f28 false true false false) := by
  refine returnsInHanded_of_change (C := Try.checked) own started (by kernel_rfl) Try.func28
    (ChangeSpec.witness6 (enc := enc) (C := Try.checked) false ⟨#[], #[.slice none 0 0], []⟩ 8 (by kernel_rfl) (by kernel_rfl) (by kernel_rfl) (by kernel_rfl)) ?_
  intro W base args ds gs before hval0 hW hcnd _
  have hval : ∀ (j : Nat) t v, Try.f28.params[j]? = some t → args[j]? = some v → Value.okWide Try.prog W .any base t v := hval0
  have hW' := hW
  obtain ⟨p, q, hA0, hV, rfl, hfz, hnd⟩ := hW
  have hA : DataW.TrodAll enc Try.prog W 0 (fun _ => true) true Try.f28.params.toList args.toList ds p := hA0
  rw [Try.params28] at hA hval
  obtain ⟨v0, d0, rfl, rfl, h0⟩ := trodAll_one hA
  obtain ⟨rfl, rfl⟩ := trodVars_none hV
  clear hA0 hval0
  simp only [List.append_nil] at hW'
  have hlt : ∀ x ∈ p, x.block < W.heap.size := fun x hx => hW'.lt x hx
  obtain ⟨q0, hq0⟩ := open_obytes (hval 0 22 v0 rfl rfl) h0
  refine (walk v0 q0 W hq0).mono fun e W' ⟨he, hb⟩ => ?_
  subst he
  exact ⟨_, rfl, post_of_below (pa := _) (pv := []) hW' (fun _ _ _ => (trodAll_cons_mk (shut_bool Try.underlying4 _) trodAll_mk0)) (fun sp hsp => (trodAll_cons_mk (WideElems.Trod_stays laidOut (by kernel_rfl) (of_decide_eq_true (by kernel_rfl)) h0 (fun x hx => hb.same (hlt x (hx))) (fun x hx => hsp x (hx))) trodAll_mk0)) (fun _ _ => rfl) (by simp)
    hb (ok_one (by kernel_rfl) rfl (okWide_bool_mk Try.underlying4 _))⟩

theorem closed : joinedFacts Try.pinned.checked.prog 28 Try.f28 Rows.fnTouchedBySpec Rows.fnTouchedByRow = true := by
  show joinedFacts Try.prog 28 Try.f28 Rows.fnTouchedBySpec Rows.fnTouchedByRow = true
  unfold joinedFacts
  rw [may_enter, lifts_not, make_cut]
  kernel_rfl

theorem over : Rows.fnTouchedByRow.holds Try.pinned (OpenSpec.ofChange Rows.fnTouchedBySpec) :=
  OpenClaim.holds_of_wide 28 Try.f28 rfl rfl rfl rfl rfl rfl rfl ⟨rfl, rfl, rfl, rfl, rfl⟩ rfl rfl rfl rfl rfl (by kernel_rfl) Try.func28 closed
    (of_decide_eq_true (by kernel_rfl)) (by unfold Func.isWrapper; first | (rw [if_pos (by decide +kernel)]; kernel_rfl) | (rw [if_neg (by decide +kernel)]; exact ⟨rfl, rfl⟩))
    (fun os started H enc _ => lifted os started H enc)

theorem proved : Rows.FnTouchedBySaid := over
#print axioms proved
end Go.Proofs.Ytklikpcfmmpocaa.touchedBy
