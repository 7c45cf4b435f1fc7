/-
  The law FnExactBareProgram: for every input it answers true and leaves its argument as it was. No condition.
-/
import Derived.Test.YtelhemhbgpfokaaFrame
import Derived.Test.YtelhemhbgpfokaaFacts
import Derived.Test.YtelhemhbgpfokaaImplB
import Derived.Test.YtelhemhbgpfokaaHeld
import Derived.Test.YtelhemhbgpfokaaMark
import Derived.Test.YtelhemhbgpfokaaEq
namespace Go.Proofs.Ytelhemhbgpfokaa.exactBareProgram
open Go.ChangeShapes Go.WideShapes Go.ChangeAt Go.RowKit
set_option linter.unusedVariables false

set_option maxRecDepth 100000 in
set_option maxHeartbeats 2000000 in
theorem walk (v : Value) (p : Pr) (w : World) (hv : OProg w v p) :
    Calls Try.prog 7 #[v] w fun e w' => e = .returned (.bool true) ∧ Below w.heap.size w w' := by
  obtain ⟨sl, rfl, hv'⟩ := hv
  obtain ⟨fo, ⟨A0, C0, _, _, rfl, _⟩, _⟩ := id hv'
  have HV := Lib.hid (show OProg w (.agg #[.slice A0 p.length C0]) p from ⟨_, rfl, hv'⟩)
  clear hv'
  by_cases hsz : (p.size : Int) ≤ 1048576
  · have e1 : left_ 1048576 p.size = 1048576 - p.size := by unfold left_; rw [if_pos hsz]
    have E1 := Lib.hid e1
    have hs2 : p.size ≤ 1048576 := by omega
    clear e1
    go_enter Try.func7, Try.ntmps7
    go_wp2_with fail
    refine (szProgram_any _ p 1048576 _ (HV.out.keep al1) (by omega) (by omega)).mono ?_
    rintro e w1 ⟨rfl, hb1⟩
    rw [E1.out]
    have B1 := bthen (al1 (w := w)) hb1
    have r1 : w1.cell? ⟨w.heap.size, 0, none⟩ = some (.slice A0 p.length C0) := cell_later hb1 (by simp [go_sem])
    clear hb1
    go_wp2_with fail
    refine (toProgram_any _ p _ (HV.out.keep B1) hs2).mono ?_
    rintro e w2 ⟨v2, rfl, hp2, hb2⟩
    have B2 := bthen B1 hb2
    have r2 := cell_later hb2 r1
    obtain ⟨sl2, rfl, hbl2⟩ := hp2
    clear r1 hb2
    go_wp2_with fail
    refine (S_BareProgram _ p _ _ ⟨_, rfl, hbl2⟩).mono ?_
    rintro e w3 ⟨u0, uxs, rfl, hu3, hb3⟩
    have B3 := bthen B2 hb3
    have r3 := cell_later hb3 r2
    have hzw0 : w.heap.size < w3.heap.size := World.block_lt_of_cell? _ _ r3
    obtain ⟨uA, uC, rfl⟩ := PRowX.form hu3
    have hu3 := PRowX.blks hu3
    have hmk := marksTo_size p
    have hmr := marksTo_size (rBare p)
    have hsr : (rBare p).size ≤ p.size := rBare_size p
    generalize hRL : rBare p = R at *
    have HRL := Lib.hid hRL
    have hmk2 : (1 : Int) + marksTo p ≤ 1099511627776 := by omega
    have hmr2 : (1 : Int) + marksTo R ≤ 1099511627776 := by omega
    generalize hM : marksTo p = M at *
    have HM := Lib.hid hM
    generalize hN : marksTo R = N at *
    have HN := Lib.hid hN
    clear r2 hb3 hbl2 hM hRL hN hmk hmr hsr
    go_wp2_with fail
    obtain ⟨W3, hW3⟩ : ∃ W3 : World, W3 = w3.alloc (.cells #[.slice uA R.length uC] 25) := ⟨_, rfl⟩
    have y3 : Below w3.heap.size w3 W3 := by rw [hW3]; exact al1
    have z3 : w3.heap.size < W3.heap.size := by rw [hW3]; simp
    have b3 : W3.cell? ⟨w3.heap.size, 0, none⟩ = some (.slice uA R.length uC) := by rw [hW3]; simp [go_sem]
    have hu := hu3.keep y3
    have r3 := cell_later y3 r3
    have hzw := B3.size
    have B3 := bthen B3 y3
    rw [← hW3]
    clear hW3 y3 hu3
    refine (toProgram_any _ p _ (HV.out.keep B3) hs2).mono ?_
    rintro e w4 ⟨v4, rfl, hp4, hb4⟩
    have r4 := cell_later hb4 r3
    have b4 := cell_later hb4 b3
    have z4 := hb4.size
    obtain ⟨sl4, rfl, hbl4⟩ := hp4
    obtain ⟨A4, C4, rfl⟩ := hbl4.form
    have HBL4 := Lib.hid hbl4
    have HU := Lib.hid hu
    clear r3 b3 hu
    go_wp2_with fail
    refine (I_BareProgram _ p _ _ ⟨_, rfl, HBL4.out.keep al1⟩).mono ?_
    rintro e w5 ⟨g0, gs, rfl, hg5, ha5, hb5⟩
    have T5 := bthen (bal hb4 _) hb5
    have E5 := bthen al1 hb5
    have q5 : w5.cell? ⟨w4.heap.size, 0, none⟩ = some (.slice A4 p.length C4) := cell_later hb5 (by simp [go_sem])
    have r5 := cell_later E5 r4
    have b5 := cell_later E5 b4
    simp only [World.size_alloc] at hg5
    rw [HRL.out] at hg5 ha5
    have z5 : w4.heap.size + 1 ≤ w5.heap.size := by have := hb5.size; rw [World.size_alloc] at this; exact this
    obtain ⟨gA, gC, rfl⟩ := PRowX.form hg5
    have HUN := Lib.hid (PRowX.under hg5)
    have HG5 := Lib.hid hg5
    have HA5 := Lib.hid ha5
    clear r4 b4 hb5 hbl4 hb4 hg5 ha5
    have m1 : w3.heap.size < w5.heap.size := World.block_lt_of_cell? _ _ b5
    have m2 : w4.heap.size < w5.heap.size := by omega
    have m3 : w.heap.size < w5.heap.size := World.block_lt_of_cell? _ _ r5
    go_wp2_with fail
    obtain ⟨W5, hW5⟩ : ∃ W5 : World, W5 = w5.alloc (.cells #[.slice gA R.length gC] 25) := ⟨_, rfl⟩
    have y5 : Below w5.heap.size w5 W5 := by rw [hW5]; exact al1
    have d5 : W5.cell? ⟨w5.heap.size, 0, none⟩ = some (.slice gA R.length gC) := by rw [hW5]; simp [go_sem]
    have z5' : w5.heap.size < W5.heap.size := by rw [hW5]; simp
    have T5 := bthen T5 y5
    have E5 := bthen E5 y5
    have q5 := cell_later y5 q5
    have r5 := cell_later y5 r5
    have b5 := cell_later y5 b5
    have G5 := y5
    rw [← hW5]
    clear hW5 y5
    refine (eqProgram_any _ _ R R _ _ _ ⟨_, rfl, PRowX.blks (PRowX.keep HG5.out G5)⟩ ⟨_, rfl, HU.out.keep T5⟩).mono ?_
    rintro e w6 ⟨rfl, hb6⟩
    rw [beq_self_eq_true]
    have T6 := bthen T5 hb6
    have E6 := bthen E5 hb6
    have G6 := bthen G5 hb6
    have q6 := cell_later hb6 q5
    have r6 := cell_later hb6 r5
    have b6 := cell_later hb6 b5
    have d6 := cell_later hb6 d5
    clear q5 r5 b5 d5 T5 E5 G5 hb6
    have TD := T6.drew
    have ED := E6.drew
    have GD := G6.drew
    have rd : w6.drew.cell? ⟨w.heap.size, 0, none⟩ = some (.slice A0 p.length C0) := r6
    have qd : w6.drew.cell? ⟨w4.heap.size, 0, none⟩ = some (.slice A4 p.length C4) := q6
    have bd : w6.drew.cell? ⟨w3.heap.size, 0, none⟩ = some (.slice uA R.length uC) := b6
    have dd : w6.drew.cell? ⟨w5.heap.size, 0, none⟩ = some (.slice gA R.length gC) := d6
    have hbld : Blks w6.drew _ _ p := HBL4.out.keep ED
    go_wp2
    go_region_held3 (fun w' => w'.cell? ⟨w4.heap.size, 0, none⟩ = some (.slice A4 p.length C4) ∧ w'.cell? ⟨w.heap.size, 0, none⟩ = some (.slice A0 p.length C0))
      (first
        | go_keep
        | exact ⟨cell_later hb8 (cell_later hb7 qd), cell_later hb8 (cell_later hb7 rd)⟩
        | exact ⟨cell_later hb7 qd, cell_later hb7 rd⟩)
      (first
        | (go_at_call 19
           refine (toProgram_any _ p _ (HV.out.keep (bthen B3 TD)) hs2).mono ?_
           rintro e w7 ⟨v7, rfl, hp7, hb7⟩
           have T7 := bthen TD hb7
           have E7 := bthen ED hb7
           have G7 := bthen GD hb7
           have hbl7 := hbld.keep hb7)
        | (go_at_call 21
           refine (eqProgram_any _ v7 p p _ _ _ ⟨_, rfl, hbl7⟩ hp7).mono ?_
           rintro e w8 ⟨rfl, hb8⟩
           have T8 := bthen T7 hb8))
    have E8 := bthen E7 hb8
    have G8 := bthen G7 hb8
    have r8 := cell_later hb8 (cell_later hb7 rd)
    have q8 := cell_later hb8 (cell_later hb7 qd)
    have b8 := cell_later hb8 (cell_later hb7 bd)
    have d8 := cell_later hb8 (cell_later hb7 dd)
    have zE := E8.size
    have zG := G8.size
    clear q6 r6 b6 d6 T6 E6 G6 TD ED GD rd qd bd dd hbld hp7 hb7 T7 E7 G7 hbl7 hb8
    go_wp2_with fail
    refine (markProgram_any _ p _ 1 w4 _ HBL4.out E8 (by omega) (by rw [HM.out]; omega)).mono ?_
    rintro e w9 ⟨rfl, ho9⟩
    rw [HM.out]
    have T9 := T8.trans (ho9.below T8.size)
    have hg8 := PRowX.keep HG5.out G8
    have hg9 := PRowX.only hg8 ho9 (by omega)
    have r9 := cell_only ho9 r8 (.inl (by omega))
    have b9 := cell_only ho9 b8 (.inl (by omega))
    have d9 := cell_only ho9 d8 (.inr (by omega))
    have zO := ho9.size
    have HG9 := Lib.hid hg9
    have HA9 := HA5
    clear q8 r8 b8 d8 T8 E8 G8 ho9 HBL4 hg8 hg9 HG5
    go_wp2_with fail
    refine (eqProgram_any _ _ R R _ _ _ ⟨_, rfl, PRowX.blks HG9.out⟩ ⟨_, rfl, HU.out.keep T9⟩).mono ?_
    rintro e w10 ⟨rfl, hb10⟩
    rw [beq_self_eq_true]
    have T10 := bthen T9 hb10
    have r10 := cell_later hb10 r9
    have b10 := cell_later hb10 b9
    have d10 := cell_later hb10 d9
    have z10 := hb10.size
    clear T9 r9 b9 d9
    have hg10 := PRowX.keep HG9.out hb10
    have HG10 := Lib.hid hg10
    clear hg10 hb10
    go_wp2_with fail
    refine (markProgram_row _ gs R _ _ 1 _ HG10.out HUN.out HA9.out (by omega) (by rw [HN.out]; omega)).mono ?_
    rintro e w11 ⟨rfl, ⟨gs2, hg11⟩, ho11⟩
    rw [HN.out]
    have T11 := T10.trans ((ho11.below (by omega)).mono (by omega))
    have r11 := cell_only ho11 r10 (.inl (by omega))
    have b11 := cell_only ho11 b10 (.inl (by omega))
    have d11 := cell_only ho11 d10 (.inr (Nat.le_refl _))
    have HG11 := Lib.hid hg11
    clear T10 r10 b10 d10 ho11 hg11 HG10 HG9 HA9
    go_wp2_with fail
    refine (heldProgram_row _ gs2 R _ 1 _ HG11.out (by omega) (by rw [HN.out]; omega)).mono ?_
    rintro e w12 ⟨rfl, hb12⟩
    rw [HN.out]
    have hne : ((1 : Int) + (N : Int) != 1 + (N : Int)) = false := by simp
    have T12 := bthen T11 hb12
    have r12 := cell_later hb12 r11
    have b12 := cell_later hb12 b11
    have d12 := cell_later hb12 d11
    have HG12 := Lib.hid (PRowX.keep HG11.out hb12)
    clear T11 r11 b11 d11 hb12 HG11
    go_wp2_with fail
    refine (toProgram_any _ p _ (HV.out.keep (bthen B3 T12)) hs2).mono ?_
    rintro e w13 ⟨v13, rfl, hp13, hb13⟩
    have T13 := bthen T12 hb13
    have b13 := cell_later hb13 b12
    have d13 := cell_later hb13 d12
    have HG13 := Lib.hid (PRowX.keep HG12.out hb13)
    clear T12 r12 b12 d12 hb13 HG12
    obtain ⟨sl13, rfl, hbl13⟩ := hp13
    have HBL13 := Lib.hid hbl13
    clear hbl13
    go_wp2_with fail
    refine (I_BareProgram _ p _ _ ⟨_, rfl, HBL13.out⟩).mono ?_
    rintro e w14 ⟨h0, hs0, rfl, hh14, _, hb14⟩
    rw [HRL.out] at hh14
    have T14 := bthen T13 hb14
    have b14 := cell_later hb14 b13
    have d14 := cell_later hb14 d13
    have HG14 := Lib.hid (PRowX.keep HG13.out hb14)
    obtain ⟨hA, hC, rfl⟩ := PRowX.form hh14
    have HH14 := Lib.hid (PRowX.blks hh14)
    have z14 := T14.size
    clear T13 b13 d13 hb14 HG13 hh14 HBL13
    have n1 : w3.heap.size < w14.heap.size := by omega
    go_wp2_with fail
    obtain ⟨W14, hW14⟩ : ∃ W14 : World, W14 = w14.alloc (.cells #[.slice hA R.length hC] 25) := ⟨_, rfl⟩
    have y14 : Below w14.heap.size w14 W14 := by rw [hW14]; exact al1
    have T14 := bthen T14 y14
    have d14 := cell_later y14 d14
    have HG14 := Lib.hid (PRowX.keep HG14.out y14)
    rw [← hW14]
    clear hW14 b14
    refine (eqProgram_any _ _ R R _ _ _ ⟨_, rfl, HH14.out.keep y14⟩ ⟨_, rfl, HU.out.keep T14⟩).mono ?_
    rintro e w15 ⟨rfl, hb15⟩
    rw [beq_self_eq_true]
    have T15 := bthen T14 hb15
    have d15 := cell_later hb15 d14
    have HG15 := Lib.hid (PRowX.keep HG14.out hb15)
    clear T14 d14 hb15 HG14 HH14 y14
    go_wp2_with fail
    refine (heldProgram_row _ gs2 R _ 1 _ HG15.out (by omega) (by rw [HN.out]; omega)).mono ?_
    rintro e w16 ⟨rfl, hb16⟩
    rw [HN.out]
    have T16 := bthen T15 hb16
    clear T15 d15 hb16 HG15
    go_wp2
    go_ret
    exact ⟨rfl, bthen B3 T16⟩
  · have e1 : left_ 1048576 p.size = -1 := by unfold left_; rw [if_neg hsz]
    have E1 := Lib.hid e1
    clear e1
    go_enter Try.func7, Try.ntmps7
    go_wp2_with (go_at_call 18; refine (szProgram_any _ p 1048576 _ (HV.out.keep al1) (by omega) (by omega)).mono ?_; rintro e w1 ⟨rfl, hb1⟩; rw [E1.out]; have B1 := bthen (al1 (w := w)) hb1)
    go_ret
    exact ⟨rfl, B1⟩

theorem own : ownKnob Try.prog.godebug = none := by kernel_rfl
theorem laidOut : laidOutB Try.prog = true := by kernel_rfl

set_option maxRecDepth 100000 in
theorem lifted (os : Os) (started : os.Started) (H : Type) (enc : TypeId × Value → H) :
    ReturnsInHanded {} Try.checked os 7 .any (Rows.fnExactBareProgramSpec.pre6 enc Try.prog Try.f7 Rows.fnExactBareProgramRow.domain false) (Rows.fnExactBareProgramSpec.post enc Try.prog Try.f7 false true false false) := by
  refine returnsInHanded_of_change (C := Try.checked) own started (by kernel_rfl) Try.func7
    (ChangeSpec.witness6 (enc := enc) (C := Try.checked) false ⟨#[], #[.agg #[.slice none 0 0]], []⟩ 8 (by kernel_rfl) (by kernel_rfl) (by kernel_rfl) (by kernel_rfl)) ?_
  intro W base args ds gs before hval0 hW hcnd _
  have hval : ∀ (j : Nat) t v, Try.f7.params[j]? = some t → args[j]? = some v → Value.okWide Try.prog W .any base t v := hval0
  have hW' := hW
  obtain ⟨p, q, hA0, hV, rfl, hfz, hnd⟩ := hW
  have hA : DataW.TrodAll enc Try.prog W 0 (fun _ => true) true Try.f7.params.toList args.toList ds p := hA0
  rw [Try.params7] at hA hval
  obtain ⟨v0, d0, rfl, rfl, h0⟩ := trodAll_one hA
  obtain ⟨rfl, rfl⟩ := trodVars_none hV
  clear hA0 hval0
  simp only [List.append_nil] at hW'
  have hlt : ∀ x ∈ p, x.block < W.heap.size := fun x hx => hW'.lt x hx
  obtain ⟨q0, hq0⟩ := open_oprog (hval 0 37 v0 rfl rfl) h0
  refine (walk v0 q0 W hq0).mono fun e W' ⟨he, hb⟩ => ?_
  subst he
  exact ⟨_, rfl, post_of_below (pa := _) (pv := []) hW' (fun _ _ _ => (trodAll_cons_mk (shut_bool Try.underlying4 _) trodAll_mk0)) (fun sp hsp => (trodAll_cons_mk (WideElems.Trod_stays laidOut (by kernel_rfl) (of_decide_eq_true (by kernel_rfl)) h0 (fun x hx => hb.same (hlt x (hx))) (fun x hx => hsp x (hx))) trodAll_mk0)) (fun _ _ => rfl) (by simp)
    hb (ok_one (by kernel_rfl) rfl (okWide_bool_mk Try.underlying4 _))⟩

theorem closed : joinedFacts Try.pinned.checked.prog 7 Try.f7 Rows.fnExactBareProgramSpec Rows.fnExactBareProgramRow = true := by
  show joinedFacts Try.prog 7 Try.f7 Rows.fnExactBareProgramSpec Rows.fnExactBareProgramRow = true
  unfold joinedFacts
  rw [may_enter, lifts_not, make_cut]
  kernel_rfl

theorem over : Rows.fnExactBareProgramRow.holds Try.pinned (OpenSpec.ofChange Rows.fnExactBareProgramSpec) :=
  OpenClaim.holds_of_wide 7 Try.f7 rfl rfl rfl rfl rfl rfl rfl ⟨rfl, rfl, rfl, rfl, rfl⟩ rfl rfl rfl rfl rfl (by kernel_rfl) Try.func7 closed
    (of_decide_eq_true (by kernel_rfl)) (by unfold Func.isWrapper; first | (rw [if_pos (by decide +kernel)]; kernel_rfl) | (rw [if_neg (by decide +kernel)]; exact ⟨rfl, rfl⟩))
    (fun os started H enc _ => lifted os started H enc)

theorem proved : Rows.FnExactBareProgramSaid := over
#print axioms proved
end Go.Proofs.Ytelhemhbgpfokaa.exactBareProgram
