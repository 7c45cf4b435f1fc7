/-
  The law FnExactIdleDeclarations: for every input it answers true and leaves its argument as it was. No condition.
-/
import Derived.Test.YtiemhadpepbcjaaFrame
import Derived.Test.YtiemhadpepbcjaaFacts
import Derived.Test.YtiemhadpepbcjaaDwT
import Derived.Test.YtiemhadpepbcjaaHeld
import Derived.Test.YtiemhadpepbcjaaMark
namespace Go.Proofs.Ytiemhadpepbcjaa.exactIdleDeclarations
open Go.ChangeShapes Go.WideShapes Go.ChangeAt Go.RowKit
set_option linter.unusedVariables false

set_option maxRecDepth 100000 in
set_option maxHeartbeats 2000000 in
theorem walk (v : Value) (p : Pr) (w : World) (hv : OProg w v p) :
    Calls Try.prog 5 #[v] w fun e w' => e = .returned (.bool true) ∧ Below w.heap.size w w' := by
  obtain ⟨sl, rfl, hv'⟩ := hv
  obtain ⟨fo, ⟨A0, C0, _, _, rfl, _⟩, _⟩ := id hv'
  have HV := Lib.hid (show OProg w (.agg #[.slice A0 p.length C0]) p from ⟨_, rfl, hv'⟩)
  clear hv'
  by_cases hsz : (p.size : Int) ≤ 1048576
  · have e1 : left_ 1048576 p.size = 1048576 - p.size := by unfold left_; rw [if_pos hsz]
    have E1 := Lib.hid e1
    have hs2 : p.size ≤ 1048576 := by omega
    clear e1
    go_enter Try.func5, Try.ntmps5
    go_wp2_with fail
    refine (szProgram_any _ p 1048576 _ (HV.out.keep al1) (by omega) (by omega)).mono ?_
    rintro e w1 ⟨rfl, hb1⟩
    rw [E1.out]
    have B1 := bthen (al1 (w := w)) hb1
    have r1 : w1.cell? ⟨w.heap.size, 0, none⟩ = some (.slice A0 p.length C0) := cell_later hb1 (by simp [go_sem])
    clear hb1
    go_wp2_with fail
    refine (toProgram_any _ p _ (HV.out.keep B1) hs2).mono ?_
    rintro e w2 ⟨v2, rfl, hp2, hb2⟩
    have B2 := bthen B1 hb2
    have r2 := cell_later hb2 r1
    obtain ⟨sl2, rfl, hbl2⟩ := hp2
    clear r1 hb2
    go_wp2_with fail
    refine (S_IdleDeclarations _ p _ _ ⟨_, rfl, hbl2⟩).mono ?_
    rintro e w3 ⟨u0, us0, rfl, hu3, hb3⟩
    have B3 := bthen B2 hb3
    have r3 := cell_later hb3 r2
    have R3 := Lib.hid r3
    have hmk := marksTo_size p
    have hlen : ((rIdle p).map List.length).sum ≤ 1000000 := Nat.le_trans (rIdle_sum p) (by omega)
    generalize hRL : rIdle p = l at *
    generalize hNS : l.map List.length = ns at *
    have HRL := Lib.hid hRL
    have HNS := Lib.hid hNS
    have hmk2 : (1 : Int) + marksTo p ≤ 1099511627776 := by omega
    generalize hM : marksTo p = M at *
    have HM := Lib.hid hM
    clear r2 hb3 hbl2 hM hRL hNS
    go_wp2_with fail
    refine (toProgram_any _ p _ (HV.out.keep B3) hs2).mono ?_
    rintro e w4 ⟨v4, rfl, hp4, hb4⟩
    have r4 := cell_later hb4 r3
    obtain ⟨sl4, rfl, hbl4⟩ := hp4
    obtain ⟨A4, C4, rfl⟩ := hbl4.form
    have HBL4 := Lib.hid hbl4
    clear r3
    go_wp2_with fail
    refine (I_IdleDeclarations _ p _ _ ⟨_, rfl, HBL4.out.keep al1⟩).mono ?_
    rintro e w5 ⟨g0, gs, rfl, hg5, hb5⟩
    have T5 := bthen (bal hb4 _) hb5
    have E5 := bthen al1 hb5
    have hz5 := hb5.size
    rw [World.size_alloc] at hz5
    have q5 : w5.cell? ⟨w4.heap.size, 0, none⟩ = some (.slice A4 p.length C4) := cell_later hb5 (by simp [go_sem])
    simp only [World.size_alloc] at hg5
    rw [HRL.out] at hg5
    have hz5' : w4.heap.size + 1 ≤ w5.heap.size := hz5
    clear r4 hb5 hbl4 hz5
    go_wp2_with fail
    refine (eqIntSS_any g0 u0 gs us0 l l _ _ _ hg5 (hu3.keep T5)).mono ?_
    rintro e w6 ⟨rfl, hb6⟩
    rw [beq_self_eq_true]
    have T6 := bthen T5 hb6
    have hz6 := hb6.size
    have E6 := bthen E5 hb6
    have q6 := cell_later hb6 q5
    have r6 := cell_later T6 R3.out
    have hg6 := hg5.keep hb6
    clear q5 T5 E5 hg5 hb6
    have TD := T6.drew
    have ED := E6.drew
    have gd : RowsOf w6.drew _ g0 gs l := hg6
    have rd : w6.drew.cell? ⟨w.heap.size, 0, none⟩ = some (.slice A0 p.length C0) := r6
    have qd : w6.drew.cell? ⟨w4.heap.size, 0, none⟩ = some (.slice A4 p.length C4) := q6
    have hbld : Blks w6.drew _ _ p := HBL4.out.keep ED
    go_wp2
    go_region_held3 (fun w' => w'.cell? ⟨w4.heap.size, 0, none⟩ = some (.slice A4 p.length C4) ∧ w'.cell? ⟨w.heap.size, 0, none⟩ = some (.slice A0 p.length C0))
      (first
        | go_keep
        | exact ⟨cell_later hb8 (cell_later hb7 qd), cell_later hb8 (cell_later hb7 rd)⟩
        | exact ⟨cell_later hb7 qd, cell_later hb7 rd⟩)
      (first
        | (go_at_call 20
           refine (toProgram_any _ p _ (HV.out.keep (bthen B3 TD)) hs2).mono ?_
           rintro e w7 ⟨v7, rfl, hp7, hb7⟩
           have T7 := bthen TD hb7
           have E7 := bthen ED hb7
           have hbl7 := hbld.keep hb7)
        | (go_at_call 23
           refine (eqProgram_any _ v7 p p _ _ _ ⟨_, rfl, hbl7⟩ hp7).mono ?_
           rintro e w8 ⟨rfl, hb8⟩
           have T8 := bthen T7 hb8))
    have E8 := bthen E7 hb8
    have q8 := cell_later hb8 (cell_later hb7 qd)
    have g8 := (gd.keep hb7).keep hb8
    have hz7 : w6.heap.size ≤ w7.heap.size := hb7.size
    have hz8 := hb8.size
    clear q6 r6 hg6 T6 E6 TD ED gd rd qd hbld hp7 hb7 T7 E7 hbl7 hb8
    go_wp2_with fail
    refine (markProgram_any _ p _ 1 w4 _ HBL4.out E8 (by omega) (by rw [HM.out]; omega)).mono ?_
    rintro e w9 ⟨rfl, ho9⟩
    rw [HM.out]
    have T9 := T8.trans (ho9.below T8.size)
    have g9 : RowsOf w9 _ g0 gs l := g8.only ho9 (by omega)
    have E9 := E8.size
    have hs9 := ho9.size
    clear q8 g8 T8 E8 ho9 HBL4
    go_wp2_with fail
    refine (eqIntSS_any g0 u0 gs us0 l l _ _ _ g9 (hu3.keep T9)).mono ?_
    rintro e w10 ⟨rfl, hb10⟩
    rw [beq_self_eq_true]
    have T10 := bthen T9 hb10
    have g10 := g9.keep hb10
    have hz10 := hb10.size
    have hz9 := T9.size
    clear g9
    go_wp2_with fail
    refine (markIntSS_any g0 gs l _ 1 _ (by omega) g10 (by omega) (by rw [HNS.out]; omega)).mono ?_
    rintro e w11 ⟨rfl, g11, hbl11⟩
    rw [HNS.out] at g11 ⊢
    have T11 : Below w3.heap.size w3 w11 := T10.trans (hbl11.mono (by have := hb4.size; omega))
    have r11 := cell_later T11 R3.out
    clear T10 g10 hbl11
    go_wp2_with fail
    refine (heldIntSS_any g0 gs ns _ 1 _ g11 (by omega) (by omega)).mono ?_
    rintro e w' ⟨rfl, rfl⟩
    have hne : ((1 : Int) + ns.sum != 1 + ns.sum) = false := by simp
    go_wp2_with fail
    refine (toProgram_any _ p _ (HV.out.keep (bthen B3 T11)) hs2).mono ?_
    rintro e w12 ⟨v12, rfl, hp12, hb12⟩
    have T12 := bthen T11 hb12
    have g12 := g11.keep hb12
    clear r11 T11 g11 hb12
    go_wp2_with fail
    refine (I_IdleDeclarations _ p _ _ hp12).mono ?_
    rintro e w13 ⟨h0, hs0, rfl, hh13, hb13⟩
    have T13 := bthen T12 hb13
    rw [HRL.out] at hh13
    have g13 := g12.keep hb13
    clear T12 g12 hb13 hp12
    go_wp2_with fail
    refine (eqIntSS_any h0 u0 hs0 us0 l l _ _ _ hh13 (hu3.keep T13)).mono ?_
    rintro e w14 ⟨rfl, hb14⟩
    rw [beq_self_eq_true]
    have T14 := bthen T13 hb14
    have g14 := g13.keep hb14
    clear T13 g13 hb14
    go_wp2_with fail
    refine (heldIntSS_any g0 gs ns _ 1 _ g14 (by omega) (by omega)).mono ?_
    rintro e w' ⟨rfl, rfl⟩
    go_wp2
    go_ret
    exact ⟨rfl, bthen B3 T14⟩
  · have e1 : left_ 1048576 p.size = -1 := by unfold left_; rw [if_neg hsz]
    have E1 := Lib.hid e1
    clear e1
    go_enter Try.func5, Try.ntmps5
    go_wp2_with (go_at_call 18; refine (szProgram_any _ p 1048576 _ (HV.out.keep al1) (by omega) (by omega)).mono ?_; rintro e w1 ⟨rfl, hb1⟩; rw [E1.out]; have B1 := bthen (al1 (w := w)) hb1)
    go_ret
    exact ⟨rfl, B1⟩

theorem own : ownKnob Try.prog.godebug = none := by kernel_rfl
theorem laidOut : laidOutB Try.prog = true := by kernel_rfl

set_option maxRecDepth 100000 in
theorem lifted (os : Os) (started : os.Started) (H : Type) (enc : TypeId × Value → H) :
    ReturnsInHanded {} Try.checked os 5 .any (Rows.fnExactIdleDeclarationsSpec.pre6 enc Try.prog Try.f5 Rows.fnExactIdleDeclarationsRow.domain false) (Rows.fnExactIdleDeclarationsSpec.post enc Try.prog Try.f5 false true false false) := by
  refine returnsInHanded_of_change (C := Try.checked) own started (by kernel_rfl) Try.func5
    (ChangeSpec.witness6 (enc := enc) (C := Try.checked) false ⟨#[], #[.agg #[.slice none 0 0]], []⟩ 8 (by kernel_rfl) (by kernel_rfl) (by kernel_rfl) (by kernel_rfl)) ?_
  intro W base args ds gs before hval0 hW hcnd _
  have hval : ∀ (j : Nat) t v, Try.f5.params[j]? = some t → args[j]? = some v → Value.okWide Try.prog W .any base t v := hval0
  have hW' := hW
  obtain ⟨p, q, hA0, hV, rfl, hfz, hnd⟩ := hW
  have hA : DataW.TrodAll enc Try.prog W 0 (fun _ => true) true Try.f5.params.toList args.toList ds p := hA0
  rw [Try.params5] at hA hval
  obtain ⟨v0, d0, rfl, rfl, h0⟩ := trodAll_one hA
  obtain ⟨rfl, rfl⟩ := trodVars_none hV
  clear hA0 hval0
  simp only [List.append_nil] at hW'
  have hlt : ∀ x ∈ p, x.block < W.heap.size := fun x hx => hW'.lt x hx
  obtain ⟨q0, hq0⟩ := open_oprog (hval 0 36 v0 rfl rfl) h0
  refine (walk v0 q0 W hq0).mono fun e W' ⟨he, hb⟩ => ?_
  subst he
  exact ⟨_, rfl, post_of_below (pa := _) (pv := []) hW' (fun _ _ _ => (trodAll_cons_mk (shut_bool Try.underlying4 _) trodAll_mk0)) (fun sp hsp => (trodAll_cons_mk (WideElems.Trod_stays laidOut (by kernel_rfl) (of_decide_eq_true (by kernel_rfl)) h0 (fun x hx => hb.same (hlt x (hx))) (fun x hx => hsp x (hx))) trodAll_mk0)) (fun _ _ => rfl) (by simp)
    hb (ok_one (by kernel_rfl) rfl (okWide_bool_mk Try.underlying4 _))⟩

theorem closed : joinedFacts Try.pinned.checked.prog 5 Try.f5 Rows.fnExactIdleDeclarationsSpec Rows.fnExactIdleDeclarationsRow = true := by
  show joinedFacts Try.prog 5 Try.f5 Rows.fnExactIdleDeclarationsSpec Rows.fnExactIdleDeclarationsRow = true
  unfold joinedFacts
  rw [may_enter, lifts_not, make_cut]
  kernel_rfl

theorem over : Rows.fnExactIdleDeclarationsRow.holds Try.pinned (OpenSpec.ofChange Rows.fnExactIdleDeclarationsSpec) :=
  OpenClaim.holds_of_wide 5 Try.f5 rfl rfl rfl rfl rfl rfl rfl ⟨rfl, rfl, rfl, rfl, rfl⟩ rfl rfl rfl rfl rfl (by kernel_rfl) Try.func5 closed
    (of_decide_eq_true (by kernel_rfl)) (by unfold Func.isWrapper; first | (rw [if_pos (by decide +kernel)]; kernel_rfl) | (rw [if_neg (by decide +kernel)]; exact ⟨rfl, rfl⟩))
    (fun os started H enc _ => lifted os started H enc)

theorem proved : Rows.FnExactIdleDeclarationsSaid := over
#print axioms proved
end Go.Proofs.Ytiemhadpepbcjaa.exactIdleDeclarations
