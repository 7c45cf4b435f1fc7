/-
  The law FnExactSharesCell: for every input it answers true and leaves its argument as it was. No condition.
-/
import Derived.Test.YtglppcgaebpiaaaFrame
import Derived.Test.YtglppcgaebpiaaaFacts
import Derived.Test.YtglppcgaebpiaaaEq
import Derived.Test.YtglppcgaebpiaaaImpl16
import Derived.Test.YtglppcgaebpiaaaHeld
namespace Go.Proofs.Ytglppcgaebpiaaa.exactSharesCell
open Go.ChangeShapes Go.WideShapes Go.ChangeAt Go.RowKit
set_option linter.unusedVariables false

set_option maxRecDepth 100000 in
set_option maxHeartbeats 2000000 in
theorem walk (v : Value) (p : Pr) (x1 : Int) (x2 : Int) (x3 : Int) (w : World) (hv : OProg w v p) :
    Calls Try.prog 18 #[v, .int .i64 x1, .int .i64 x2, .int .i64 x3] w fun e w' => e = .returned (.bool true) ∧ Below w.heap.size w w' := by
  obtain ⟨sl, rfl, hv'⟩ := hv
  obtain ⟨fo, ⟨A0, C0, _, _, rfl, _⟩, _⟩ := id hv'
  have HV := Lib.hid (show OProg w (.agg #[.slice A0 p.length C0]) p from ⟨_, rfl, hv'⟩)
  clear hv'
  by_cases hsz : (p.size : Int) ≤ 1048576
  · have e1 : left_ 1048576 p.size = 1048576 - p.size := by unfold left_; rw [if_pos hsz]
    have E1 := Lib.hid e1
    have hs2 : p.size ≤ 1048576 := by omega
    clear e1
    go_enter Try.func18, Try.ntmps18
    go_wp2_with fail
    refine (szProgram_any _ p 1048576 _ (HV.out.keep al1) (by omega) (by omega)).mono ?_
    rintro e w1 ⟨rfl, hb1⟩
    rw [E1.out]
    have B1 := bthen (al1 (w := w)) hb1
    have r1 : w1.cell? ⟨w.heap.size, 0, none⟩ = some (.slice A0 p.length C0) := cell_later hb1 (by simp [go_sem])
    clear hb1
    go_wp2_with fail
    refine (toProgram_any _ p _ (HV.out.keep B1) hs2).mono ?_
    rintro e w2 ⟨v2, rfl, hp2, hb2⟩
    have B2 := bthen B1 hb2
    have r2 := cell_later hb2 r1
    obtain ⟨sl2, rfl, hbl2⟩ := hp2
    clear r1 hb2
    go_wp2_with fail
    refine (S_SharesCell _ p _ x1 x2 x3 _ ⟨_, rfl, hbl2⟩).mono ?_
    rintro e w3 ⟨rfl, hb3⟩
    have B3 := bthen B2 hb3
    have r3 := cell_later hb3 r2
    clear r2 hb3 hbl2
    go_wp2_with fail
    refine (toProgram_any _ p _ (HV.out.keep B3) hs2).mono ?_
    rintro e w4 ⟨v4, rfl, hp4, hb4⟩
    have B4 := bthen B3 hb4
    have r4 := cell_later hb4 r3
    obtain ⟨sl4, rfl, hbl4⟩ := hp4
    obtain ⟨A4, C4, rfl⟩ := hbl4.form
    clear r3 hb4
    go_wp2_with fail
    refine (I_SharesCell _ p _ x1 x2 x3 _ ⟨_, rfl, hbl4.keep al1⟩).mono ?_
    rintro e w5 ⟨rfl, hb5⟩
    have B5 := bthen (bal B4 _) hb5
    have r5 : w5.cell? ⟨w.heap.size, 0, none⟩ = some (.slice A0 p.length C0) := cell_later hb5 (cell_later al1 r4)
    have q5 : w5.cell? ⟨w4.heap.size, 0, none⟩ = some (.slice A4 p.length C4) := cell_later hb5 (by simp [go_sem])
    have hbl5 := (hbl4.keep al1).keep hb5
    clear r4 hb5 hbl4
    have BD := B5.drew
    have rd : w5.drew.cell? ⟨w.heap.size, 0, none⟩ = some (.slice A0 p.length C0) := r5
    have qd : w5.drew.cell? ⟨w4.heap.size, 0, none⟩ = some (.slice A4 p.length C4) := q5
    have hbld : Blks w5.drew _ _ p := hbl5
    go_wp2
    go_region_held3 (fun w' => w'.cell? ⟨w4.heap.size, 0, none⟩ = some (.slice A4 p.length C4) ∧ w'.cell? ⟨w.heap.size, 0, none⟩ = some (.slice A0 p.length C0))
      (first
        | go_keep
        | exact ⟨cell_later hb7 (cell_later hb6 qd), cell_later hb7 (cell_later hb6 rd)⟩
        | exact ⟨cell_later hb6 qd, cell_later hb6 rd⟩)
      (first
        | (go_at_call 34
           refine (toProgram_any _ p _ (HV.out.keep BD) hs2).mono ?_
           rintro e w6 ⟨v6, rfl, hp6, hb6⟩
           have B6 := bthen BD hb6
           have hbl6 := hbld.keep hb6)
        | (go_at_call 36
           refine (eqProgram_any _ v6 p p _ _ _ ⟨_, rfl, hbl6⟩ hp6).mono ?_
           rintro e w7 ⟨rfl, hb7⟩
           have B7 := bthen B6 hb7))
    go_wp2
    go_ret
    exact ⟨rfl, B7⟩
  · have e1 : left_ 1048576 p.size = -1 := by unfold left_; rw [if_neg hsz]
    have E1 := Lib.hid e1
    clear e1
    go_enter Try.func18, Try.ntmps18
    go_wp2_with (go_at_call 32; refine (szProgram_any _ p 1048576 _ (HV.out.keep al1) (by omega) (by omega)).mono ?_; rintro e w1 ⟨rfl, hb1⟩; rw [E1.out]; have B1 := bthen (al1 (w := w)) hb1)
    go_ret
    exact ⟨rfl, B1⟩

theorem own : ownKnob Try.prog.godebug = none := by kernel_rfl
theorem laidOut : laidOutB Try.prog = true := by kernel_rfl

set_option maxRecDepth 100000 in
theorem lifted (os : Os) (started : os.Started) (H : Type) (enc : TypeId × Value → H) :
    ReturnsInHanded {} Try.checked os 18 .any (Rows.fnExactSharesCellSpec.pre6 enc Try.prog Try.f18 Rows.fnExactSharesCellRow.domain false) (Rows.fnExactSharesCellSpec.post enc Try.prog Try.f18 false true false false) := by
  refine returnsInHanded_of_change (C := Try.checked) own started (by kernel_rfl) Try.func18
    (ChangeSpec.witness6 (enc := enc) (C := Try.checked) false ⟨#[], #[.agg #[.slice none 0 0], .int .i64 0, .int .i64 0, .int .i64 0], []⟩ 8 (by kernel_rfl) (by kernel_rfl) (by kernel_rfl) (by kernel_rfl)) ?_
  intro W base args ds gs before hval0 hW hcnd _
  have hval : ∀ (j : Nat) t v, Try.f18.params[j]? = some t → args[j]? = some v → Value.okWide Try.prog W .any base t v := hval0
  have hW' := hW
  obtain ⟨p, q, hA0, hV, rfl, hfz, hnd⟩ := hW
  have hA : DataW.TrodAll enc Try.prog W 0 (fun _ => true) true Try.f18.params.toList args.toList ds p := hA0
  rw [Try.params18] at hA hval
  obtain ⟨v0, v1, v2, v3, d0, d1, d2, d3, p0, p1, p2, p3, rfl, rfl, rfl, h0, h1, h2, h3⟩ := trodAll_four hA
  obtain ⟨rfl, rfl⟩ := trodVars_none hV
  clear hA0 hval0
  simp only [List.append_nil] at hW'
  have hlt : ∀ x ∈ p0 ++ p1 ++ p2 ++ p3, x.block < W.heap.size := fun x hx => hW'.lt x hx
  obtain ⟨q0, hq0⟩ := open_oprog (hval 0 31 v0 rfl rfl) h0
  have h1k := h1
  obtain ⟨x1, rfl, rfl, rfl, w1⟩ := open_int Try.underlying3 (hval 1 3 v1 rfl rfl) h1
  have h2k := h2
  obtain ⟨x2, rfl, rfl, rfl, w2⟩ := open_int Try.underlying3 (hval 2 3 v2 rfl rfl) h2
  have h3k := h3
  obtain ⟨x3, rfl, rfl, rfl, w3⟩ := open_int Try.underlying3 (hval 3 3 v3 rfl rfl) h3
  refine (walk v0 q0 x1 x2 x3 W hq0).mono fun e W' ⟨he, hb⟩ => ?_
  subst he
  exact ⟨_, rfl, post_of_below (pa := _) (pv := []) hW' (fun _ _ _ => (trodAll_cons_mk (shut_bool Try.underlying4 _) trodAll_mk0)) (fun sp hsp => (trodAll_cons_mk (WideElems.Trod_stays laidOut (by kernel_rfl) (of_decide_eq_true (by kernel_rfl)) h0 (fun x hx => hb.same (hlt x (by simp [hx]))) (fun x hx => hsp x (by simp [hx]))) (trodAll_cons_mk (shut_int Try.underlying3 w1) (trodAll_cons_mk (shut_int Try.underlying3 w2) (trodAll_cons_mk (shut_int Try.underlying3 w3) trodAll_mk0))))) (fun _ _ => rfl) (by simp)
    hb (ok_one (by kernel_rfl) rfl (okWide_bool_mk Try.underlying4 _))⟩

theorem closed : joinedFacts Try.pinned.checked.prog 18 Try.f18 Rows.fnExactSharesCellSpec Rows.fnExactSharesCellRow = true := by
  show joinedFacts Try.prog 18 Try.f18 Rows.fnExactSharesCellSpec Rows.fnExactSharesCellRow = true
  unfold joinedFacts
  rw [may_enter, lifts_not, make_cut]
  kernel_rfl

theorem over : Rows.fnExactSharesCellRow.holds Try.pinned (OpenSpec.ofChange Rows.fnExactSharesCellSpec) :=
  OpenClaim.holds_of_wide 18 Try.f18 rfl rfl rfl rfl rfl rfl rfl ⟨rfl, rfl, rfl, rfl, rfl⟩ rfl rfl rfl rfl rfl (by kernel_rfl) Try.func18 closed
    (of_decide_eq_true (by kernel_rfl)) (by unfold Func.isWrapper; first | (rw [if_pos (by decide +kernel)]; kernel_rfl) | (rw [if_neg (by decide +kernel)]; exact ⟨rfl, rfl⟩))
    (fun os started H enc _ => lifted os started H enc)

theorem proved : Rows.FnExactSharesCellSaid := over
#print axioms proved
end Go.Proofs.Ytglppcgaebpiaaa.exactSharesCell
