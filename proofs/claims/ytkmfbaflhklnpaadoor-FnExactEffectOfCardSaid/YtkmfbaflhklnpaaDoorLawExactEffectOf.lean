/-
  The law FnExactEffectOf: for every input it answers true and leaves its argument as it was. Condition: the program's table of effects stands as its text lays it (the card ties that).
-/
import Derived.Test.YtkmfbaflhklnpaaDoorOpv
namespace Go.Proofs.YtkmfbaflhklnpaaDoor.exactEffectOf
open Go.ChangeShapes Go.WideShapes Go.ChangeAt Go.RowKit
set_option linter.unusedVariables false

set_option maxRecDepth 100000 in
theorem walk (v : Value) (a b : Int) (w : World) (hv : OOp v a b) (hT : ∀ i, i < 21 → w.cell? ⟨0, i, none⟩ = some (.int .i64 (effL.getD i 0))) :
    Calls Tryd.prog 3 #[v] w fun e w' => e = .returned (.bool true) ∧ Below w.heap.size w w' := by
  obtain rfl : v = .agg #[.int .i64 a, .int .i64 b] := hv
  obtain ⟨R, hR⟩ : ∃ R : Int, effF a b = R := ⟨_, rfl⟩
  have HR := Lib.hid hR
  have HT := Lib.hid hT
  clear hR hT
  have hne : (R != R) = false := by simp
  go_enter Tryd.func3, Tryd.ntmps3
  go_wp2_with fail
  refine (toOp_any a b _).mono ?_
  rintro e w1 ⟨rfl, h1⟩
  have c0 := cell_later h1 (opCell _ _ _ (Value.int .i64 a) 0 rfl)
  have c1 := cell_later h1 (opCell _ _ _ (Value.int .i64 b) 1 rfl)
  have hcur := bthen (al1 (w := w)) h1
  go_wp2_with fail
  refine (S_EffectOf a b _).mono ?_
  rintro e w2 ⟨rfl, h2⟩
  rw [HR.out]
  have d0 := cell_later h2 c0
  have d1 := cell_later h2 c1
  have hcur2 := bthen hcur h2
  clear c0 c1 h1 h2 hcur
  go_wp2_with fail
  refine (toOp_any a b _).mono ?_
  rintro e w3 ⟨rfl, h3⟩
  have hcur3 := bthen hcur2 h3
  clear hcur2 d0 d1 h3
  go_wp2_with fail
  refine (I_EffectOf a b _ (fun i hi => cell_later hcur3 (HT.out i hi))).mono ?_
  rintro e w4 ⟨rfl, h4⟩
  rw [HR.out]
  have hcur4 := bthen hcur3 h4
  clear hcur3 h4
  go_wp2
  go_ret
  exact ⟨rfl, hcur4⟩

theorem own : ownKnob Tryd.prog.godebug = none := by kernel_rfl
theorem laidOut : laidOutB Tryd.prog = true := by kernel_rfl
theorem rowLaid : Rows.fnExactEffectOfRow.laid = [("loop.example/closurecells/impl.effects", Rows.laid_loop_example_closurecells_impl_effects)] := rfl
theorem gnum : Tryd.prog.globalNamed "loop.example/closurecells/impl.effects" = some 0 := by kernel_rfl
theorem gtype : (Tryd.prog.globals[0]?).map (·.type) = some 49 := by kernel_rfl

theorem door_met (os : Os) (args : Array Value) : laidMetH Tryd.prog Rows.fnExactEffectOfRow.laid ((World.doorLaid Tryd.prog 400 os).forCall (fun _ _ => 0) ⟨#[], args, []⟩).memory :=
  laidMetH_of_parts3 (fuel := 8) (laidMet_of_run' 8 (by kernel_rfl) (by kernel_rfl)) (by kernel_rfl) (by kernel_rfl)

set_option maxRecDepth 100000 in
theorem lifted (os : Os) (started : os.Started) (H : Type) (enc : TypeId × Value → H) :
    ReturnsInHanded {} Tryd.checked os 3 .any (fun w args => (Rows.fnExactEffectOfSpec.pre enc Tryd.prog Tryd.f3 Rows.fnExactEffectOfRow.domain false w args ∧ laidMetH Tryd.prog Rows.fnExactEffectOfRow.laid w) ∧ sizedMet enc Tryd.prog Tryd.f3 (OpenSpec.ofChange Rows.fnExactEffectOfSpec) false w args) (Rows.fnExactEffectOfSpec.post enc Tryd.prog Tryd.f3 false true false false) := by
  refine returnsInHanded_of_change_and (C := Tryd.checked) (X := fun w _ => laidMetH Tryd.prog Rows.fnExactEffectOfRow.laid w) (fun _ _ _ hh h => h.of_heap hh) own started (by kernel_rfl) Tryd.func3
    (ChangeSpec.witness_shaped (enc := enc) (C := Tryd.checked) (os := os) (X := fun w _ => laidMetH Tryd.prog Rows.fnExactEffectOfRow.laid w) false (World.doorLaid Tryd.prog 400 os) #[.agg #[.int .i64 0, .int .i64 0]] 8 rfl (World.shaped_of_RefB (by kernel_rfl) (by kernel_rfl)) (by kernel_rfl) (by kernel_rfl) (by kernel_rfl) (door_met os _)) ?_
  intro W base args ds gs before hval0 hW _ _ hL _
  have hval : ∀ (j : Nat) t v, Tryd.f3.params[j]? = some t → args[j]? = some v → Value.okWide Tryd.prog W .any base t v := hval0
  have hW' := hW
  obtain ⟨p, q, hA0, hV, rfl, hfz, hnd⟩ := hW
  have hA : DataW.TrodAll enc Tryd.prog W 0 (fun _ => true) true Tryd.f3.params.toList args.toList ds p := hA0
  rw [Tryd.params3] at hA hval
  obtain ⟨v0, d0, rfl, rfl, h0⟩ := trodAll_one hA
  obtain ⟨vg, vt, vcs, vfuel, vd, vp, rfl, hvg, hvt, hvv, hvd, rfl⟩ := trodVars_one hV
  obtain rfl := Option.some.inj (gnum.symm.trans hvg)
  obtain rfl := Option.some.inj (gtype.symm.trans hvt)
  clear hA0 hval0
  have hltv : ∀ x ∈ MemPlace.row ⟨0, 0, none⟩ vcs.size ++ vp, x.block < W.heap.size := fun x hx => hW'.lt x (List.mem_append.2 (.inr hx))
  have hlt : ∀ x ∈ p, x.block < W.heap.size := fun x hx => hW'.lt x (List.mem_append.2 (.inl hx))
  obtain ⟨q0, r0, hq0⟩ := open_oop (hval 0 23 v0 rfl rfl) h0
  refine (walk v0 q0 r0 W hq0 (of_effects hL)).mono fun e W' ⟨he, hb⟩ => ?_
  subst he
  have hgB : 0 < W.heap.size := by
    have hsz : 0 < vcs.size := by
      obtain ⟨_, _, _, _, hl, _, _⟩ := DataW.trod_array Tryd.underlying49 hvd
      have h3 : 0 < Tryd.prog.cellsOf 49 := by
        have e : Tryd.prog.cellsOf 49 = 21 := by kernel_rfl
        rw [e]; decide
      rw [← hl] at h3
      simpa using h3
    exact hltv (.cell 0 (0 + 0)) (List.mem_append.2 (.inl (MemPlace.mem_row.2 ⟨0, hsz, rfl⟩)))
  have hvars : ∀ sp : Nat → Bool, (∀ x ∈ p ++ (MemPlace.row ⟨0, 0, none⟩ vcs.size ++ vp), sp x.block = true) → DataW.TrodVars enc Tryd.prog W' sp ["loop.example/closurecells/impl.effects"] [vd] (MemPlace.row ⟨0, 0, none⟩ vcs.size ++ vp) := fun sp hsp => by
    have h2 : DataW.Trod enc Tryd.prog W 0 (fun _ => true) true 49 (.agg vcs) vd vp := ⟨vfuel, hvd⟩
    obtain ⟨f2, h3⟩ := WideElems.Trod_stays (W' := W') (sp' := sp) laidOut (by kernel_rfl) (of_decide_eq_true (by kernel_rfl)) h2 (fun x hx => hb.same (hltv x (List.mem_append.2 (.inr hx)))) (fun x hx => hsp x (List.mem_append.2 (.inr (List.mem_append.2 (.inr hx)))))
    exact trodVars_mk1 hvg hvt (var?_below hb hvg hgB hvv) h3
  exact ⟨_, rfl, post_of_below (pa := _) (pv := _) hW' (fun _ _ _ => (trodAll_cons_mk (shut_bool Tryd.underlying4 _) trodAll_mk0)) (fun sp hsp => (trodAll_cons_mk (WideElems.Trod_stays laidOut (by kernel_rfl) (of_decide_eq_true (by kernel_rfl)) h0 (fun x hx => hb.same (hlt x (hx))) (fun x hx => hsp x (List.mem_append.2 (.inl hx)))) trodAll_mk0)) (fun sp hsp => hvars sp hsp) (by simp)
    hb (ok_one (by kernel_rfl) rfl (okWide_bool_mk Tryd.underlying4 _))⟩

theorem over : Rows.FnExactEffectOfSaid :=
  OpenClaim.holds_of_wide 3 Tryd.f3 rfl rfl rfl rfl rfl rfl rfl ⟨rfl, rfl, rfl, rfl, rfl⟩ rfl rfl rfl rfl rfl (by kernel_rfl) Tryd.func3 (by kernel_rfl)
    (of_decide_eq_true (by kernel_rfl)) (by unfold Func.isWrapper; first | (rw [if_pos (by decide +kernel)]; kernel_rfl) | (rw [if_neg (by decide +kernel)]; exact ⟨rfl, rfl⟩))
    (fun os started H enc _ => lifted os started H enc)

theorem proved : Rows.FnExactEffectOfCardSaid :=
  Claim7.holds_tied_plain_at .later [] [.data] true Rows.fnExactEffectOfCard.stood.harness true
    over (fun _ h => by cases h) (by kernel_rfl) (fun _ h => by cases h) fnExactEffectOf_row_tie rfl ⟨rfl, rfl⟩ (by kernel_rfl) rfl
    (fun f fn hf hfn => by
      obtain rfl : f = 3 := Option.some.inj ((show Tryd.prog.funcNamed "loop.example/closurecells/laws.FnExactEffectOf" = some 3 by kernel_rfl).symm.trans hf) |>.symm
      obtain rfl : fn = Tryd.f3 := (Option.some.inj (Tryd.func3.symm.trans hfn)).symm
      exact ⟨by kernel_rfl, fun j t ht => by
        rw [Tryd.params3] at ht
        have hm : t ∈ ([23] : List Nat) := by simpa using Array.mem_of_getElem? ht
        have hall : (([23] : List Nat).all fun u => !Tryd.prog.wantsStandIn u) = true := by kernel_rfl
        exact (show Tryd.prog.wantsStandIn t = false by simpa using List.all_eq_true.1 hall t hm)⟩)
    (by kernel_rfl)
#print axioms proved
end Go.Proofs.YtkmfbaflhklnpaaDoor.exactEffectOf
