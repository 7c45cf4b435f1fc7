/-
  The law FnExactDropOp: for every input it answers true and leaves its argument as it was. Condition: the program's table of codes stands as its text lays it (the card ties that).
-/
import Derived.Test.YtpajkejdfalkiaaDoorEq
import Derived.Test.YtpajkejdfalkiaaDoorOpw
import Derived.Test.YtpajkejdfalkiaaDoorHeld
namespace Go.Proofs.YtpajkejdfalkiaaDoor.exactDropOp
open Go.ChangeShapes Go.WideShapes Go.ChangeAt Go.RowKit
set_option linter.unusedVariables false

set_option maxRecDepth 100000 in
set_option maxHeartbeats 2000000 in
theorem walk (v : Value) (p : Pr) (x1 : Int) (x2 : Int) (w : World) (hv : OProg w v p) (hT : ∀ i, i < 5 → w.cell? ⟨1, i, none⟩ = some (.int .i64 (codesL.getD i 0))) :
    Calls Tryd.prog 7 #[v, .int .i64 x1, .int .i64 x2] w fun e w' => e = .returned (.bool true) ∧ Below w.heap.size w w' := by
  obtain ⟨sl, rfl, hv'⟩ := hv
  obtain ⟨fo, ⟨A0, C0, _, _, rfl, _⟩, _⟩ := id hv'
  have HV := Lib.hid (show OProg w (.agg #[.slice A0 p.length C0]) p from ⟨_, rfl, hv'⟩)
  have HT := Lib.hid hT
  clear hv' hT
  by_cases hsz : (p.size : Int) ≤ 1048576
  · have e1 : left_ 1048576 p.size = 1048576 - p.size := by unfold left_; rw [if_pos hsz]
    have E1 := Lib.hid e1
    have hs2 : p.size ≤ 1048576 := by omega
    clear e1
    go_enter Tryd.func7, Tryd.ntmps7
    go_wp2_with fail
    refine (szProgram_any _ p 1048576 _ (HV.out.keep al1) (by omega) (by omega)).mono ?_
    rintro e w1 ⟨rfl, hb1⟩
    rw [E1.out]
    have B1 := bthen (al1 (w := w)) hb1
    have r1 : w1.cell? ⟨w.heap.size, 0, none⟩ = some (.slice A0 p.length C0) := cell_later hb1 (by simp [go_sem])
    clear hb1
    go_wp2_with fail
    refine (toProgram_any _ p _ (HV.out.keep B1) hs2).mono ?_
    rintro e w2 ⟨v2, rfl, hp2, hb2⟩
    have B2 := bthen B1 hb2
    have r2 := cell_later hb2 r1
    obtain ⟨sl2, rfl, hbl2⟩ := hp2
    clear r1 hb2
    go_wp2_with fail
    refine (S_DropOp _ p _ x1 x2 _ hbl2).mono ?_
    rintro e w3 ⟨rfl, hb3⟩
    have B3 := bthen B2 hb3
    have r3 := cell_later hb3 r2
    obtain ⟨OC, hOC⟩ : ∃ OC : Int, rOpC p x1 x2 2 = OC := ⟨_, rfl⟩
    obtain ⟨OA, hOA⟩ : ∃ OA : Int, rOpA p x1 x2 = OA := ⟨_, rfl⟩
    rw [hOC, hOA]
    have HOC := Lib.hid hOC
    have HOA := Lib.hid hOA
    have hz3 : w.heap.size < w3.heap.size := World.block_lt_of_cell? _ _ r3
    clear r2 hb3 hbl2 hOC hOA
    go_wp2_with fail
    obtain ⟨W3, hW3⟩ : ∃ W3 : World, W3 = w3.alloc (.cells #[.int .i64 OC, .int .i64 OA] 24) := ⟨_, rfl⟩
    have y3 : Below w3.heap.size w3 W3 := by rw [hW3]; exact al1
    obtain ⟨s0, s1⟩ := opArgs w3 OC OA
    rw [← hW3] at s0 s1
    rw [← hW3]
    have r3 := cell_later y3 r3
    have B3 := bthen B3 y3
    clear hW3 y3
    refine (toProgram_any _ p _ (HV.out.keep B3) hs2).mono ?_
    rintro e w4 ⟨v4, rfl, hp4, hb4⟩
    have B4 := bthen B3 hb4
    have r4 := cell_later hb4 r3
    have s0 := cell_later hb4 s0
    have s1 := cell_later hb4 s1
    have m3 := World.block_lt_of_cell? _ _ s0
    obtain ⟨sl4, rfl, hbl4⟩ := hp4
    obtain ⟨A4, C4, rfl⟩ := hbl4.form
    have m4 : w.heap.size < w4.heap.size := World.block_lt_of_cell? _ _ r4
    simp only at m3
    clear r3 hb4
    go_wp2_with fail
    refine (I_DropOp _ p _ x1 x2 _ (hbl4.keep al1) (fun i hi => cell_later (bal B4 _) (HT.out i hi))).mono ?_
    rintro e w5 ⟨rfl, hb5⟩
    rw [HOC.out, HOA.out]
    have B5 := bthen (bal B4 _) hb5
    have E5 := bthen (al1 (w := w4) (o := .cells #[.slice A4 p.length C4] 35)) hb5
    have r5 := cell_later E5 r4
    have s0 := cell_later E5 s0
    have s1 := cell_later E5 s1
    have q5 : w5.cell? ⟨w4.heap.size, 0, none⟩ = some (.slice A4 p.length C4) := cell_later hb5 (by simp [go_sem])
    have hbl5 := hbl4.keep E5
    have m5 := World.block_lt_of_cell? _ _ s0
    have m6 := World.block_lt_of_cell? _ _ q5
    have m7 : w.heap.size < w5.heap.size := World.block_lt_of_cell? _ _ r5
    simp only at m5 m6
    clear r4 hb5 hbl4 E5
    go_wp2_with fail
    obtain ⟨W5, hW5⟩ : ∃ W5 : World, W5 = w5.alloc (.cells #[.int .i64 OC, .int .i64 OA] 24) := ⟨_, rfl⟩
    have y5 : Below w5.heap.size w5 W5 := by rw [hW5]; exact al1
    rw [← hW5]
    have r5 := cell_later y5 r5
    have q5 := cell_later y5 q5
    have B5 := bthen B5 y5
    have hbl5 := hbl5.keep y5
    clear hW5 y5
    refine (eqOp_same OC OA _).mono ?_
    rintro e w6 ⟨rfl, hb6⟩
    have r5 := cell_later hb6 r5
    have q5 := cell_later hb6 q5
    have B5 := bthen B5 hb6
    have hbl5 := hbl5.keep hb6
    clear hb6 s0 s1
    have BD := B5.drew
    have rd : w6.drew.cell? ⟨w.heap.size, 0, none⟩ = some (.slice A0 p.length C0) := r5
    have qd : w6.drew.cell? ⟨w4.heap.size, 0, none⟩ = some (.slice A4 p.length C4) := q5
    have hbld : Blks w6.drew _ _ p := hbl5
    go_wp2
    go_region_held3 (fun w' => w'.cell? ⟨w4.heap.size, 0, none⟩ = some (.slice A4 p.length C4) ∧ w'.cell? ⟨w.heap.size, 0, none⟩ = some (.slice A0 p.length C0))
      (first
        | go_keep
        | exact ⟨cell_later hb7 (cell_later hb6 qd), cell_later hb7 (cell_later hb6 rd)⟩
        | exact ⟨cell_later hb6 qd, cell_later hb6 rd⟩)
      (first
        | (go_at_call 13
           refine (toProgram_any _ p _ (HV.out.keep BD) hs2).mono ?_
           rintro e w7 ⟨v6, rfl, hp6, hb6⟩
           have B6 := bthen BD hb6
           have hbl6 := hbld.keep hb6)
        | (go_at_call 16
           refine (eqProgram_any _ v6 p p _ _ _ ⟨_, rfl, hbl6⟩ hp6).mono ?_
           rintro e w8 ⟨rfl, hb7⟩
           have B7 := bthen B6 hb7))
    go_wp2
    go_ret
    exact ⟨rfl, B7⟩
  · have e1 : left_ 1048576 p.size = -1 := by unfold left_; rw [if_neg hsz]
    have E1 := Lib.hid e1
    clear e1
    go_enter Tryd.func7, Tryd.ntmps7
    go_wp2_with (go_at_call 11; refine (szProgram_any _ p 1048576 _ (HV.out.keep al1) (by omega) (by omega)).mono ?_; rintro e w1 ⟨rfl, hb1⟩; rw [E1.out]; have B1 := bthen (al1 (w := w)) hb1)
    go_ret
    exact ⟨rfl, B1⟩

theorem own : ownKnob Tryd.prog.godebug = none := by kernel_rfl
theorem laidOut : laidOutB Tryd.prog = true := by kernel_rfl
theorem rowLaid : Rows.fnExactDropOpRow.laid = [("loop.example/closurecells/impl.loadCodes", Rows.laid_loop_example_closurecells_impl_loadCodes)] := rfl
theorem gnum : Tryd.prog.globalNamed "loop.example/closurecells/impl.loadCodes" = some 1 := by kernel_rfl
theorem gtype : (Tryd.prog.globals[1]?).map (·.type) = some 105 := by kernel_rfl

theorem door_met (os : Os) (args : Array Value) : laidMetH Tryd.prog Rows.fnExactDropOpRow.laid ((World.doorLaid Tryd.prog 400 os).forCall (fun _ _ => 0) ⟨#[], args, []⟩).memory :=
  laidMetH_of_parts3 (fuel := 8) (laidMet_of_run' 8 (by kernel_rfl) (by kernel_rfl)) (by kernel_rfl) (by kernel_rfl)

set_option maxRecDepth 100000 in
theorem lifted (os : Os) (started : os.Started) (H : Type) (enc : TypeId × Value → H) :
    ReturnsInHanded {} Tryd.checked os 7 .any (fun w args => (Rows.fnExactDropOpSpec.pre enc Tryd.prog Tryd.f7 Rows.fnExactDropOpRow.domain false w args ∧ laidMetH Tryd.prog Rows.fnExactDropOpRow.laid w) ∧ sizedMet enc Tryd.prog Tryd.f7 (OpenSpec.ofChange Rows.fnExactDropOpSpec) false w args) (Rows.fnExactDropOpSpec.post enc Tryd.prog Tryd.f7 false true false false) := by
  refine returnsInHanded_of_change_and (C := Tryd.checked) (X := fun w _ => laidMetH Tryd.prog Rows.fnExactDropOpRow.laid w) (fun _ _ _ hh h => h.of_heap hh) own started (by kernel_rfl) Tryd.func7
    (ChangeSpec.witness_shaped (enc := enc) (C := Tryd.checked) (os := os) (X := fun w _ => laidMetH Tryd.prog Rows.fnExactDropOpRow.laid w) false (World.doorLaid Tryd.prog 400 os) #[.agg #[.slice none 0 0], .int .i64 0, .int .i64 0] 8 rfl (World.shaped_of_RefB (by kernel_rfl) (by kernel_rfl)) (by kernel_rfl) (by kernel_rfl) (by kernel_rfl) (door_met os _)) ?_
  intro W base args ds gs before hval0 hW _ _ hL _
  have hval : ∀ (j : Nat) t v, Tryd.f7.params[j]? = some t → args[j]? = some v → Value.okWide Tryd.prog W .any base t v := hval0
  have hW' := hW
  obtain ⟨p, q, hA0, hV, rfl, hfz, hnd⟩ := hW
  have hA : DataW.TrodAll enc Tryd.prog W 0 (fun _ => true) true Tryd.f7.params.toList args.toList ds p := hA0
  rw [Tryd.params7] at hA hval
  obtain ⟨v0, v1, v2, d0, d1, d2, p0, p1, p2, rfl, rfl, rfl, h0, h1, h2⟩ := trodAll_three hA
  obtain ⟨vg, vt, vcs, vfuel, vd, vp, rfl, hvg, hvt, hvv, hvd, rfl⟩ := trodVars_one hV
  obtain rfl := Option.some.inj (gnum.symm.trans hvg)
  obtain rfl := Option.some.inj (gtype.symm.trans hvt)
  clear hA0 hval0
  have hltv : ∀ x ∈ MemPlace.row ⟨1, 0, none⟩ vcs.size ++ vp, x.block < W.heap.size := fun x hx => hW'.lt x (List.mem_append.2 (.inr hx))
  have hlt : ∀ x ∈ p0 ++ p1 ++ p2, x.block < W.heap.size := fun x hx => hW'.lt x (List.mem_append.2 (.inl hx))
  obtain ⟨q0, hq0⟩ := open_oprog (hval 0 30 v0 rfl rfl) h0
  have h1k := h1
  obtain ⟨x1, rfl, rfl, rfl, w1⟩ := open_int Tryd.underlying3 (hval 1 3 v1 rfl rfl) h1
  have h2k := h2
  obtain ⟨x2, rfl, rfl, rfl, w2⟩ := open_int Tryd.underlying3 (hval 2 3 v2 rfl rfl) h2
  refine (walk v0 q0 x1 x2 W hq0 (of_codes hL)).mono fun e W' ⟨he, hb⟩ => ?_
  subst he
  have hgB : 1 < W.heap.size := by
    have hsz : 0 < vcs.size := by
      obtain ⟨_, _, _, _, hl, _, _⟩ := DataW.trod_array Tryd.underlying105 hvd
      have h3 : 0 < Tryd.prog.cellsOf 105 := by
        have e : Tryd.prog.cellsOf 105 = 5 := by kernel_rfl
        rw [e]; decide
      rw [← hl] at h3
      simpa using h3
    exact hltv (.cell 1 (0 + 0)) (List.mem_append.2 (.inl (MemPlace.mem_row.2 ⟨0, hsz, rfl⟩)))
  have hvars : ∀ sp : Nat → Bool, (∀ x ∈ MemPlace.row ⟨1, 0, none⟩ vcs.size ++ vp, sp x.block = true) → DataW.TrodVars enc Tryd.prog W' sp ["loop.example/closurecells/impl.loadCodes"] [vd] (MemPlace.row ⟨1, 0, none⟩ vcs.size ++ vp) := fun sp hsp => by
    have h2 : DataW.Trod enc Tryd.prog W 0 (fun _ => true) true 105 (.agg vcs) vd vp := ⟨vfuel, hvd⟩
    obtain ⟨f2, h3⟩ := WideElems.Trod_stays (W' := W') (sp' := sp) laidOut (by kernel_rfl) (of_decide_eq_true (by kernel_rfl)) h2 (fun x hx => hb.same (hltv x (List.mem_append.2 (.inr hx)))) (fun x hx => hsp x (List.mem_append.2 (.inr hx)))
    exact trodVars_mk1 hvg hvt (var?_below hb hvg hgB hvv) h3
  exact ⟨_, rfl, post_of_below (pa := _) (pv := _) hW' (fun _ _ _ => (trodAll_cons_mk (shut_bool Tryd.underlying4 _) trodAll_mk0)) (fun sp hsp => (trodAll_cons_mk (WideElems.Trod_stays laidOut (by kernel_rfl) (of_decide_eq_true (by kernel_rfl)) h0 (fun x hx => hb.same (hlt x (by simp [hx]))) (fun x hx => hsp x (by simp [hx]))) (trodAll_cons_mk (shut_int Tryd.underlying3 w1) (trodAll_cons_mk (shut_int Tryd.underlying3 w2) trodAll_mk0)))) (fun sp hsp => hvars sp (fun x hx => hsp x (List.mem_append.2 (.inr hx)))) (by simp)
    hb (ok_one (by kernel_rfl) rfl (okWide_bool_mk Tryd.underlying4 _))⟩

theorem over : Rows.FnExactDropOpSaid :=
  OpenClaim.holds_of_wide 7 Tryd.f7 rfl rfl rfl rfl rfl rfl rfl ⟨rfl, rfl, rfl, rfl, rfl⟩ rfl rfl rfl rfl rfl (by kernel_rfl) Tryd.func7 (by kernel_rfl)
    (of_decide_eq_true (by kernel_rfl)) (by unfold Func.isWrapper; first | (rw [if_pos (by decide +kernel)]; kernel_rfl) | (rw [if_neg (by decide +kernel)]; exact ⟨rfl, rfl⟩))
    (fun os started H enc _ => lifted os started H enc)

theorem proved : Rows.FnExactDropOpCardSaid :=
  Claim7.holds_tied_plain_at .later [] [.data] true Rows.fnExactDropOpCard.stood.harness true
    over (fun _ h => by cases h) (by kernel_rfl) (fun _ h => by cases h) fnExactDropOp_row_tie rfl ⟨rfl, rfl⟩ (by kernel_rfl) rfl
    (fun f fn hf hfn => by
      obtain rfl : f = 7 := Option.some.inj ((show Tryd.prog.funcNamed "loop.example/closurecells/laws.FnExactDropOp" = some 7 by kernel_rfl).symm.trans hf) |>.symm
      obtain rfl : fn = Tryd.f7 := (Option.some.inj (Tryd.func7.symm.trans hfn)).symm
      exact ⟨by kernel_rfl, fun j t ht => by
        rw [Tryd.params7] at ht
        have hm : t ∈ ([30, 3, 3] : List Nat) := by simpa using Array.mem_of_getElem? ht
        have hall : (([30, 3, 3] : List Nat).all fun u => !Tryd.prog.wantsStandIn u) = true := by kernel_rfl
        exact (show Tryd.prog.wantsStandIn t = false by simpa using List.all_eq_true.1 hall t hm)⟩)
    (by kernel_rfl)
#print axioms proved
end Go.Proofs.YtpajkejdfalkiaaDoor.exactDropOp
