/-
  The law FnEffectOf: for every input it answers true and leaves its argument as it was. Condition: the program's table of effects stands as its text lays it (the card ties that).
-/
import Derived.Test.YtpajkejdfalkiaaDoorDrawE
namespace Go.Proofs.YtpajkejdfalkiaaDoor.effectOf
open Go.ChangeShapes Go.WideShapes Go.ChangeAt Go.RowKit
set_option linter.unusedVariables false

set_option maxRecDepth 100000 in
set_option maxHeartbeats 2000000 in
theorem walk (v : Value) (l : List Int) (w : World) (hv : OBytes w v l) (hT : ∀ i, i < 21 → w.cell? ⟨0, i, none⟩ = some (.int .i64 (effL.getD i 0))) :
    Calls Tryd.prog 3 #[v] w fun e w' => e = .returned (.bool true) ∧ Below w.heap.size w w' := by
  have HV := Lib.hid hv
  have HT := Lib.hid hT
  clear hT
  obtain ⟨⟨A, C, b, o, rfl, hn, hc, _, _⟩, _⟩ := hv
  unfold maxLen at hc
  by_cases hbig : 1048576 < l.length
  · go_enter Tryd.func3, Tryd.ntmps3
    go_wp2
    go_ret
    exact ⟨rfl, Below.refl _ _⟩
  have hl : l.length ≤ 1048576 := by omega
  go_enter Tryd.func3, Tryd.ntmps3
  go_wp2_with fail
  refine (S_DrawEffectOf _ l _ HV.out hl).mono ?_
  rintro e w1 ⟨K, N, rfl, hN, hb1⟩
  obtain ⟨R, hR⟩ : ∃ R : Int, R = effF K N := ⟨_, rfl⟩
  have k0 : (w1.alloc (.cells #[.int .i64 K, .int .i64 N] 24)).cell? ⟨w1.heap.size, 0, none⟩ = some (.int .i64 K) := by simp [go_sem]
  have k1 : (w1.alloc (.cells #[.int .i64 K, .int .i64 N] 24)).cell? ⟨w1.heap.size, 1, none⟩ = some (.int .i64 N) := by simp [go_sem]
  have HR := Lib.hid hR
  clear hR
  go_wp2_with fail
  refine (I_EffectOf K N _ (fun i hi => cell_later (bal hb1 _) (HT.out i hi))).mono ?_
  rintro e w2 ⟨rfl, hb2⟩
  rw [← HR.out]
  have hcur := bthen (bal hb1 _) hb2
  have k0 := cell_later hb2 k0
  have k1 := cell_later hb2 k1
  clear hb2
  have hne : (R != R) = false := by simp
  go_wp2_with fail
  refine (S_EffectOf K N _).mono ?_
  rintro e w3 ⟨rfl, hb3⟩
  rw [← HR.out]
  have hcur := bthen hcur hb3
  have k0 := cell_later hb3 k0
  have k1 := cell_later hb3 k1
  clear hb3
  have hR := HR.out
  by_cases h17 : K = 17
  · subst h17
    have e1 : effF 17 N = -N := by unfold effF; rw [if_pos rfl]; exact neg64_small N hN
    rw [e1] at hR
    clear HR e1
    rcases hN with rfl | rfl | rfl
    all_goals
      subst hR
      go_wp2
      go_ret
      exact ⟨rfl, hcur⟩
  · have b1 : (K == 17) = false := by simp [h17]
    have b2 : (K != 17) = true := by simp [h17]
    have hs := effF_small K N h17
    rw [← hR] at hs
    clear hR HR h17
    rcases hs with rfl | rfl | rfl
    all_goals
      go_wp2
      go_ret
      exact ⟨rfl, hcur⟩

theorem own : ownKnob Tryd.prog.godebug = none := by kernel_rfl
theorem laidOut : laidOutB Tryd.prog = true := by kernel_rfl
theorem rowLaid : Rows.fnEffectOfRow.laid = [("loop.example/closurecells/impl.effects", Rows.laid_loop_example_closurecells_impl_effects)] := rfl
theorem gnum : Tryd.prog.globalNamed "loop.example/closurecells/impl.effects" = some 0 := by kernel_rfl
theorem gtype : (Tryd.prog.globals[0]?).map (·.type) = some 51 := by kernel_rfl

theorem door_met (os : Os) (args : Array Value) : laidMetH Tryd.prog Rows.fnEffectOfRow.laid ((World.doorLaid Tryd.prog 400 os).forCall (fun _ _ => 0) ⟨#[], args, []⟩).memory :=
  laidMetH_of_parts3 (fuel := 8) (laidMet_of_run' 8 (by kernel_rfl) (by kernel_rfl)) (by kernel_rfl) (by kernel_rfl)

set_option maxRecDepth 100000 in
theorem lifted (os : Os) (started : os.Started) (H : Type) (enc : TypeId × Value → H) :
    ReturnsInHanded {} Tryd.checked os 3 .any (fun w args => (Rows.fnEffectOfSpec.pre enc Tryd.prog Tryd.f3 Rows.fnEffectOfRow.domain false w args ∧ laidMetH Tryd.prog Rows.fnEffectOfRow.laid w) ∧ sizedMet enc Tryd.prog Tryd.f3 (OpenSpec.ofChange Rows.fnEffectOfSpec) false w args) (Rows.fnEffectOfSpec.post enc Tryd.prog Tryd.f3 false true false false) := by
  refine returnsInHanded_of_change_and (C := Tryd.checked) (X := fun w _ => laidMetH Tryd.prog Rows.fnEffectOfRow.laid w) (fun _ _ _ hh h => h.of_heap hh) own started (by kernel_rfl) Tryd.func3
    (ChangeSpec.witness_shaped (enc := enc) (C := Tryd.checked) (os := os) (X := fun w _ => laidMetH Tryd.prog Rows.fnEffectOfRow.laid w) false (World.doorLaid Tryd.prog 400 os) #[.slice none 0 0] 8 rfl (World.shaped_of_RefB (by kernel_rfl) (by kernel_rfl)) (by kernel_rfl) (by kernel_rfl) (by kernel_rfl) (door_met os _)) ?_
  intro W base args ds gs before hval0 hW _ _ hL _
  have hval : ∀ (j : Nat) t v, Tryd.f3.params[j]? = some t → args[j]? = some v → Value.okWide Tryd.prog W .any base t v := hval0
  have hW' := hW
  obtain ⟨p, q, hA0, hV, rfl, hfz, hnd⟩ := hW
  have hA : DataW.TrodAll enc Tryd.prog W 0 (fun _ => true) true Tryd.f3.params.toList args.toList ds p := hA0
  rw [Tryd.params3] at hA hval
  obtain ⟨v0, d0, rfl, rfl, h0⟩ := trodAll_one hA
  obtain ⟨vg, vt, vcs, vfuel, vd, vp, rfl, hvg, hvt, hvv, hvd, rfl⟩ := trodVars_one hV
  obtain rfl := Option.some.inj (gnum.symm.trans hvg)
  obtain rfl := Option.some.inj (gtype.symm.trans hvt)
  clear hA0 hval0
  have hltv : ∀ x ∈ MemPlace.row ⟨0, 0, none⟩ vcs.size ++ vp, x.block < W.heap.size := fun x hx => hW'.lt x (List.mem_append.2 (.inr hx))
  have hlt : ∀ x ∈ p, x.block < W.heap.size := fun x hx => hW'.lt x (List.mem_append.2 (.inl hx))
  obtain ⟨q0, hq0⟩ := open_obytes (hval 0 22 v0 rfl rfl) h0
  refine (walk v0 q0 W hq0 (of_effects hL)).mono fun e W' ⟨he, hb⟩ => ?_
  subst he
  have hgB : 0 < W.heap.size := by
    have hsz : 0 < vcs.size := by
      obtain ⟨_, _, _, _, hl, _, _⟩ := DataW.trod_array Tryd.underlying51 hvd
      have h3 : 0 < Tryd.prog.cellsOf 51 := by
        have e : Tryd.prog.cellsOf 51 = 21 := by kernel_rfl
        rw [e]; decide
      rw [← hl] at h3
      simpa using h3
    exact hltv (.cell 0 (0 + 0)) (List.mem_append.2 (.inl (MemPlace.mem_row.2 ⟨0, hsz, rfl⟩)))
  have hvars : ∀ sp : Nat → Bool, (∀ x ∈ p ++ (MemPlace.row ⟨0, 0, none⟩ vcs.size ++ vp), sp x.block = true) → DataW.TrodVars enc Tryd.prog W' sp ["loop.example/closurecells/impl.effects"] [vd] (MemPlace.row ⟨0, 0, none⟩ vcs.size ++ vp) := fun sp hsp => by
    have h2 : DataW.Trod enc Tryd.prog W 0 (fun _ => true) true 51 (.agg vcs) vd vp := ⟨vfuel, hvd⟩
    obtain ⟨f2, h3⟩ := WideElems.Trod_stays (W' := W') (sp' := sp) laidOut (by kernel_rfl) (of_decide_eq_true (by kernel_rfl)) h2 (fun x hx => hb.same (hltv x (List.mem_append.2 (.inr hx)))) (fun x hx => hsp x (List.mem_append.2 (.inr (List.mem_append.2 (.inr hx)))))
    exact trodVars_mk1 hvg hvt (var?_below hb hvg hgB hvv) h3
  exact ⟨_, rfl, post_of_below (pa := _) (pv := _) hW' (fun _ _ _ => (trodAll_cons_mk (shut_bool Tryd.underlying4 _) trodAll_mk0)) (fun sp hsp => (trodAll_cons_mk (WideElems.Trod_stays laidOut (by kernel_rfl) (of_decide_eq_true (by kernel_rfl)) h0 (fun x hx => hb.same (hlt x (hx))) (fun x hx => hsp x (List.mem_append.2 (.inl hx)))) trodAll_mk0)) (fun sp hsp => hvars sp hsp) (by simp)
    hb (ok_one (by kernel_rfl) rfl (okWide_bool_mk Tryd.underlying4 _))⟩

theorem over : Rows.FnEffectOfSaid :=
  OpenClaim.holds_of_wide 3 Tryd.f3 rfl rfl rfl rfl rfl rfl rfl ⟨rfl, rfl, rfl, rfl, rfl⟩ rfl rfl rfl rfl rfl (by kernel_rfl) Tryd.func3 (by kernel_rfl)
    (of_decide_eq_true (by kernel_rfl)) (by unfold Func.isWrapper; first | (rw [if_pos (by decide +kernel)]; kernel_rfl) | (rw [if_neg (by decide +kernel)]; exact ⟨rfl, rfl⟩))
    (fun os started H enc _ => lifted os started H enc)

theorem proved : Rows.FnEffectOfCardSaid :=
  Claim7.holds_tied_plain_at .later [] [.data] true Rows.fnEffectOfCard.stood.harness true
    over (fun _ h => by cases h) (by kernel_rfl) (fun _ h => by cases h) fnEffectOf_row_tie rfl ⟨rfl, rfl⟩ (by kernel_rfl) rfl
    (fun f fn hf hfn => by
      obtain rfl : f = 3 := Option.some.inj ((show Tryd.prog.funcNamed "loop.example/closurecells/laws.FnEffectOf" = some 3 by kernel_rfl).symm.trans hf) |>.symm
      obtain rfl : fn = Tryd.f3 := (Option.some.inj (Tryd.func3.symm.trans hfn)).symm
      exact ⟨by kernel_rfl, fun j t ht => by
        rw [Tryd.params3] at ht
        have hm : t ∈ ([22] : List Nat) := by simpa using Array.mem_of_getElem? ht
        have hall : (([22] : List Nat).all fun u => !Tryd.prog.wantsStandIn u) = true := by kernel_rfl
        exact (show Tryd.prog.wantsStandIn t = false by simpa using List.all_eq_true.1 hall t hm)⟩)
    (by kernel_rfl)
#print axioms proved
end Go.Proofs.YtpajkejdfalkiaaDoor.effectOf
