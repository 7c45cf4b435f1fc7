/-
  The law FnExactReadCode: for every input it answers true and leaves its argument as it was. Condition: the table of words stands as its text lays it (the card ties that).
-/
import Derived.Test.YtpajkejdfalkiaaDoorRcW
import Derived.Test.YtpajkejdfalkiaaDoorFrame
import Derived.Test.YtpajkejdfalkiaaDoorTie
import Derived.Test.YtpajkejdfalkiaaDoorCards
import Derived.LaidMore
import Derived.Lay
import Derived.OpenShut
import Derived.ChangeVars
import Derived.WalkSmall
import Derived.Handed
import Derived.ChangeMaps5
import Derived.ShutString
namespace Go.Proofs.YtpajkejdfalkiaaDoor.exactReadCode
open Go.ChangeShapes Go.WideShapes Go.ChangeAt Go.RowKit
set_option linter.unusedVariables false

/-- The cells of an array of strings that reads as a list. -/
theorem arr_strs {t : TypeId} {n : Nat} {W : World} {g : Nat} {nm : String} {cs : Array Value} {fuel : Nat} {ps : List MemPlace} {l : List (List UInt8)} {enc : TypeId × Value → Unit} {sp : Nat → Bool} {hd : Bool} (ht : Tryd.prog.underlying t = some (.array n 9)) (hn : l.length = n)
    (hg : Tryd.prog.globalNamed nm = some g) (hv : W.var? Tryd.prog nm = some cs) (h : DataW.trod enc Tryd.prog W 0 sp hd fuel t cs.toList = some (.agg (l.map fun b => .lit (.string b)), ps)) :
    ∀ i, i < n → W.cell? ⟨g, i, none⟩ = some (.string ⟨(l.getD i []).toArray⟩) := by
  obtain ⟨xs, m1, rfl, hx1, hlen, hn3, hel⟩ := DataW.trod_array ht h
  have c3 : Tryd.prog.cellsOf 9 = 1 := by kernel_rfl
  simp only [Prod.mk.injEq, DataW.agg.injEq] at hx1
  intro i hi
  have h0 := hel i hi
  rw [c3, Nat.mul_one] at h0
  have h1 := congrArg (fun l => l[i]?) hx1.1
  simp only [List.getElem?_map] at h1
  have hl : l[i]? = some (l.getD i []) := by simp [List.getD, show i < l.length by omega]
  rw [hl] at h1
  rcases hx : xs[i]? with _ | x
  · rw [hx] at h1; simp at h1
  · rw [hx] at h0 h1
    obtain ⟨k, e1, e2, _⟩ := DataW.trod_string Tryd.underlying9 h0
    rw [e2] at h1
    simp only [Option.map_some, Option.some.injEq, DataW.lit.injEq, Lit.string.injEq] at h1
    rw [World.var?_cell hg hv i, h1, mk_data]
    have := congrArg (fun l => l[0]?) e1
    simpa using this
def wordsL : List (List UInt8) := (List.range 21).map fun k => (opWd k).data.toList
theorem laid_words : (Rows.laid_loop_example_closurecells_impl_opWords : DataW Unit) = .agg (wordsL.map fun b => .lit (.string b)) := by rfl
theorem of_words {W : World} (h : laidMetH Tryd.prog Rows.fnExactReadCodeRow.laid W) : ∀ k, k < 21 → W.cell? ⟨2, k, none⟩ = some (.string (opWd k)) := by
  rw [MakeChecks.laidMetH_plain _ _ _ (by kernel_rfl)] at h
  obtain ⟨ps, ⟨g0, t0, cs0, f0, p0, q0, hg0, ht0, hv0, hd0, ⟨g1, t1, cs1, f1, p1, q1, hg1, ht1, hv1, hd1, _, _⟩, _⟩, _, _⟩ := h
  obtain rfl := Option.some.inj ((show Tryd.prog.globalNamed "loop.example/closurecells/impl.opWords" = some 2 by kernel_rfl).symm.trans hg1)
  obtain rfl := Option.some.inj ((show (Tryd.prog.globals[2]?).map (·.type) = some 112 by kernel_rfl).symm.trans ht1)
  rw [laid_words] at hd1
  intro k hk
  have := arr_strs Tryd.underlying112 rfl hg1 hv1 hd1 k hk
  have e : (wordsL.getD k []) = (opWd k).data.toList := by
    unfold wordsL
    simp [List.getD, hk]
  rw [this, e, mk_data]

theorem own : ownKnob Tryd.prog.godebug = none := by kernel_rfl
theorem laidOut : laidOutB Tryd.prog = true := by kernel_rfl
theorem gnum : Tryd.prog.globalNamed "loop.example/closurecells/impl.opWords" = some 2 := by kernel_rfl
theorem gtype : (Tryd.prog.globals[2]?).map (·.type) = some 112 := by kernel_rfl
theorem maxLen_cell {W : World} (h : W.ShapedOpen Tryd.prog) : ∃ m, W.cell? ⟨3, 0, none⟩ = some (.int .i64 m) :=
  Go.Proofs.cell_of_shapedOpen_int (zero := #[.int .i64 0]) (t := 3) h (of_decide_eq_true (by kernel_rfl)) (by kernel_rfl) rfl (by kernel_rfl) (by kernel_rfl) Tryd.underlying3

/-- A contract under a condition of the caller's choice, the world's shape at hand. -/
theorem handed_shaped {H : Type} {enc : TypeId × Value → H} {a : Assume} {C : Checked} {os : Os} {f : FuncId} {fn : Func} {s : ChangeSpec} {conds : List PathCond} {apart fresh handsOn again : Bool} {X : World → Array Value → Prop}
    (hX : ∀ (w w' : World) (args : Array Value), w.heap = w'.heap → X w args → X w' args)
    (own : ownKnob C.prog.godebug = none) (started : os.Started) (noInit : C.prog.inits.idxOf? f = none) (hfn : C.prog.funcs[f]? = some fn)
    (witness : ∃ (w : World) (tape : Tape) (i : Input), w.os = os ∧ (w.forCall tape i).Shaped C.prog ∧ i.vars = [] ∧ Input.okWide C.prog (w.forCall tape i) .any w.heap.size f i ∧
      ((s.pre enc C.prog fn conds apart (w.forCall tape i).memory i.args ∧ X (w.forCall tape i).memory i.args) ∧ sizedMet enc C.prog fn (OpenSpec.ofChange s) apart (w.forCall tape i).memory i.args) ∧ a.holds C.prog (lone (Frame.enter C.prog f i.args .normal) [] (w.forCall tape i)))
    (contract : ∀ (W : World) (base : Nat) (args : Array Value) (ds gs : List (DataW H)) (before : List MemPlace),
      (∀ (j : Nat) t v, fn.params[j]? = some t → args[j]? = some v → Value.okWide C.prog W .any base t v) →
      DataW.Whole enc C.prog fn.params.toList s.vars apart W args.toList ds gs before → X W args → W.ShapedOpen C.prog →
      Calls C.prog f args W fun e W' => ∃ v, e = .returned v ∧ s.post enc C.prog fn apart fresh handsOn again W args v W') :
    ReturnsInHanded a C os f .any (fun w args => (s.pre enc C.prog fn conds apart w args ∧ X w args) ∧ sizedMet enc C.prog fn (OpenSpec.ofChange s) apart w args) (s.post enc C.prog fn apart fresh handsOn again) := by
  refine returnsInHanded_of_calls own started noInit witness ?_
  intro w tape i _ hsh _ hok hpre _
  obtain ⟨_, _, _, fn', hfn', _, _, _, _, hval⟩ := hok
  obtain rfl : fn' = fn := Option.some.inj (hfn'.symm.trans hfn)
  obtain ⟨⟨⟨ds, gs, before, hw, _⟩, hx⟩, _⟩ := hpre
  refine (contract (w.forCall tape i) w.heap.size i.args ds gs before hval (DataW.Whole.of_heap (w' := w.forCall tape i) (by rfl) hw) (hX _ _ _ (by rfl) hx) hsh).mono fun e W' ⟨v, he, hp⟩ => ?_
  subst he
  exact ChangeSpec.post_blind hp

set_option maxRecDepth 100000 in
theorem lifted (os : Os) (started : os.Started) (H : Type) (enc : TypeId × Value → H) :
    ReturnsInHanded {} Tryd.checked os 5 .any (fun w args => (Rows.fnExactReadCodeSpec.pre enc Tryd.prog Tryd.f5 Rows.fnExactReadCodeRow.domain false w args ∧ laidMetH Tryd.prog Rows.fnExactReadCodeRow.laid w) ∧ sizedMet enc Tryd.prog Tryd.f5 (OpenSpec.ofChange Rows.fnExactReadCodeSpec) false w args) (Rows.fnExactReadCodeSpec.post enc Tryd.prog Tryd.f5 false true false false) := by
  refine handed_shaped (C := Tryd.checked) (X := fun w _ => laidMetH Tryd.prog Rows.fnExactReadCodeRow.laid w) (fun _ _ _ hh h => h.of_heap hh) own started (by kernel_rfl) Tryd.func5
    (ChangeSpec.witness_shaped (enc := enc) (C := Tryd.checked) (os := os) (X := fun w _ => laidMetH Tryd.prog Rows.fnExactReadCodeRow.laid w) false (World.laidAll Tryd.prog os Rows.fnExactReadCodeRow.laid) #[.string ByteArray.empty] 8 (World.laidAll_os _ _ _) (World.shaped_of_ZipB (by kernel_rfl) (by kernel_rfl)) (by kernel_rfl) (by kernel_rfl) (by kernel_rfl)
      (by rw [MakeChecks.laidMetH_plain _ _ _ (by kernel_rfl)]; exact laidMet_laidAll _ (by kernel_rfl) (by kernel_rfl))) ?_
  intro W base args ds gs before hval0 hW hL hsh
  have hval : ∀ (j : Nat) t v, Tryd.f5.params[j]? = some t → args[j]? = some v → Value.okWide Tryd.prog W .any base t v := hval0
  have hW' := hW
  obtain ⟨p, q, hA0, hV, rfl, hfz, hnd⟩ := hW
  have hA : DataW.TrodAll enc Tryd.prog W 0 (fun _ => true) true Tryd.f5.params.toList args.toList ds p := hA0
  rw [Tryd.params5] at hA hval
  obtain ⟨v0, d0, rfl, rfl, h0⟩ := trodAll_one hA
  obtain ⟨vg, vt, vcs, vfuel, vd, vp, rfl, hvg, hvt, hvv, hvd, rfl⟩ := trodVars_one hV
  obtain rfl := Option.some.inj (gnum.symm.trans hvg)
  obtain rfl := Option.some.inj (gtype.symm.trans hvt)
  clear hA0 hval0
  have hltv : ∀ x ∈ MemPlace.row ⟨2, 0, none⟩ vcs.size ++ vp, x.block < W.heap.size := fun x hx => hW'.lt x (List.mem_append.2 (.inr hx))
  have hlt : ∀ x ∈ p, x.block < W.heap.size := fun x hx => hW'.lt x (List.mem_append.2 (.inl hx))
  obtain ⟨s, rfl⟩ := okWide_string Tryd.underlying9 (hval 0 9 v0 rfl rfl)
  obtain ⟨m, hm⟩ := maxLen_cell hsh
  refine (walk s m W (of_words hL) hm).mono fun e W' ⟨he, hb⟩ => ?_
  subst he
  have hgB : 2 < W.heap.size := World.block_lt_of_cell? _ _ (of_words hL 0 (by omega))
  have hvars : ∀ sp : Nat → Bool, (∀ x ∈ MemPlace.row ⟨2, 0, none⟩ vcs.size ++ vp, sp x.block = true) → DataW.TrodVars enc Tryd.prog W' sp ["loop.example/closurecells/impl.opWords"] [vd] (MemPlace.row ⟨2, 0, none⟩ vcs.size ++ vp) := fun sp hsp => by
    have h2 : DataW.Trod enc Tryd.prog W 0 (fun _ => true) true 112 (.agg vcs) vd vp := ⟨vfuel, hvd⟩
    obtain ⟨f2, h3⟩ := WideElems.Trod_stays (W' := W') (sp' := sp) laidOut (by kernel_rfl) (of_decide_eq_true (by kernel_rfl)) h2 (fun x hx => hb.same (hltv x (List.mem_append.2 (.inr hx)))) (fun x hx => hsp x (List.mem_append.2 (.inr hx)))
    exact trodVars_mk1 hvg hvt (var?_below hb hvg hgB hvv) h3
  exact ⟨_, rfl, post_of_below (pa := _) (pv := _) hW' (fun _ _ _ => (trodAll_cons_mk (shut_bool Tryd.underlying4 _) trodAll_mk0)) (fun sp hsp => (trodAll_cons_mk (WideElems.Trod_stays laidOut (by kernel_rfl) (of_decide_eq_true (by kernel_rfl)) h0 (fun x hx => hb.same (hlt x (hx))) (fun x hx => hsp x (List.mem_append.2 (.inl hx)))) trodAll_mk0)) (fun sp hsp => hvars sp (fun x hx => hsp x (List.mem_append.2 (.inr hx)))) (by simp)
    hb (ok_one (by kernel_rfl) rfl (okWide_bool_mk Tryd.underlying4 _))⟩

theorem over : Rows.FnExactReadCodeSaid :=
  OpenClaim.holds_of_wide 5 Tryd.f5 rfl rfl rfl rfl rfl rfl rfl ⟨rfl, rfl, rfl, rfl, rfl⟩ rfl rfl rfl rfl rfl (by kernel_rfl) Tryd.func5 (by kernel_rfl)
    (of_decide_eq_true (by kernel_rfl)) (by unfold Func.isWrapper; first | (rw [if_pos (by decide +kernel)]; kernel_rfl) | (rw [if_neg (by decide +kernel)]; exact ⟨rfl, rfl⟩))
    (fun os started H enc _ => lifted os started H enc)

theorem proved : Rows.FnExactReadCodeCardSaid :=
  Claim7.holds_tied_plain_at .later [] [.data, .data, .pinned] true Rows.fnExactReadCodeCard.stood.harness true
    over (fun _ h => by cases h) (by kernel_rfl) (fun _ h => by cases h) fnExactReadCode_row_tie rfl ⟨rfl, rfl⟩ (by kernel_rfl) rfl
    (fun f fn hf hfn => by
      obtain rfl : f = 5 := Option.some.inj ((show Tryd.prog.funcNamed "loop.example/closurecells/laws.FnExactReadCode" = some 5 by kernel_rfl).symm.trans hf) |>.symm
      obtain rfl : fn = Tryd.f5 := (Option.some.inj (Tryd.func5.symm.trans hfn)).symm
      exact ⟨by kernel_rfl, fun j t ht => by
        rw [Tryd.params5] at ht
        have hm : t ∈ ([9] : List Nat) := by simpa using Array.mem_of_getElem? ht
        have hall : (([9] : List Nat).all fun u => !Tryd.prog.wantsStandIn u) = true := by kernel_rfl
        exact (show Tryd.prog.wantsStandIn t = false by simpa using List.all_eq_true.1 hall t hm)⟩)
    (by kernel_rfl)
#print axioms proved
end Go.Proofs.YtpajkejdfalkiaaDoor.exactReadCode
