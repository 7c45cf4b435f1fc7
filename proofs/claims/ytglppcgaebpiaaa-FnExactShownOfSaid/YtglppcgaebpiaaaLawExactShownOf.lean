/-
  The law FnExactShownOf: for every input it answers true and leaves its argument as it was. No condition.
-/
import Derived.Test.YtglppcgaebpiaaaFrame
import Derived.Test.YtglppcgaebpiaaaFacts
import Derived.Test.YtglppcgaebpiaaaVal
namespace Go.Proofs.Ytglppcgaebpiaaa.exactShownOf
open Go.ChangeShapes Go.WideShapes Go.ChangeAt Go.RowKit
set_option linter.unusedVariables false

set_option maxRecDepth 100000 in
theorem walk (v : Value) (a b : Int) (w : World) (hv : OVal v a b) :
    Calls Try.prog 4 #[v] w fun e w' => e = .returned (.bool true) ∧ Below w.heap.size w w' := by
  obtain rfl : v = .agg #[.int .i64 a, .int .i64 b] := hv
  obtain ⟨R, hR⟩ : ∃ R : Int, shownF a b = R := ⟨_, rfl⟩
  have HR := Lib.hid hR
  clear hR
  have hne : (R != R) = false := by simp
  go_enter Try.func4, Try.ntmps4
  go_wp2_with fail
  refine (toValue_any a b _).mono ?_
  rintro e w1 ⟨rfl, h1⟩
  have c0 := cell_later h1 (valCell _ _ _ (Value.int .i64 a) 0 rfl)
  have c1 := cell_later h1 (valCell _ _ _ (Value.int .i64 b) 1 rfl)
  have hcur := bthen (al1 (w := w)) h1
  go_wp2_with fail
  refine (S_ShownOf a b _).mono ?_
  rintro e w2 ⟨rfl, h2⟩
  rw [HR.out]
  have d0 := cell_later h2 c0
  have d1 := cell_later h2 c1
  have hcur2 := bthen hcur h2
  clear c0 c1 h1 h2 hcur
  go_wp2_with fail
  refine (toValue_any a b _).mono ?_
  rintro e w3 ⟨rfl, h3⟩
  have hcur3 := bthen hcur2 h3
  clear hcur2 d0 d1 h3
  go_wp2_with fail
  refine (I_ShownOf a b _).mono ?_
  rintro e w4 ⟨rfl, h4⟩
  rw [HR.out]
  have hcur4 := bthen hcur3 h4
  clear hcur3 h4
  go_wp2
  go_ret
  exact ⟨rfl, hcur4⟩

theorem own : ownKnob Try.prog.godebug = none := by kernel_rfl
theorem laidOut : laidOutB Try.prog = true := by kernel_rfl

set_option maxRecDepth 100000 in
theorem lifted (os : Os) (started : os.Started) (H : Type) (enc : TypeId × Value → H) :
    ReturnsInHanded {} Try.checked os 4 .any (Rows.fnExactShownOfSpec.pre6 enc Try.prog Try.f4 Rows.fnExactShownOfRow.domain false) (Rows.fnExactShownOfSpec.post enc Try.prog Try.f4 false true false false) := by
  refine returnsInHanded_of_change (C := Try.checked) own started (by kernel_rfl) Try.func4
    (ChangeSpec.witness6 (enc := enc) (C := Try.checked) false ⟨#[], #[.agg #[.int .i64 0, .int .i64 0]], []⟩ 8 (by kernel_rfl) (by kernel_rfl) (by kernel_rfl) (by kernel_rfl)) ?_
  intro W base args ds gs before hval0 hW hcnd _
  have hval : ∀ (j : Nat) t v, Try.f4.params[j]? = some t → args[j]? = some v → Value.okWide Try.prog W .any base t v := hval0
  have hW' := hW
  obtain ⟨p, q, hA0, hV, rfl, hfz, hnd⟩ := hW
  have hA : DataW.TrodAll enc Try.prog W 0 (fun _ => true) true Try.f4.params.toList args.toList ds p := hA0
  rw [Try.params4] at hA hval
  obtain ⟨v0, d0, rfl, rfl, h0⟩ := trodAll_one hA
  obtain ⟨rfl, rfl⟩ := trodVars_none hV
  clear hA0 hval0
  simp only [List.append_nil] at hW'
  have hlt : ∀ x ∈ p, x.block < W.heap.size := fun x hx => hW'.lt x hx
  obtain ⟨q0, r0, hq0⟩ := open_ovalue (hval 0 24 v0 rfl rfl) h0
  refine (walk v0 q0 r0 W hq0).mono fun e W' ⟨he, hb⟩ => ?_
  subst he
  exact ⟨_, rfl, post_of_below (pa := _) (pv := []) hW' (fun _ _ _ => (trodAll_cons_mk (shut_bool Try.underlying4 _) trodAll_mk0)) (fun sp hsp => (trodAll_cons_mk (WideElems.Trod_stays laidOut (by kernel_rfl) (of_decide_eq_true (by kernel_rfl)) h0 (fun x hx => hb.same (hlt x (hx))) (fun x hx => hsp x (hx))) trodAll_mk0)) (fun _ _ => rfl) (by simp)
    hb (ok_one (by kernel_rfl) rfl (okWide_bool_mk Try.underlying4 _))⟩

theorem closed : joinedFacts Try.pinned.checked.prog 4 Try.f4 Rows.fnExactShownOfSpec Rows.fnExactShownOfRow = true := by
  show joinedFacts Try.prog 4 Try.f4 Rows.fnExactShownOfSpec Rows.fnExactShownOfRow = true
  unfold joinedFacts
  rw [may_enter, lifts_not, make_cut]
  kernel_rfl

theorem over : Rows.fnExactShownOfRow.holds Try.pinned (OpenSpec.ofChange Rows.fnExactShownOfSpec) :=
  OpenClaim.holds_of_wide 4 Try.f4 rfl rfl rfl rfl rfl rfl rfl ⟨rfl, rfl, rfl, rfl, rfl⟩ rfl rfl rfl rfl rfl (by kernel_rfl) Try.func4 closed
    (of_decide_eq_true (by kernel_rfl)) (by unfold Func.isWrapper; first | (rw [if_pos (by decide +kernel)]; kernel_rfl) | (rw [if_neg (by decide +kernel)]; exact ⟨rfl, rfl⟩))
    (fun os started H enc _ => lifted os started H enc)

theorem proved : Rows.FnExactShownOfSaid := over
#print axioms proved
end Go.Proofs.Ytglppcgaebpiaaa.exactShownOf
