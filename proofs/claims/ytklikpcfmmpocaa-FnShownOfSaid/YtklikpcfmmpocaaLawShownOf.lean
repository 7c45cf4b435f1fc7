/-
  The law FnShownOf: for every input it answers true and leaves its argument as it was. No condition.
-/
import Derived.Test.YtklikpcfmmpocaaFrame
import Derived.Test.YtklikpcfmmpocaaFacts
import Derived.Test.YtklikpcfmmpocaaFrameB
import Derived.Test.YtklikpcfmmpocaaDrawV
namespace Go.Proofs.Ytklikpcfmmpocaa.shownOf
open Go.ChangeShapes Go.WideShapes Go.ChangeAt Go.RowKit
set_option linter.unusedVariables false

set_option maxRecDepth 100000 in
set_option maxHeartbeats 4000000 in
theorem walk (v : Value) (l : List Int) (w : World) (hv : OBytes w v l) :
    Calls Try.prog 3 #[v] w fun e w' => e = .returned (.bool true) ∧ Below w.heap.size w w' := by
  have HV := Lib.hid hv
  obtain ⟨⟨A, C, b, o, rfl, hn, hc, _, _⟩, _⟩ := hv
  unfold maxLen at hc
  by_cases hbig : 1048576 < l.length
  · go_enter Try.func3, Try.ntmps3
    go_wp2
    go_ret
    exact ⟨rfl, Below.refl _ _⟩
  have hl : l.length ≤ 1048576 := by omega
  go_enter Try.func3, Try.ntmps3
  go_wp2_with fail
  refine (S_DrawShownOf _ l _ HV.out hl).mono ?_
  rintro e w1 ⟨K, N, rfl, hK, hb1⟩
  obtain ⟨R, hR⟩ : ∃ R : Int, R = shownF K N := ⟨_, rfl⟩
  have k0 : (w1.alloc (.cells #[.int .i64 K, .int .i64 N] 24)).cell? ⟨w1.heap.size, 0, none⟩ = some (.int .i64 K) := by simp [go_sem]
  have k1 : (w1.alloc (.cells #[.int .i64 K, .int .i64 N] 24)).cell? ⟨w1.heap.size, 1, none⟩ = some (.int .i64 N) := by simp [go_sem]
  have HR := Lib.hid hR
  clear hR
  go_wp2_with fail
  refine (I_ShownOf K N _).mono ?_
  rintro e w2 ⟨rfl, hb2⟩
  rw [← HR.out]
  have hcur := bthen (bal hb1 _) hb2
  have k0 := cell_later hb2 k0
  have k1 := cell_later hb2 k1
  clear hb2
  go_wp2_with fail
  refine (S_ShownOf K N _).mono ?_
  rintro e w3 ⟨rfl, hb3⟩
  rw [← HR.out]
  have hcur := bthen hcur hb3
  have k0 := cell_later hb3 k0
  have k1 := cell_later hb3 k1
  clear hb3
  have hne : (R != R) = false := by simp
  have hR := HR.out
  unfold shownF at hR
  rcases hK with rfl | rfl | rfl | rfl | rfl | rfl
  all_goals
    simp at hR
    subst hR
    clear HR
    go_wp2
    go_ret
    exact ⟨rfl, hcur⟩

theorem own : ownKnob Try.prog.godebug = none := by kernel_rfl
theorem laidOut : laidOutB Try.prog = true := by kernel_rfl

set_option maxRecDepth 100000 in
theorem lifted (os : Os) (started : os.Started) (H : Type) (enc : TypeId × Value → H) :
    ReturnsInHanded {} Try.checked os 3 .any (Rows.fnShownOfSpec.pre6 enc Try.prog Try.f3 Rows.fnShownOfRow.domain false) (Rows.fnShownOfSpec.post enc Try.prog Try.f3 false true false false) := by
  refine returnsInHanded_of_change (C := Try.checked) own started (by kernel_rfl) Try.func3
    (ChangeSpec.witness6 (enc := enc) (C := Try.checked) false ⟨#[], #[.slice none 0 0], []⟩ 8 (by kernel_rfl) (by kernel_rfl) (by kernel_rfl) (by kernel_rfl)) ?_
  intro W base args ds gs before hval0 hW hcnd _
  have hval : ∀ (j : Nat) t v, Try.f3.params[j]? = some t → args[j]? = some v → Value.okWide Try.prog W .any base t v := hval0
  have hW' := hW
  obtain ⟨p, q, hA0, hV, rfl, hfz, hnd⟩ := hW
  have hA : DataW.TrodAll enc Try.prog W 0 (fun _ => true) true Try.f3.params.toList args.toList ds p := hA0
  rw [Try.params3] at hA hval
  obtain ⟨v0, d0, rfl, rfl, h0⟩ := trodAll_one hA
  obtain ⟨rfl, rfl⟩ := trodVars_none hV
  clear hA0 hval0
  simp only [List.append_nil] at hW'
  have hlt : ∀ x ∈ p, x.block < W.heap.size := fun x hx => hW'.lt x hx
  obtain ⟨q0, hq0⟩ := open_obytes (hval 0 22 v0 rfl rfl) h0
  refine (walk v0 q0 W hq0).mono fun e W' ⟨he, hb⟩ => ?_
  subst he
  exact ⟨_, rfl, post_of_below (pa := _) (pv := []) hW' (fun _ _ _ => (trodAll_cons_mk (shut_bool Try.underlying4 _) trodAll_mk0)) (fun sp hsp => (trodAll_cons_mk (WideElems.Trod_stays laidOut (by kernel_rfl) (of_decide_eq_true (by kernel_rfl)) h0 (fun x hx => hb.same (hlt x (hx))) (fun x hx => hsp x (hx))) trodAll_mk0)) (fun _ _ => rfl) (by simp)
    hb (ok_one (by kernel_rfl) rfl (okWide_bool_mk Try.underlying4 _))⟩

theorem closed : joinedFacts Try.pinned.checked.prog 3 Try.f3 Rows.fnShownOfSpec Rows.fnShownOfRow = true := by
  show joinedFacts Try.prog 3 Try.f3 Rows.fnShownOfSpec Rows.fnShownOfRow = true
  unfold joinedFacts
  rw [may_enter, lifts_not, make_cut]
  kernel_rfl

theorem over : Rows.fnShownOfRow.holds Try.pinned (OpenSpec.ofChange Rows.fnShownOfSpec) :=
  OpenClaim.holds_of_wide 3 Try.f3 rfl rfl rfl rfl rfl rfl rfl ⟨rfl, rfl, rfl, rfl, rfl⟩ rfl rfl rfl rfl rfl (by kernel_rfl) Try.func3 closed
    (of_decide_eq_true (by kernel_rfl)) (by unfold Func.isWrapper; first | (rw [if_pos (by decide +kernel)]; kernel_rfl) | (rw [if_neg (by decide +kernel)]; exact ⟨rfl, rfl⟩))
    (fun os started H enc _ => lifted os started H enc)

theorem proved : Rows.FnShownOfSaid := over
#print axioms proved
end Go.Proofs.Ytklikpcfmmpocaa.shownOf
