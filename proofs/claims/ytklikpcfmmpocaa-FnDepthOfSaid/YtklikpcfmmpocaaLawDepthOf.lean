/-
  The law FnDepthOf: for every input it answers true and leaves its argument as it was. No condition.
-/
import Derived.Test.YtklikpcfmmpocaaFrame
import Derived.Test.YtklikpcfmmpocaaFacts
import Derived.Test.YtklikpcfmmpocaaDwD
import Derived.Test.YtklikpcfmmpocaaImpl4
import Derived.Test.YtklikpcfmmpocaaDwM
namespace Go.Proofs.Ytklikpcfmmpocaa.depthOf
open Go.ChangeShapes Go.WideShapes Go.ChangeAt Go.RowKit
set_option linter.unusedVariables false

set_option maxRecDepth 100000 in
set_option maxHeartbeats 1000000 in
theorem walk (v : Value) (l : List Int) (w : World) (hv : OBytes w v l) :
    Calls Try.prog 5 #[v] w fun e w' => e = .returned (.bool true) ∧ Below w.heap.size w w' := by
  have HV := Lib.hid hv
  obtain ⟨⟨A, C, b', o, rfl, hn, hc, _, _⟩, _⟩ := hv
  unfold maxLen at hc
  by_cases hbig : 1048576 < l.length
  · go_enter Try.func5, Try.ntmps5
    go_wp2
    go_ret
    exact ⟨rfl, Below.refl _ _⟩
  have hl : l.length ≤ 1048576 := by omega
  go_enter Try.func5, Try.ntmps5
  go_wp2_with fail
  refine (S_DrawDepthOf _ l _ HV.out hl).mono ?_
  rintro e w1 ⟨sl, xs, p, b, rfl, hrow, hp, hB⟩
  clear HV hbig hl hc hn
  obtain ⟨ga, Cp, rfl, _, hCp, _, _, _, _⟩ := PRowX.rd hrow (by omega)
  unfold maxLen at hCp
  obtain ⟨PB, hPB⟩ : ∃ PB : Nat, PB = w1.heap.size := ⟨_, rfl⟩
  obtain ⟨W, hW⟩ : ∃ W : World, W = w1.alloc (.cells #[.slice (some ⟨ga, 0, none⟩) p.length Cp] 30) := ⟨_, rfl⟩
  have hB : Below w.heap.size w W := by rw [hW]; exact bal hB _
  have hP : Blks W w.heap.size (.slice (some ⟨ga, 0, none⟩) p.length Cp) p := by rw [hW]; exact (PRowX.blks hrow).keep al1
  have cP : W.cell? ⟨PB, 0, none⟩ = some (.slice (some ⟨ga, 0, none⟩) p.length Cp) := by rw [hW, hPB]; simp [go_sem]
  have HPB := Lib.hid hPB
  have HW := Lib.hid hW
  clear hPB hW hrow
  obtain ⟨R, hR⟩ : ∃ R : Int, R = rDepth p b := ⟨_, rfl⟩
  have HR := Lib.hid hR
  clear hR
  have hne : (R != R) = false := by simp
  go_wp2_with fail
  rw [← HPB.out, ← HW.out]
  clear HPB HW
  refine (I_DepthOf _ p _ b _ ⟨_, rfl, hP⟩).mono ?_
  rintro e w2 ⟨rfl, hb⟩
  rw [← HR.out]
  replace cP := cell_later hb cP
  replace hP := hP.keep hb
  replace hB := bthen hB hb
  clear hb
  by_cases h0 : R < 0
  · skip
    go_wp2_with fail
    refine (S_DepthOf _ p _ b _ ⟨_, rfl, hP⟩).mono ?_
    rintro e w3 ⟨rfl, hb⟩
    rw [← HR.out]
    replace cP := cell_later hb cP
    replace hP := hP.keep hb
    replace hB := bthen hB hb
    clear hb
    go_wp2_with fail
    refine (S_DepthOf _ p _ b _ ⟨_, rfl, hP⟩).mono ?_
    rintro e w4 ⟨rfl, hb⟩
    rw [← HR.out]
    replace cP := cell_later hb cP
    replace hP := hP.keep hb
    replace hB := bthen hB hb
    clear hb
    go_wp2
    go_ret
    exact ⟨rfl, hB⟩
  go_wp2_with fail
  refine (S_DepthOf _ p _ b _ ⟨_, rfl, hP⟩).mono ?_
  rintro e w5 ⟨rfl, hb⟩
  rw [← HR.out]
  replace cP := cell_later hb cP
  replace hP := hP.keep hb
  replace hB := bthen hB hb
  clear hb
  obtain ⟨⟨hb0, hb1⟩, e1, e2, e3⟩ := depth_law (p := p) (b := b) (by rw [← HR.out]; omega)
  rw [← HR.out] at e1 e2 e3
  have E3 := Lib.hid e3
  clear e3
  have hlen := rKids_len p b
  go_wp2_with fail
  refine (I_ChildrenOf _ p _ b _ ⟨_, rfl, hP⟩).mono ?_
  rintro e w6 ⟨y, rfl, hy, hb⟩
  replace cP := cell_later hb cP
  replace hP := hP.keep hb
  replace hB := bthen hB hb
  clear hb
  obtain ⟨yA, yC, yg, ye, _, yc, yh, yl, ycell, _⟩ := hy.rd
  unfold maxLen at yc
  have Hyc := Lib.hid ycell
  clear ycell
  subst ye
  go_wp2
  go_loopw [7] (fun i wi => ∃ k : Nat, k ≤ (rKids p b).length ∧ i = .int .i64 k ∧ Below w6.heap.size w6 wi) (fun i _ => (rKids p b).length - (intOf i).toNat)
  case atStart => exact ⟨0, Nat.zero_le _, rfl, below0 _⟩
  case round =>
    obtain ⟨k, hk, rfl, hb⟩ := hrel
    have hBik := hb
    replace cP := cell_later hb cP
    replace hP := hP.keep hb
    replace hy := hy.keep hb
    replace hB := bthen hB hb
    clear hb
    by_cases hltk : k < (rKids p b).length
    · skip
      have c1 := cell_later hBik (Hyc.out k hltk)
      obtain rfl := yh (by omega)
      have hk3 : rDepth p ((rKids p b).getD k 0) = R + 1 := E3.out _ (by rw [show (rKids p b).getD k 0 = (rKids p b)[k] by simp [List.getD, hltk]]; exact List.getElem_mem _)
      generalize (rKids p b).getD k 0 = K at *
      have HK := Lib.hid hk3
      clear hk3
      have hn2 : (R + 1 != R + 1) = false := by simp
      have hwr : IntKind.i64.wrap (R + 1) = R + 1 := IntWalk.i64_in _ (by omega)
      go_wp2
      have hb := (below0 wr).drew
      replace cP := cell_later hb cP
      replace c1 := cell_later hb c1
      replace hP := hP.keep hb
      replace hy := hy.keep hb
      replace hB := bthen hB hb
      replace hBik := bthen hBik hb
      clear hb
      have hcur := below0 (wr).drew
      go_region_held3 (fun w' => w'.cell? ⟨PB, 0, none⟩ = some (.slice (some ⟨ga, 0, none⟩) p.length Cp) ∧ w'.cell? ⟨yg, k, none⟩ = some (.int .i64 K))
        (first | go_keep | exact ⟨cell_later hcur cP, cell_later hcur c1⟩)
        (first
          | (go_at_call 39
             refine (I_DepthOf _ p _ K _ ⟨_, rfl, hP.keep hcur⟩).mono ?_
             rintro e w7 ⟨rfl, hb⟩
             rw [HK.out]
             have hcur := bthen hcur hb
             clear hb)
        )
      have hb := hcur
      clear hcur
      replace cP := cell_later hb cP
      replace c1 := cell_later hb c1
      replace hP := hP.keep hb
      replace hy := hy.keep hb
      replace hB := bthen hB hb
      replace hBik := bthen hBik hb
      clear hb
      go_wp2
      go_roundw
      case rel => exact ⟨k + 1, by omega, by go_num, hBik⟩
      case measure => simp [intOf]; omega
    obtain rfl : k = (rKids p b).length := by omega
    go_wp2
    go_ret
    exact ⟨ret_bool (by first | (simp [e1]; done) | (simp [e1]; omega)), hB⟩

theorem own : ownKnob Try.prog.godebug = none := by kernel_rfl
theorem laidOut : laidOutB Try.prog = true := by kernel_rfl

set_option maxRecDepth 100000 in
theorem lifted (os : Os) (started : os.Started) (H : Type) (enc : TypeId × Value → H) :
    ReturnsInHanded {} Try.checked os 5 .any (Rows.fnDepthOfSpec.pre6 enc Try.prog Try.f5 Rows.fnDepthOfRow.domain false) (Rows.fnDepthOfSpec.post enc Try.prog Try.f5 false true false false) := by
  refine returnsInHanded_of_change (C := Try.checked) own started (by kernel_rfl) Try.func5
    (ChangeSpec.witness6 (enc := enc) (C := Try.checked) false ⟨#[], #[.slice none 0 0], []⟩ 8 (by kernel_rfl) (by kernel_rfl) (by kernel_rfl) (by kernel_rfl)) ?_
  intro W base args ds gs before hval0 hW hcnd _
  have hval : ∀ (j : Nat) t v, Try.f5.params[j]? = some t → args[j]? = some v → Value.okWide Try.prog W .any base t v := hval0
  have hW' := hW
  obtain ⟨p, q, hA0, hV, rfl, hfz, hnd⟩ := hW
  have hA : DataW.TrodAll enc Try.prog W 0 (fun _ => true) true Try.f5.params.toList args.toList ds p := hA0
  rw [Try.params5] at hA hval
  obtain ⟨v0, d0, rfl, rfl, h0⟩ := trodAll_one hA
  obtain ⟨rfl, rfl⟩ := trodVars_none hV
  clear hA0 hval0
  simp only [List.append_nil] at hW'
  have hlt : ∀ x ∈ p, x.block < W.heap.size := fun x hx => hW'.lt x hx
  obtain ⟨q0, hq0⟩ := open_obytes (hval 0 22 v0 rfl rfl) h0
  refine (walk v0 q0 W hq0).mono fun e W' ⟨he, hb⟩ => ?_
  subst he
  exact ⟨_, rfl, post_of_below (pa := _) (pv := []) hW' (fun _ _ _ => (trodAll_cons_mk (shut_bool Try.underlying4 _) trodAll_mk0)) (fun sp hsp => (trodAll_cons_mk (WideElems.Trod_stays laidOut (by kernel_rfl) (of_decide_eq_true (by kernel_rfl)) h0 (fun x hx => hb.same (hlt x (hx))) (fun x hx => hsp x (hx))) trodAll_mk0)) (fun _ _ => rfl) (by simp)
    hb (ok_one (by kernel_rfl) rfl (okWide_bool_mk Try.underlying4 _))⟩

theorem closed : joinedFacts Try.pinned.checked.prog 5 Try.f5 Rows.fnDepthOfSpec Rows.fnDepthOfRow = true := by
  show joinedFacts Try.prog 5 Try.f5 Rows.fnDepthOfSpec Rows.fnDepthOfRow = true
  unfold joinedFacts
  rw [may_enter, lifts_not, make_cut]
  kernel_rfl

theorem over : Rows.fnDepthOfRow.holds Try.pinned (OpenSpec.ofChange Rows.fnDepthOfSpec) :=
  OpenClaim.holds_of_wide 5 Try.f5 rfl rfl rfl rfl rfl rfl rfl ⟨rfl, rfl, rfl, rfl, rfl⟩ rfl rfl rfl rfl rfl (by kernel_rfl) Try.func5 closed
    (of_decide_eq_true (by kernel_rfl)) (by unfold Func.isWrapper; first | (rw [if_pos (by decide +kernel)]; kernel_rfl) | (rw [if_neg (by decide +kernel)]; exact ⟨rfl, rfl⟩))
    (fun os started H enc _ => lifted os started H enc)

theorem proved : Rows.FnDepthOfSaid := over
#print axioms proved
end Go.Proofs.Ytklikpcfmmpocaa.depthOf
