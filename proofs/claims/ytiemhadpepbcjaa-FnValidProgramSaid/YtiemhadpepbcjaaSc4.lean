/-
  Walks: the program's outerOwner. Condition: the scopes lie in memory as data.
-/
import Derived.Test.YtiemhadpepbcjaaSc3
namespace Go.Proofs.Ytiemhadpepbcjaa
open Go.RowKit
set_option linter.unusedVariables false

open Go.Shelf
attribute [local go_sem] Oper.semAt_some

set_option maxHeartbeats 1000000 in
theorem fo_in (F : Fence) (n : Nat) (hF : F.fn 102) (hro : F.round = none) (a : Option Addr) (w : World) :
    CallsIn F n Try.prog 102 #[.pointer a] w fun e w' => e = .returned (.func (.func 116) #[] #[.pointer (some ⟨w.heap.size, 0, none⟩)]) ∧ w' = w.alloc (.cells #[.pointer a] 52) := by
  refine callsIn_of_wp Try.func102 rfl hF ?_ hro
  simp only [Try.ntmps102, List.size_toArray, List.length_cons, List.length_nil, Nat.reduceAdd, Nat.reduceSub, Array.replicate_succ, Array.replicate_zero, List.push_toArray, List.append_toArray, List.nil_append, List.cons_append]
  gi_wp2
  go_ret
  exact ⟨rfl, rfl⟩

theorem it_stops (F : Fence) (n : Nat) (hF : F.fn 116) (hro : F.round = none) (hn : 1 ≤ n) (Bn n₀ : Nat) (A : Nat → Nat) (p : Pr) (i : Nat) (hi : i < p.length) (hsh : shape p = true) (w : World) (hBn : Bn < w.heap.size) (hn₀ : n₀ ≤ w.heap.size)
    (hc : w.cell? ⟨Bn, 0, none⟩ = some (.pointer (some ⟨A i, 0, none⟩))) (hS : ScopesIn n₀ w A p) :
    SeqStopsK F n Try.prog 116 #[.pointer (some ⟨Bn, 0, none⟩)] (fun x : Fin p.length => #[Value.pointer (some ⟨A x.val, 0, none⟩)]) (Below n₀) (fun ys => ys.map Fin.val = funs p (up p i)) (fun pre => pre.map Fin.val <+: funs p (up p i)) (funs p (up p i)).length w := fun l J Jx W hW _ _ hY h0 =>
  it_in F n hF hro hn l Bn n₀ A p i hi hsh J Jx hY W ((hW.cell (p := ⟨Bn, 0, none⟩) hBn).trans hc) (hS.below (hW.mono hn₀)) h0

theorem cell_of_box_l {W : World} {B : Nat} {v : Value} {t : TypeId} (h : W.heap[B]? = some (.cells #[v] t (0, 0))) : W.cell? ⟨B, 0, none⟩ = some v ∧ W.frozen? ⟨B, 0, none⟩ = false := by
  constructor <;> simp [World.cell?, World.frozen?, h]
theorem cell_new_l (W : World) (v : Value) (t : TypeId) : (W.alloc (.cells #[v] t)).cell? ⟨W.heap.size, 0, none⟩ = some v ∧ (W.alloc (.cells #[v] t)).frozen? ⟨W.heap.size, 0, none⟩ = false :=
  cell_of_box_l (World.alloc_heap_new W _)
theorem cell_alloc_l {W : World} {a : Addr} {v : Value} (o : Obj) (h : W.cell? a = some v) : (W.alloc o).cell? a = some v := cell_kept h (World.grownBy_alloc W o none) (fun r e => by cases e)
theorem frozen_alloc_l {W : World} {a : Addr} {v : Value} (o : Obj) (h : W.cell? a = some v) (hf : W.frozen? a = false) : (W.alloc o).frozen? a = false := (frozen_kept h (World.grownBy_alloc W o none) (fun r e => by cases e)).trans hf

set_option maxRecDepth 100000 in
set_option maxHeartbeats 2000000 in
theorem I_outerOwner (A : Nat → Nat) (p : Pr) (lo i : Nat) (x : Int) (w : World) (hv : Scopes w lo A p) (hi : i < p.length) (hsh : shape p = true) (hx0 : 0 ≤ x) (hx1 : x ≤ 7) :
    Calls Try.prog 75 #[.pointer (some ⟨A i, 0, none⟩), .int .i64 x] w fun e w' => e = .returned (.int .i64 (outerF p i x)) ∧ Below w.heap.size w w' := by
  have hR : outerF p i x = firstOwn p x (funs p (up p i)) := outerK_funs hsh x i (up p i) (by have := up_lt p i (by omega); omega)
  generalize outerF p i x = R at *
  generalize hxs : funs p (up p i) = xs at *
  have hS : ScopesIn w.heap.size w A p := hv.inn
  have HR := Lib.hid hR
  have HSH := Lib.hid hsh
  have HXS := Lib.hid hxs
  have HS := Lib.hid hS
  clear hR hsh hxs hS hv
  refine (callsIn_wide (n := 3)).1 ?_
  refine callsIn_of_wp_marks Try.func75 rfl trivial ?_ rfl
  simp only [Try.ntmps75, List.size_toArray, List.length_cons, List.length_nil, Nat.reduceAdd, Nat.reduceSub, Array.replicate_succ, Array.replicate_zero, List.push_toArray, List.append_toArray, List.nil_append, List.cons_append]
  gi_wp2_with (refine ⟨trivial, ?_⟩; gi_at_call 102; refine (fo_in Fence.wide _ trivial rfl _ _).mono ?_; rintro e w' ⟨rfl, rfl⟩)
  have c0 := cell_new_l w (.int .i64 x) 3
  have c1 := cell_new_l (w.alloc (.cells #[.int .i64 x] 3)) (.int .i64 0) 3
  have c2 := cell_new_l ((w.alloc (.cells #[.int .i64 x] 3)).alloc (.cells #[.int .i64 0] 3)) (.pointer (some ⟨A i, 0, none⟩)) 52
  simp only [World.size_alloc] at c1 c2
  have hB0 : Below w.heap.size w (((w.alloc (.cells #[.int .i64 x] 3)).alloc (.cells #[.int .i64 0] 3)).alloc (.cells #[.pointer (some ⟨A i, 0, none⟩)] 52)) := (((Below.refl _ w).alloc (Nat.le_refl _) _).alloc (by simp) _).alloc (by simp; omega) _
  refine wpIn_rangeFunc_ownF rfl (by omega) (gf := 116) (lb := #[.pointer (some ⟨w.heap.size + 1 + 1, 0, none⟩)]) rfl trivial (enters_of Try.func116 (by kernel_rfl) rfl)
    (it_stops Fence.wide _ trivial rfl (by omega) (w.heap.size + 1 + 1) w.heap.size A p i hi HSH.out _ (by simp) (by simp; omega) c2.1 (HS.out.below hB0)) belowK_t (belowK_b (by simp; omega)) (Below.refl _ _) (fun _ => rfl)
    (fun pre W => ((∀ y ∈ pre.map Fin.val, (p.bk (y : Nat)).declB 9 x = false ∧ locP p (y : Nat) x = false) ∧ W.cell? ⟨w.heap.size, 0, none⟩ = some (.int .i64 x) ∧ (∃ q : Int, W.cell? ⟨w.heap.size + 1, 0, none⟩ = some (.int .i64 q)) ∧ W.frozen? ⟨w.heap.size + 1, 0, none⟩ = false) ∧ Below w.heap.size w W)
    (fun c pre W => (c = .ret ∧ ∃ q : Int, (∀ tl, firstOwn p x (pre.map Fin.val ++ tl) = q) ∧ W.cell? ⟨w.heap.size + 1, 0, none⟩ = some (.int .i64 q)) ∧ Below w.heap.size w W)
    (OwnFrom.and (Own.from (fun s A' B row hs hg hr => ⟨hs.1, cell_kept hs.2.1 hg hr, (by obtain ⟨q, hq⟩ := hs.2.2.1; exact ⟨q, cell_kept hq hg hr⟩), (by obtain ⟨q, hq⟩ := hs.2.2.1; exact (frozen_kept hq hg hr).trans hs.2.2.2)⟩) _) (ownFrom_below (Nat.le_refl _) (by simp; omega)))
    (fun c => OwnFrom.and (Own.from (fun s A' B row hs hg hr => (by obtain ⟨h1, q, h2, h3⟩ := hs; exact ⟨h1, q, h2, cell_kept h3 hg hr⟩)) _) (ownFrom_below (Nat.le_refl _) (by simp; omega)))
    ⟨⟨by simp, cell_alloc_l _ (cell_alloc_l _ c0.1), ⟨0, cell_alloc_l _ c1.1⟩, frozen_alloc_l _ c1.1 c1.2⟩, hB0⟩
    (fun y => { tmps := #[.pointer (some ⟨A i, 0, none⟩), .int .i64 x, undef, .pointer (some ⟨w.heap.size, 0, none⟩), .pointer (some ⟨w.heap.size + 1, 0, none⟩), .pointer (some ⟨A y.val, 0, none⟩), .pointer (some ⟨A i, 0, none⟩), .func (.func 116) #[] #[.pointer (some ⟨w.heap.size + 1 + 1, 0, none⟩)], .pointer (some ⟨A y.val, 0, none⟩), undef, undef, undef, undef, undef, undef, undef, undef, undef, undef, undef, undef, undef], defers := [] }) ?assign ?body ?done ?stop
  case assign =>
    intro l y W K hK
    gi_wp2
    exact hK
  case body =>
    rintro l pre y W ⟨⟨hp, hcx, ⟨q, hcr⟩, hfr⟩, hB⟩ _
    obtain ⟨m, hm⟩ := y
    have HP := Lib.hid hp
    have hS := HS.out.below hB
    have d0 := (hS m hm).2.c0
    have dG := (hS m hm).2.cG x hx0 hx1
    have hgl := World.rowIs.lt (hS m hm).2
    have hx2 : x < 8 := by omega
    have HSC := Lib.hid hS.out
    clear hp hS c0 c1 c2 hB0
    have hmo : Try.prog.follows .mixedOrders = true := by kernel_rfl
    cases hg : (p.bk m).declB 9 x
    · rw [hg] at dG
      have HG := Lib.hid hg
      have HSD := Lib.hid (ScopesIn.out (HS.out.below hB.drew))
      clear hg
      cases hloc : locP p m x
      · have HL := Lib.hid hloc
        clear hloc
        gi_wp2
        gi_region_o
        all_goals gi_wp2_with (refine ⟨trivial, ?_⟩; gi_at_call 87; refine (CallsIn.inRound l (callsIn_wide.2 (I_isLocal A p 0 m x _ HSD.out hm HSH.out hx0 hx1))).mono ?_; rintro e w' ⟨rfl, rfl⟩; rw [HL.out])
        all_goals exact ⟨KeepsOthers.drew _, (Below.refl _ _).drew, ⟨fun k hk => by
          rw [List.map_append, List.mem_append] at hk
          rcases hk with hk | hk
          · exact HP.out k hk
          · simp at hk; subst hk; exact ⟨HG.out, HL.out⟩, hcx, ⟨q, hcr⟩, hfr⟩, hB.drew⟩
      · have HL := Lib.hid hloc
        clear hloc
        gi_wp2
        gi_region_o
        all_goals gi_wp2_with (refine ⟨trivial, ?_⟩; gi_at_call 87; refine (CallsIn.inRound l (callsIn_wide.2 (I_isLocal A p 0 m x _ HSD.out hm HSH.out hx0 hx1))).mono ?_; rintro e w' ⟨rfl, rfl⟩; rw [HL.out])
        all_goals
          refine ⟨(KeepsOthers.setCell _ _ _).trans (KeepsOthers.drew _), ⟨rfl, m, fun tl => ?_, ?_⟩, (hB.setCell (p := ⟨w.heap.size + 1, 0, none⟩) (by simp) _).drew⟩
          · rw [List.map_append, List.append_assoc, firstOwn_skip p x _ _ HP.out]
            simp [firstOwn, HG.out, HL.out]
          · exact World.cell?_setCell_same' _ _ _ (by rw [hcr]; rfl)
    · rw [hg] at dG
      have HG := Lib.hid hg
      clear hg
      gi_wp2
      gi_region_o
      all_goals gi_wp2
      all_goals
        refine ⟨(KeepsOthers.setCell _ _ _).trans (KeepsOthers.drew _), ⟨rfl, -1, fun tl => ?_, ?_⟩, (hB.setCell (p := ⟨w.heap.size + 1, 0, none⟩) (by simp) _).drew⟩
        · rw [List.map_append, List.append_assoc, firstOwn_skip p x _ _ HP.out]
          simp [firstOwn, HG.out]
        · exact World.cell?_setCell_same' _ _ _ (by rw [hcr]; rfl)
  case done =>
    rintro D ys W hD hys ⟨⟨hne, _, ⟨q, hcr⟩, hfr⟩, hB⟩ hK
    have HY := Lib.hid hys
    have HN := Lib.hid hne
    clear hys hne c0 c1 c2
    gi_wp2
    have hK' := (KeepsOthers.setCell W ⟨w.heap.size + 1, 0, none⟩ (.int .i64 (-1))).same D _ hK rfl
    refine ⟨by simp, .inl ⟨_, _, rfl, run_takeDeferred hK', ?_⟩⟩
    have hc5 := cell_kept (World.cell?_setCell_same' W ⟨w.heap.size + 1, 0, none⟩ (.int .i64 (-1)) (by rw [hcr]; rfl)) (grownBy_putObj' _ D (.deferred none)) (fun r e => by cases e; exact ⟨_, hK', rfl⟩)
    refine ⟨.int .i64 (-1), ?_, by rw [HR.out, ← HXS.out, ← HY.out, ← List.append_nil (List.map Fin.val ys), firstOwn_skip p x _ _ HN.out]; rfl, (hB.setCell (p := ⟨w.heap.size + 1, 0, none⟩) (by simp) _).trans (belowK_b (w := w) (Nat.le_refl _) _ D _ _ (by simp at hD; omega) hK' rfl rfl)⟩
    simp [results, Try.f75, go_sem, hc5]
  case stop =>
    rintro D c pre W hD hpre ⟨⟨rfl, q, hq, hcr⟩, hB⟩ hK
    have HQ := Lib.hid hq
    have HPRE := Lib.hid hpre
    clear hq hpre c0 c1 c2
    gi_wp2
    refine ⟨by simp, .inl ⟨_, _, rfl, run_takeDeferred hK, ?_⟩⟩
    have hc5 := cell_kept hcr (grownBy_putObj' _ D (.deferred none)) (fun r e => by cases e; exact ⟨_, hK, rfl⟩)
    obtain ⟨tl, htl⟩ := HPRE.out
    refine ⟨.int .i64 q, ?_, by rw [HR.out, ← HXS.out, ← htl, HQ.out tl], hB.trans (belowK_b (w := w) (Nat.le_refl _) W D _ _ (by simp at hD; omega) hK rfl rfl)⟩
    simp [results, Try.f75, go_sem, hc5]

end Go.Proofs.Ytiemhadpepbcjaa
