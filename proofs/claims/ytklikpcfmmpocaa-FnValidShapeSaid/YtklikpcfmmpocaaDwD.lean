/-
  Walks: the draws of the arguments of functions, and the small functions of the laws. Condition: what the arguments name stands in memory.
-/
import Derived.Test.YtklikpcfmmpocaaDwC
import Derived.Test.YtklikpcfmmpocaaSpec9
import Derived.Test.YtklikpcfmmpocaaSpec4
import Derived.Test.YtklikpcfmmpocaaEq
import Derived.BigQuiet
import Derived.Test.YtklikpcfmmpocaaFrame
import Derived.Test.YtklikpcfmmpocaaDwA
namespace Go.Proofs.Ytklikpcfmmpocaa
open Go.RowKit
set_option linter.unusedVariables false

set_option maxRecDepth 100000 in
set_option maxHeartbeats 2000000 in
theorem S_blockOf (g m : Nat) (w : World) (h : Rdr w g m) (hm : m ≤ 670000) :
    Calls Try.prog 129 #[.pointer (some ⟨g, 0, none⟩)] w fun e w' => ∃ (sl : Value) (xs : List Value) (p : Pr) (b0 : Int), e = .returned (.tuple #[.agg #[sl], .int .i64 b0]) ∧ PRow w' w.heap.size sl xs p ∧ (1 ≤ p.length ∧ p.length ≤ 7) ∧ Rdr w' g (m + 1200) ∧ Only g (g + 1) w w' := by
  have hgl : g < w.heap.size := h.lt
  have hr := h.keep (al1 (o := (.cells #[.slice none 0 0] 30)))
  have hcur := Only.refl g (g + 1) (w.alloc (.cells #[.slice none 0 0] 30))
  clear h
  go_enter Try.func129, Try.ntmps129
  go_wp2_with fail
  refine (S_anyProgram g _ _ hr (by omega)).mono ?_
  rintro e w1 ⟨sl, xs, p, rfl, hrow, hp, hr, ho⟩
  have hcur := hcur.trans ho
  have hsz1 : w.heap.size + 1 ≤ w1.heap.size := by have := ho.size; first | (simp only [World.size_alloc] at this; omega) | omega
  try simp only [World.size_alloc] at hrow
  obtain ⟨ga, Cp, rfl, _, hCp, hga1, hga2, _, _⟩ := PRowX.rd hrow (by omega)
  have hrow := PRowX.lo_ (lo' := w.heap.size + 1) hrow (by omega)
  unfold maxLen at hCp
  obtain ⟨n0, hn0⟩ : ∃ n0 : Nat, n0 = p.length := ⟨_, rfl⟩
  have hpn : p.length = n0 := hn0.symm
  rw [← hn0] at hrow ⊢
  have hrow := PRowX.keep hrow (al1 (o := (.cells #[.slice (some ⟨ga, 0, none⟩) n0 Cp] 30)))
  have hcur := hcur.alloc (.cells #[.slice (some ⟨ga, 0, none⟩) n0 Cp] 30)
  have hr := hr.keep (al1 (o := (.cells #[.slice (some ⟨ga, 0, none⟩) n0 Cp] 30)))
  have bP : BoxP (w1.alloc (.cells #[.slice (some ⟨ga, 0, none⟩) n0 Cp] 30)) w1.heap.size (.slice (some ⟨ga, 0, none⟩) n0 Cp) := BoxP.new rfl _
  obtain ⟨PB, hPB⟩ : ∃ PB : Nat, PB = w1.heap.size := ⟨_, rfl⟩
  have hPB1 : w.heap.size + 1 ≤ PB := by omega
  have hgPB : g < PB := by rw [hPB]; have := ho.size; first | (simp only [World.size_alloc] at this; omega) | omega
  have hgaPB : ga < PB := by omega
  have hgal : w.heap.size + 1 ≤ ga := by omega
  have hgg : g + 1 ≤ w.heap.size + 1 ∨ w.heap.size + 2 ≤ ga := by omega
  rw [← hPB] at bP
  have HN := Lib.hid hn0
  clear hn0
  go_wp2_with fail
  rw [← hPB]
  clear hPB hsz1 ho hga1 hga2
  refine (S_pick g _ 16 _ hr (by omega)).mono ?_
  rintro e w2 ⟨c, rfl, c0, c1, hr, ho, hsz⟩
  have hcur := hcur.trans ho
  have bP := bP.only ho (by omega)
  have hrow := PRowX.only hrow ho (by omega)
  clear ho hsz c0 c1
  have r1 := fun o => (ocell hcur).1 w.heap.size o (by omega) (by simp)
  have m1 := fun o => (ocell hcur).2 w.heap.size o (by omega) (by simp)
  by_cases h0 : c = 0
  · subst h0
    have hrow := PRowX.keep hrow (below0 w2).drew
    have hr := hr.drew
    have hcur := hcur.drew
    have zP := lt_of_block bP
    have cP : w2.cell? ⟨PB, 0, none⟩ = some (.slice (some ⟨ga, 0, none⟩) n0 Cp) := bP.cell
    have bP : BoxP w2.drew PB (.slice (some ⟨ga, 0, none⟩) n0 Cp) := bP
    go_wp2
    go_region_held3 (fun w' => w'.cell? ⟨PB, 0, none⟩ = some (.slice (some ⟨ga, 0, none⟩) n0 Cp))
      (first | go_keep | exact cP | exact (bP.other _ _ (show PB ≠ w.heap.size by omega)).cell)
      (first
        | (go_at_call 122
           refine (S_oneL g _ [-1, 7] _ _ rfl hr (by omega) (by simp) (by simp)).mono ?_
           rintro e wz ⟨z, rfl, zm, hr, ho⟩
           have hcur := hcur.trans ho
           have bP := bP.only ho (by omega)
           have hrow := PRowX.only hrow ho (by omega)
           have cP := bP.cell
           have zP := lt_of_block bP
           have r1 := fun o => (ocell hcur).1 w.heap.size o (by omega) (by first | simp | omega)
           have m1 := fun o => (ocell hcur).2 w.heap.size o (by omega) (by first | simp | omega)
           clear ho)
      )
    all_goals
      have cP := bP.cell
      have r1 := fun o => (ocell hcur).1 w.heap.size o (by omega) (by first | simp | omega)
      have m1 := fun o => (ocell hcur).2 w.heap.size o (by omega) (by first | simp | omega)
      go_wp2
      exact bodyPost_ret (v := .tuple #[.agg #[(.slice (some ⟨ga, 0, none⟩) n0 Cp)], .int .i64 z]) (by simp [results, Try.results129, go_sem, r1]) rfl
        ⟨(.slice (some ⟨ga, 0, none⟩) n0 Cp), xs, p, z, rfl, (show PRowX _ _ _ _ _ p.length by rw [hpn]; exact (PRowX.only hrow ((Only.refl w.heap.size (w.heap.size + 1) _).setCell (Nat.le_refl _) (Nat.lt_succ_self _) _) (by omega)).lo_ (lo' := w.heap.size) (by omega)), ⟨by omega, by omega⟩, (hr.store (p := ⟨w.heap.size, 0, none⟩) hgl _).mono (by omega), ((Only.of_below al1).trans hcur).store (Nat.le_refl _) _⟩
  have q0 : (c == 0) = false := by rw [beq_eq_false_iff_ne]; exact h0
  have hwr : IntKind.i64.wrap ((n0 : Int) - 1) = (n0 : Int) - 1 := IntWalk.i64_in _ (by omega)
  have hrow := PRowX.keep hrow (below0 w2).drew
  have hr := hr.drew
  have hcur := hcur.drew
  have zP := lt_of_block bP
  have cP : w2.cell? ⟨PB, 0, none⟩ = some (.slice (some ⟨ga, 0, none⟩) n0 Cp) := bP.cell
  have bP : BoxP w2.drew PB (.slice (some ⟨ga, 0, none⟩) n0 Cp) := bP
  go_wp2
  go_region_held3 (fun w' => w'.cell? ⟨PB, 0, none⟩ = some (.slice (some ⟨ga, 0, none⟩) n0 Cp))
    (first | go_keep | exact cP | exact (bP.other _ _ (show PB ≠ w.heap.size by omega)).cell)
    (first
      | (go_at_call 174
         refine (S_pick g _ n0 _ hr (by omega)).mono ?_
         rintro e wy ⟨y, rfl, y0, y1, hr, ho, hsz⟩
         have hcur := hcur.trans ho
         have bP := bP.only ho (by omega)
         have hrow := PRowX.only hrow ho (by omega)
         have cP := bP.cell
         have zP := lt_of_block bP
         have r1 := fun o => (ocell hcur).1 w.heap.size o (by omega) (by first | simp | omega)
         have m1 := fun o => (ocell hcur).2 w.heap.size o (by omega) (by first | simp | omega)
         clear ho hsz)
      | (go_at_call 122
         refine (S_oneL g _ [(n0 : Int) - 1, y] _ _ rfl hr (by omega) (by simp) (by simp)).mono ?_
         rintro e wz ⟨z, rfl, zm, hr, ho⟩
         have hcur := hcur.trans ho
         have bP := bP.only ho (by omega)
         have hrow := PRowX.only hrow ho (by omega)
         have cP := bP.cell
         have zP := lt_of_block bP
         have r1 := fun o => (ocell hcur).1 w.heap.size o (by omega) (by first | simp | omega)
         have m1 := fun o => (ocell hcur).2 w.heap.size o (by omega) (by first | simp | omega)
         clear ho)
    )
  all_goals
    have cP := bP.cell
    have r1 := fun o => (ocell hcur).1 w.heap.size o (by omega) (by first | simp | omega)
    have m1 := fun o => (ocell hcur).2 w.heap.size o (by omega) (by first | simp | omega)
    go_wp2
    exact bodyPost_ret (v := .tuple #[.agg #[(.slice (some ⟨ga, 0, none⟩) n0 Cp)], .int .i64 z]) (by simp [results, Try.results129, go_sem, r1]) rfl
      ⟨(.slice (some ⟨ga, 0, none⟩) n0 Cp), xs, p, z, rfl, (show PRowX _ _ _ _ _ p.length by rw [hpn]; exact (PRowX.only hrow ((Only.refl w.heap.size (w.heap.size + 1) _).setCell (Nat.le_refl _) (Nat.lt_succ_self _) _) (by omega)).lo_ (lo' := w.heap.size) (by omega)), ⟨by omega, by omega⟩, (hr.store (p := ⟨w.heap.size, 0, none⟩) hgl _).mono (by omega), ((Only.of_below al1).trans hcur).store (Nat.le_refl _) _⟩

set_option maxRecDepth 100000 in
set_option maxHeartbeats 2000000 in
theorem S_useOf (g m : Nat) (w : World) (h : Rdr w g m) (hm : m ≤ 660000) :
    Calls Try.prog 158 #[.pointer (some ⟨g, 0, none⟩)] w fun e w' => ∃ (sl : Value) (xs : List Value) (p : Pr) (b0 b1 : Int), e = .returned (.tuple #[.agg #[sl], .int .i64 b0, .int .i64 b1]) ∧ PRow w' w.heap.size sl xs p ∧ (1 ≤ p.length ∧ p.length ≤ 7) ∧ Rdr w' g (m + 1300) ∧ Only g (g + 1) w w' := by
  have hgl : g < w.heap.size := h.lt
  have hr := h.keep (al1 (o := (.cells #[.slice none 0 0] 30)))
  have hcur := Only.refl g (g + 1) (w.alloc (.cells #[.slice none 0 0] 30))
  clear h
  go_enter Try.func158, Try.ntmps158
  go_wp2_with fail
  refine (S_blockOf g _ _ hr (by omega)).mono ?_
  rintro e w1 ⟨sl, xs, p, b, rfl, hrow, hp, hr, ho⟩
  have hcur := hcur.trans ho
  have hsz1 : w.heap.size + 1 ≤ w1.heap.size := by have := ho.size; first | (simp only [World.size_alloc] at this; omega) | omega
  try simp only [World.size_alloc] at hrow
  obtain ⟨ga, Cp, rfl, _, hCp, hga1, hga2, _, _⟩ := PRowX.rd hrow (by omega)
  have hrow := PRowX.lo_ (lo' := w.heap.size + 1) hrow (by omega)
  unfold maxLen at hCp
  obtain ⟨n0, hn0⟩ : ∃ n0 : Nat, n0 = p.length := ⟨_, rfl⟩
  have hpn : p.length = n0 := hn0.symm
  rw [← hn0] at hrow ⊢
  have hrow := PRowX.keep hrow (al1 (o := (.cells #[.slice (some ⟨ga, 0, none⟩) n0 Cp] 30)))
  have hcur := hcur.alloc (.cells #[.slice (some ⟨ga, 0, none⟩) n0 Cp] 30)
  have hr := hr.keep (al1 (o := (.cells #[.slice (some ⟨ga, 0, none⟩) n0 Cp] 30)))
  have bP : BoxP (w1.alloc (.cells #[.slice (some ⟨ga, 0, none⟩) n0 Cp] 30)) w1.heap.size (.slice (some ⟨ga, 0, none⟩) n0 Cp) := BoxP.new rfl _
  obtain ⟨PB, hPB⟩ : ∃ PB : Nat, PB = w1.heap.size := ⟨_, rfl⟩
  have hPB1 : w.heap.size + 1 ≤ PB := by omega
  have hgPB : g < PB := by rw [hPB]; have := ho.size; first | (simp only [World.size_alloc] at this; omega) | omega
  have hgaPB : ga < PB := by omega
  have hgal : w.heap.size + 1 ≤ ga := by omega
  have hgg : g + 1 ≤ w.heap.size + 1 ∨ w.heap.size + 2 ≤ ga := by omega
  rw [← hPB] at bP
  have HN := Lib.hid hn0
  clear hn0
  have bP' := bP
  obtain ⟨W2, hW2⟩ : ∃ W2 : World, W2 = w1.alloc (.cells #[.slice (some ⟨ga, 0, none⟩) n0 Cp] 30) := ⟨_, rfl⟩
  go_wp2_with fail
  rw [← hPB, ← hW2]
  rw [← hW2] at hrow hcur hr bP
  clear hPB hsz1 ho hga1 hga2 bP' hW2
  have r1 := fun o => (ocell hcur).1 w.heap.size o (by omega) (by simp)
  have m1 := fun o => (ocell hcur).2 w.heap.size o (by omega) (by simp)
  have hrow := PRowX.keep hrow (below0 W2).drew
  have hr := hr.drew
  have hcur := hcur.drew
  have zP := lt_of_block bP
  have cP : W2.cell? ⟨PB, 0, none⟩ = some (.slice (some ⟨ga, 0, none⟩) n0 Cp) := bP.cell
  have bP : BoxP W2.drew PB (.slice (some ⟨ga, 0, none⟩) n0 Cp) := bP
  go_wp2
  go_region_held3 (fun w' => w'.cell? ⟨PB, 0, none⟩ = some (.slice (some ⟨ga, 0, none⟩) n0 Cp))
    (first | go_keep | exact cP | exact (bP.other _ _ (show PB ≠ w.heap.size by omega)).cell)
    (first
      | (go_at_call 122
         refine (S_oneL g _ [0, 1, 2, 3, 4, 5, 6, 7, 0, 1, 8, -1] _ _ rfl hr (by omega) (by simp) (by simp)).mono ?_
         rintro e wz ⟨z, rfl, zm, hr, ho⟩
         have hcur := hcur.trans ho
         have bP := bP.only ho (by omega)
         have hrow := PRowX.only hrow ho (by omega)
         have cP := bP.cell
         have zP := lt_of_block bP
         have r1 := fun o => (ocell hcur).1 w.heap.size o (by omega) (by first | simp | omega)
         have m1 := fun o => (ocell hcur).2 w.heap.size o (by omega) (by first | simp | omega)
         clear ho)
    )
  all_goals
    have cP := bP.cell
    have r1 := fun o => (ocell hcur).1 w.heap.size o (by omega) (by first | simp | omega)
    have m1 := fun o => (ocell hcur).2 w.heap.size o (by omega) (by first | simp | omega)
    go_wp2
    exact bodyPost_ret (v := .tuple #[.agg #[(.slice (some ⟨ga, 0, none⟩) n0 Cp)], .int .i64 b, .int .i64 z]) (by simp [results, Try.results158, go_sem, r1]) rfl
      ⟨(.slice (some ⟨ga, 0, none⟩) n0 Cp), xs, p, b, z, rfl, (show PRowX _ _ _ _ _ p.length by rw [hpn]; exact (PRowX.only hrow ((Only.refl w.heap.size (w.heap.size + 1) _).setCell (Nat.le_refl _) (Nat.lt_succ_self _) _) (by omega)).lo_ (lo' := w.heap.size) (by omega)), ⟨by omega, by omega⟩, (hr.store (p := ⟨w.heap.size, 0, none⟩) hgl _).mono (by omega), ((Only.of_below al1).trans hcur).store (Nat.le_refl _) _⟩

end Go.Proofs.Ytklikpcfmmpocaa

namespace Go.Proofs.Ytklikpcfmmpocaa
open Go.RowKit
set_option linter.unusedVariables false

set_option maxRecDepth 100000 in
set_option maxHeartbeats 2000000 in
theorem S_DrawValidShape (v : Value) (l : List Int) (w : World) (hv : OBytes w v l) (hl : l.length ≤ 1048576) :
    Calls Try.prog 35 #[v] w fun e w' => ∃ (sl : Value) (xs : List Value) (p : Pr), e = .returned (.agg #[sl]) ∧ PRow w' w.heap.size sl xs p ∧ (1 ≤ p.length ∧ p.length ≤ 7) ∧ Below w.heap.size w w' := by
  have hv1 := hv.keep (al1 (o := (.cells #[.slice none 0 0] 30)))
  clear hv
  go_enter Try.func35, Try.ntmps35
  go_wp2_with fail
  refine (S_newReader v l _ hv1 hl).mono ?_
  rintro e w0 ⟨rfl, hr, hb, hz⟩
  have hb1 := bthen al1 hb
  have r0 := fun o => (bcell hb).1 w.heap.size o (by simp)
  have m0 := fun o => (bcell hb).2 w.heap.size o (by simp)
  rw [World.size_alloc] at hr hz
  have hz0 : w.heap.size + 1 < w0.heap.size := by omega
  have hcur := Only.refl (w.heap.size + 1) (w.heap.size + 1 + 1) w0
  clear hz hb hv1
  go_wp2_with fail
  refine (S_anyProgram (w.heap.size + 1) _ _ hr (by omega)).mono ?_
  rintro e w1 ⟨sl, xs, p, rfl, hrow, hp, hr, ho⟩
  have hcur := hcur.trans ho
  obtain ⟨A, C, rfl⟩ := PRowX.form hrow
  have hw1 : w.heap.size + 1 ≤ w0.heap.size := by omega
  have r1 := fun o => ((ocell hcur).1 w.heap.size o (by omega) (by omega)).trans (r0 o)
  have m1 := fun o => ((ocell hcur).2 w.heap.size o (by omega) (by omega)).trans (m0 o)
  clear r0 m0
  go_wp2
  exact bodyPost_ret (v := .agg #[.slice A p.length C]) (by simp [results, Try.results35, go_sem, r1]) rfl
    ⟨.slice A p.length C, xs, p, rfl, (PRowX.only hrow ((Only.refl w.heap.size (w.heap.size + 1) _).setCell (Nat.le_refl _) (Nat.lt_succ_self _) _) (by omega)).lo_ (lo' := w.heap.size) (by omega), hp, ((hb1.trans ((hcur.below (by omega)).mono (by omega))).setCell (Nat.le_refl _) _)⟩

set_option maxRecDepth 100000 in
set_option maxHeartbeats 2000000 in
theorem S_DrawOwnersOf (v : Value) (l : List Int) (w : World) (hv : OBytes w v l) (hl : l.length ≤ 1048576) :
    Calls Try.prog 88 #[v] w fun e w' => ∃ (sl : Value) (xs : List Value) (p : Pr), e = .returned (.agg #[sl]) ∧ PRow w' w.heap.size sl xs p ∧ (1 ≤ p.length ∧ p.length ≤ 7) ∧ Below w.heap.size w w' := by
  have hv1 := hv.keep (al1 (o := (.cells #[.slice none 0 0] 30)))
  clear hv
  go_enter Try.func88, Try.ntmps88
  go_wp2_with fail
  refine (S_newReader v l _ hv1 hl).mono ?_
  rintro e w0 ⟨rfl, hr, hb, hz⟩
  have hb1 := bthen al1 hb
  have r0 := fun o => (bcell hb).1 w.heap.size o (by simp)
  have m0 := fun o => (bcell hb).2 w.heap.size o (by simp)
  rw [World.size_alloc] at hr hz
  have hz0 : w.heap.size + 1 < w0.heap.size := by omega
  have hcur := Only.refl (w.heap.size + 1) (w.heap.size + 1 + 1) w0
  clear hz hb hv1
  go_wp2_with fail
  refine (S_anyProgram (w.heap.size + 1) _ _ hr (by omega)).mono ?_
  rintro e w1 ⟨sl, xs, p, rfl, hrow, hp, hr, ho⟩
  have hcur := hcur.trans ho
  obtain ⟨A, C, rfl⟩ := PRowX.form hrow
  have hw1 : w.heap.size + 1 ≤ w0.heap.size := by omega
  have r1 := fun o => ((ocell hcur).1 w.heap.size o (by omega) (by omega)).trans (r0 o)
  have m1 := fun o => ((ocell hcur).2 w.heap.size o (by omega) (by omega)).trans (m0 o)
  clear r0 m0
  go_wp2
  exact bodyPost_ret (v := .agg #[.slice A p.length C]) (by simp [results, Try.results88, go_sem, r1]) rfl
    ⟨.slice A p.length C, xs, p, rfl, (PRowX.only hrow ((Only.refl w.heap.size (w.heap.size + 1) _).setCell (Nat.le_refl _) (Nat.lt_succ_self _) _) (by omega)).lo_ (lo' := w.heap.size) (by omega), hp, ((hb1.trans ((hcur.below (by omega)).mono (by omega))).setCell (Nat.le_refl _) _)⟩

set_option maxRecDepth 100000 in
set_option maxHeartbeats 2000000 in
theorem S_DrawBareProgram (v : Value) (l : List Int) (w : World) (hv : OBytes w v l) (hl : l.length ≤ 1048576) :
    Calls Try.prog 86 #[v] w fun e w' => ∃ (sl : Value) (xs : List Value) (p : Pr), e = .returned (.agg #[sl]) ∧ PRow w' w.heap.size sl xs p ∧ (1 ≤ p.length ∧ p.length ≤ 7) ∧ Below w.heap.size w w' := by
  have hv1 := hv.keep (al1 (o := (.cells #[.slice none 0 0] 30)))
  clear hv
  go_enter Try.func86, Try.ntmps86
  go_wp2_with fail
  refine (S_newReader v l _ hv1 hl).mono ?_
  rintro e w0 ⟨rfl, hr, hb, hz⟩
  have hb1 := bthen al1 hb
  have r0 := fun o => (bcell hb).1 w.heap.size o (by simp)
  have m0 := fun o => (bcell hb).2 w.heap.size o (by simp)
  rw [World.size_alloc] at hr hz
  have hz0 : w.heap.size + 1 < w0.heap.size := by omega
  have hcur := Only.refl (w.heap.size + 1) (w.heap.size + 1 + 1) w0
  clear hz hb hv1
  go_wp2_with fail
  refine (S_anyProgram (w.heap.size + 1) _ _ hr (by omega)).mono ?_
  rintro e w1 ⟨sl, xs, p, rfl, hrow, hp, hr, ho⟩
  have hcur := hcur.trans ho
  obtain ⟨A, C, rfl⟩ := PRowX.form hrow
  have hw1 : w.heap.size + 1 ≤ w0.heap.size := by omega
  have r1 := fun o => ((ocell hcur).1 w.heap.size o (by omega) (by omega)).trans (r0 o)
  have m1 := fun o => ((ocell hcur).2 w.heap.size o (by omega) (by omega)).trans (m0 o)
  clear r0 m0
  go_wp2
  exact bodyPost_ret (v := .agg #[.slice A p.length C]) (by simp [results, Try.results86, go_sem, r1]) rfl
    ⟨.slice A p.length C, xs, p, rfl, (PRowX.only hrow ((Only.refl w.heap.size (w.heap.size + 1) _).setCell (Nat.le_refl _) (Nat.lt_succ_self _) _) (by omega)).lo_ (lo' := w.heap.size) (by omega), hp, ((hb1.trans ((hcur.below (by omega)).mono (by omega))).setCell (Nat.le_refl _) _)⟩

set_option maxRecDepth 100000 in
set_option maxHeartbeats 2000000 in
theorem S_DrawChildrenOf (v : Value) (l : List Int) (w : World) (hv : OBytes w v l) (hl : l.length ≤ 1048576) :
    Calls Try.prog 42 #[v] w fun e w' => ∃ (sl : Value) (xs : List Value) (p : Pr) (b0 : Int), e = .returned (.tuple #[.agg #[sl], .int .i64 b0]) ∧ PRow w' w.heap.size sl xs p ∧ (1 ≤ p.length ∧ p.length ≤ 7) ∧ Below w.heap.size w w' := by
  have hv1 := hv.keep (al1 (o := (.cells #[.slice none 0 0] 30)))
  clear hv
  go_enter Try.func42, Try.ntmps42
  go_wp2_with fail
  refine (S_newReader v l _ hv1 hl).mono ?_
  rintro e w0 ⟨rfl, hr, hb, hz⟩
  have hb1 := bthen al1 hb
  have r0 := fun o => (bcell hb).1 w.heap.size o (by simp)
  have m0 := fun o => (bcell hb).2 w.heap.size o (by simp)
  rw [World.size_alloc] at hr hz
  have hz0 : w.heap.size + 1 < w0.heap.size := by omega
  have hcur := Only.refl (w.heap.size + 1) (w.heap.size + 1 + 1) w0
  clear hz hb hv1
  go_wp2_with fail
  refine (S_blockOf (w.heap.size + 1) _ _ hr (by omega)).mono ?_
  rintro e w1 ⟨sl, xs, p, b, rfl, hrow, hp, hr, ho⟩
  have hcur := hcur.trans ho
  obtain ⟨A, C, rfl⟩ := PRowX.form hrow
  have hw1 : w.heap.size + 1 ≤ w0.heap.size := by omega
  have r1 := fun o => ((ocell hcur).1 w.heap.size o (by omega) (by omega)).trans (r0 o)
  have m1 := fun o => ((ocell hcur).2 w.heap.size o (by omega) (by omega)).trans (m0 o)
  clear r0 m0
  go_wp2
  exact bodyPost_ret (v := .tuple #[.agg #[.slice A p.length C], .int .i64 b]) (by simp [results, Try.results42, go_sem, r1]) rfl
    ⟨.slice A p.length C, xs, p, b, rfl, (PRowX.only hrow ((Only.refl w.heap.size (w.heap.size + 1) _).setCell (Nat.le_refl _) (Nat.lt_succ_self _) _) (by omega)).lo_ (lo' := w.heap.size) (by omega), hp, ((hb1.trans ((hcur.below (by omega)).mono (by omega))).setCell (Nat.le_refl _) _)⟩

set_option maxRecDepth 100000 in
set_option maxHeartbeats 2000000 in
theorem S_DrawInsideOf (v : Value) (l : List Int) (w : World) (hv : OBytes w v l) (hl : l.length ≤ 1048576) :
    Calls Try.prog 69 #[v] w fun e w' => ∃ (sl : Value) (xs : List Value) (p : Pr) (b0 : Int), e = .returned (.tuple #[.agg #[sl], .int .i64 b0]) ∧ PRow w' w.heap.size sl xs p ∧ (1 ≤ p.length ∧ p.length ≤ 7) ∧ Below w.heap.size w w' := by
  have hv1 := hv.keep (al1 (o := (.cells #[.slice none 0 0] 30)))
  clear hv
  go_enter Try.func69, Try.ntmps69
  go_wp2_with fail
  refine (S_newReader v l _ hv1 hl).mono ?_
  rintro e w0 ⟨rfl, hr, hb, hz⟩
  have hb1 := bthen al1 hb
  have r0 := fun o => (bcell hb).1 w.heap.size o (by simp)
  have m0 := fun o => (bcell hb).2 w.heap.size o (by simp)
  rw [World.size_alloc] at hr hz
  have hz0 : w.heap.size + 1 < w0.heap.size := by omega
  have hcur := Only.refl (w.heap.size + 1) (w.heap.size + 1 + 1) w0
  clear hz hb hv1
  go_wp2_with fail
  refine (S_blockOf (w.heap.size + 1) _ _ hr (by omega)).mono ?_
  rintro e w1 ⟨sl, xs, p, b, rfl, hrow, hp, hr, ho⟩
  have hcur := hcur.trans ho
  obtain ⟨A, C, rfl⟩ := PRowX.form hrow
  have hw1 : w.heap.size + 1 ≤ w0.heap.size := by omega
  have r1 := fun o => ((ocell hcur).1 w.heap.size o (by omega) (by omega)).trans (r0 o)
  have m1 := fun o => ((ocell hcur).2 w.heap.size o (by omega) (by omega)).trans (m0 o)
  clear r0 m0
  go_wp2
  exact bodyPost_ret (v := .tuple #[.agg #[.slice A p.length C], .int .i64 b]) (by simp [results, Try.results69, go_sem, r1]) rfl
    ⟨.slice A p.length C, xs, p, b, rfl, (PRowX.only hrow ((Only.refl w.heap.size (w.heap.size + 1) _).setCell (Nat.le_refl _) (Nat.lt_succ_self _) _) (by omega)).lo_ (lo' := w.heap.size) (by omega), hp, ((hb1.trans ((hcur.below (by omega)).mono (by omega))).setCell (Nat.le_refl _) _)⟩

set_option maxRecDepth 100000 in
set_option maxHeartbeats 2000000 in
theorem S_DrawDepthOf (v : Value) (l : List Int) (w : World) (hv : OBytes w v l) (hl : l.length ≤ 1048576) :
    Calls Try.prog 38 #[v] w fun e w' => ∃ (sl : Value) (xs : List Value) (p : Pr) (b0 : Int), e = .returned (.tuple #[.agg #[sl], .int .i64 b0]) ∧ PRow w' w.heap.size sl xs p ∧ (1 ≤ p.length ∧ p.length ≤ 7) ∧ Below w.heap.size w w' := by
  have hv1 := hv.keep (al1 (o := (.cells #[.slice none 0 0] 30)))
  clear hv
  go_enter Try.func38, Try.ntmps38
  go_wp2_with fail
  refine (S_newReader v l _ hv1 hl).mono ?_
  rintro e w0 ⟨rfl, hr, hb, hz⟩
  have hb1 := bthen al1 hb
  have r0 := fun o => (bcell hb).1 w.heap.size o (by simp)
  have m0 := fun o => (bcell hb).2 w.heap.size o (by simp)
  rw [World.size_alloc] at hr hz
  have hz0 : w.heap.size + 1 < w0.heap.size := by omega
  have hcur := Only.refl (w.heap.size + 1) (w.heap.size + 1 + 1) w0
  clear hz hb hv1
  go_wp2_with fail
  refine (S_blockOf (w.heap.size + 1) _ _ hr (by omega)).mono ?_
  rintro e w1 ⟨sl, xs, p, b, rfl, hrow, hp, hr, ho⟩
  have hcur := hcur.trans ho
  obtain ⟨A, C, rfl⟩ := PRowX.form hrow
  have hw1 : w.heap.size + 1 ≤ w0.heap.size := by omega
  have r1 := fun o => ((ocell hcur).1 w.heap.size o (by omega) (by omega)).trans (r0 o)
  have m1 := fun o => ((ocell hcur).2 w.heap.size o (by omega) (by omega)).trans (m0 o)
  clear r0 m0
  go_wp2
  exact bodyPost_ret (v := .tuple #[.agg #[.slice A p.length C], .int .i64 b]) (by simp [results, Try.results38, go_sem, r1]) rfl
    ⟨.slice A p.length C, xs, p, b, rfl, (PRowX.only hrow ((Only.refl w.heap.size (w.heap.size + 1) _).setCell (Nat.le_refl _) (Nat.lt_succ_self _) _) (by omega)).lo_ (lo' := w.heap.size) (by omega), hp, ((hb1.trans ((hcur.below (by omega)).mono (by omega))).setCell (Nat.le_refl _) _)⟩

set_option maxRecDepth 100000 in
set_option maxHeartbeats 2000000 in
theorem S_DrawReadIn (v : Value) (l : List Int) (w : World) (hv : OBytes w v l) (hl : l.length ≤ 1048576) :
    Calls Try.prog 63 #[v] w fun e w' => ∃ (sl : Value) (xs : List Value) (p : Pr) (b0 : Int), e = .returned (.tuple #[.agg #[sl], .int .i64 b0]) ∧ PRow w' w.heap.size sl xs p ∧ (1 ≤ p.length ∧ p.length ≤ 7) ∧ Below w.heap.size w w' := by
  have hv1 := hv.keep (al1 (o := (.cells #[.slice none 0 0] 30)))
  clear hv
  go_enter Try.func63, Try.ntmps63
  go_wp2_with fail
  refine (S_newReader v l _ hv1 hl).mono ?_
  rintro e w0 ⟨rfl, hr, hb, hz⟩
  have hb1 := bthen al1 hb
  have r0 := fun o => (bcell hb).1 w.heap.size o (by simp)
  have m0 := fun o => (bcell hb).2 w.heap.size o (by simp)
  rw [World.size_alloc] at hr hz
  have hz0 : w.heap.size + 1 < w0.heap.size := by omega
  have hcur := Only.refl (w.heap.size + 1) (w.heap.size + 1 + 1) w0
  clear hz hb hv1
  go_wp2_with fail
  refine (S_blockOf (w.heap.size + 1) _ _ hr (by omega)).mono ?_
  rintro e w1 ⟨sl, xs, p, b, rfl, hrow, hp, hr, ho⟩
  have hcur := hcur.trans ho
  obtain ⟨A, C, rfl⟩ := PRowX.form hrow
  have hw1 : w.heap.size + 1 ≤ w0.heap.size := by omega
  have r1 := fun o => ((ocell hcur).1 w.heap.size o (by omega) (by omega)).trans (r0 o)
  have m1 := fun o => ((ocell hcur).2 w.heap.size o (by omega) (by omega)).trans (m0 o)
  clear r0 m0
  go_wp2
  exact bodyPost_ret (v := .tuple #[.agg #[.slice A p.length C], .int .i64 b]) (by simp [results, Try.results63, go_sem, r1]) rfl
    ⟨.slice A p.length C, xs, p, b, rfl, (PRowX.only hrow ((Only.refl w.heap.size (w.heap.size + 1) _).setCell (Nat.le_refl _) (Nat.lt_succ_self _) _) (by omega)).lo_ (lo' := w.heap.size) (by omega), hp, ((hb1.trans ((hcur.below (by omega)).mono (by omega))).setCell (Nat.le_refl _) _)⟩

set_option maxRecDepth 100000 in
set_option maxHeartbeats 2000000 in
theorem S_DrawBoundIn (v : Value) (l : List Int) (w : World) (hv : OBytes w v l) (hl : l.length ≤ 1048576) :
    Calls Try.prog 50 #[v] w fun e w' => ∃ (sl : Value) (xs : List Value) (p : Pr) (b0 : Int), e = .returned (.tuple #[.agg #[sl], .int .i64 b0]) ∧ PRow w' w.heap.size sl xs p ∧ (1 ≤ p.length ∧ p.length ≤ 7) ∧ Below w.heap.size w w' := by
  have hv1 := hv.keep (al1 (o := (.cells #[.slice none 0 0] 30)))
  clear hv
  go_enter Try.func50, Try.ntmps50
  go_wp2_with fail
  refine (S_newReader v l _ hv1 hl).mono ?_
  rintro e w0 ⟨rfl, hr, hb, hz⟩
  have hb1 := bthen al1 hb
  have r0 := fun o => (bcell hb).1 w.heap.size o (by simp)
  have m0 := fun o => (bcell hb).2 w.heap.size o (by simp)
  rw [World.size_alloc] at hr hz
  have hz0 : w.heap.size + 1 < w0.heap.size := by omega
  have hcur := Only.refl (w.heap.size + 1) (w.heap.size + 1 + 1) w0
  clear hz hb hv1
  go_wp2_with fail
  refine (S_blockOf (w.heap.size + 1) _ _ hr (by omega)).mono ?_
  rintro e w1 ⟨sl, xs, p, b, rfl, hrow, hp, hr, ho⟩
  have hcur := hcur.trans ho
  obtain ⟨A, C, rfl⟩ := PRowX.form hrow
  have hw1 : w.heap.size + 1 ≤ w0.heap.size := by omega
  have r1 := fun o => ((ocell hcur).1 w.heap.size o (by omega) (by omega)).trans (r0 o)
  have m1 := fun o => ((ocell hcur).2 w.heap.size o (by omega) (by omega)).trans (m0 o)
  clear r0 m0
  go_wp2
  exact bodyPost_ret (v := .tuple #[.agg #[.slice A p.length C], .int .i64 b]) (by simp [results, Try.results50, go_sem, r1]) rfl
    ⟨.slice A p.length C, xs, p, b, rfl, (PRowX.only hrow ((Only.refl w.heap.size (w.heap.size + 1) _).setCell (Nat.le_refl _) (Nat.lt_succ_self _) _) (by omega)).lo_ (lo' := w.heap.size) (by omega), hp, ((hb1.trans ((hcur.below (by omega)).mono (by omega))).setCell (Nat.le_refl _) _)⟩

set_option maxRecDepth 100000 in
set_option maxHeartbeats 2000000 in
theorem S_DrawUsedIn (v : Value) (l : List Int) (w : World) (hv : OBytes w v l) (hl : l.length ≤ 1048576) :
    Calls Try.prog 82 #[v] w fun e w' => ∃ (sl : Value) (xs : List Value) (p : Pr) (b0 : Int), e = .returned (.tuple #[.agg #[sl], .int .i64 b0]) ∧ PRow w' w.heap.size sl xs p ∧ (1 ≤ p.length ∧ p.length ≤ 7) ∧ Below w.heap.size w w' := by
  have hv1 := hv.keep (al1 (o := (.cells #[.slice none 0 0] 30)))
  clear hv
  go_enter Try.func82, Try.ntmps82
  go_wp2_with fail
  refine (S_newReader v l _ hv1 hl).mono ?_
  rintro e w0 ⟨rfl, hr, hb, hz⟩
  have hb1 := bthen al1 hb
  have r0 := fun o => (bcell hb).1 w.heap.size o (by simp)
  have m0 := fun o => (bcell hb).2 w.heap.size o (by simp)
  rw [World.size_alloc] at hr hz
  have hz0 : w.heap.size + 1 < w0.heap.size := by omega
  have hcur := Only.refl (w.heap.size + 1) (w.heap.size + 1 + 1) w0
  clear hz hb hv1
  go_wp2_with fail
  refine (S_blockOf (w.heap.size + 1) _ _ hr (by omega)).mono ?_
  rintro e w1 ⟨sl, xs, p, b, rfl, hrow, hp, hr, ho⟩
  have hcur := hcur.trans ho
  obtain ⟨A, C, rfl⟩ := PRowX.form hrow
  have hw1 : w.heap.size + 1 ≤ w0.heap.size := by omega
  have r1 := fun o => ((ocell hcur).1 w.heap.size o (by omega) (by omega)).trans (r0 o)
  have m1 := fun o => ((ocell hcur).2 w.heap.size o (by omega) (by omega)).trans (m0 o)
  clear r0 m0
  go_wp2
  exact bodyPost_ret (v := .tuple #[.agg #[.slice A p.length C], .int .i64 b]) (by simp [results, Try.results82, go_sem, r1]) rfl
    ⟨.slice A p.length C, xs, p, b, rfl, (PRowX.only hrow ((Only.refl w.heap.size (w.heap.size + 1) _).setCell (Nat.le_refl _) (Nat.lt_succ_self _) _) (by omega)).lo_ (lo' := w.heap.size) (by omega), hp, ((hb1.trans ((hcur.below (by omega)).mono (by omega))).setCell (Nat.le_refl _) _)⟩

set_option maxRecDepth 100000 in
set_option maxHeartbeats 2000000 in
theorem S_DrawFreesOf (v : Value) (l : List Int) (w : World) (hv : OBytes w v l) (hl : l.length ≤ 1048576) :
    Calls Try.prog 109 #[v] w fun e w' => ∃ (sl : Value) (xs : List Value) (p : Pr) (b0 : Int), e = .returned (.tuple #[.agg #[sl], .int .i64 b0]) ∧ PRow w' w.heap.size sl xs p ∧ (1 ≤ p.length ∧ p.length ≤ 7) ∧ Below w.heap.size w w' := by
  have hv1 := hv.keep (al1 (o := (.cells #[.slice none 0 0] 30)))
  clear hv
  go_enter Try.func109, Try.ntmps109
  go_wp2_with fail
  refine (S_newReader v l _ hv1 hl).mono ?_
  rintro e w0 ⟨rfl, hr, hb, hz⟩
  have hb1 := bthen al1 hb
  have r0 := fun o => (bcell hb).1 w.heap.size o (by simp)
  have m0 := fun o => (bcell hb).2 w.heap.size o (by simp)
  rw [World.size_alloc] at hr hz
  have hz0 : w.heap.size + 1 < w0.heap.size := by omega
  have hcur := Only.refl (w.heap.size + 1) (w.heap.size + 1 + 1) w0
  clear hz hb hv1
  go_wp2_with fail
  refine (S_blockOf (w.heap.size + 1) _ _ hr (by omega)).mono ?_
  rintro e w1 ⟨sl, xs, p, b, rfl, hrow, hp, hr, ho⟩
  have hcur := hcur.trans ho
  obtain ⟨A, C, rfl⟩ := PRowX.form hrow
  have hw1 : w.heap.size + 1 ≤ w0.heap.size := by omega
  have r1 := fun o => ((ocell hcur).1 w.heap.size o (by omega) (by omega)).trans (r0 o)
  have m1 := fun o => ((ocell hcur).2 w.heap.size o (by omega) (by omega)).trans (m0 o)
  clear r0 m0
  go_wp2
  exact bodyPost_ret (v := .tuple #[.agg #[.slice A p.length C], .int .i64 b]) (by simp [results, Try.results109, go_sem, r1]) rfl
    ⟨.slice A p.length C, xs, p, b, rfl, (PRowX.only hrow ((Only.refl w.heap.size (w.heap.size + 1) _).setCell (Nat.le_refl _) (Nat.lt_succ_self _) _) (by omega)).lo_ (lo' := w.heap.size) (by omega), hp, ((hb1.trans ((hcur.below (by omega)).mono (by omega))).setCell (Nat.le_refl _) _)⟩

set_option maxRecDepth 100000 in
set_option maxHeartbeats 2000000 in
theorem S_DrawCellsOf (v : Value) (l : List Int) (w : World) (hv : OBytes w v l) (hl : l.length ≤ 1048576) :
    Calls Try.prog 106 #[v] w fun e w' => ∃ (sl : Value) (xs : List Value) (p : Pr) (b0 : Int), e = .returned (.tuple #[.agg #[sl], .int .i64 b0]) ∧ PRow w' w.heap.size sl xs p ∧ (1 ≤ p.length ∧ p.length ≤ 7) ∧ Below w.heap.size w w' := by
  have hv1 := hv.keep (al1 (o := (.cells #[.slice none 0 0] 30)))
  clear hv
  go_enter Try.func106, Try.ntmps106
  go_wp2_with fail
  refine (S_newReader v l _ hv1 hl).mono ?_
  rintro e w0 ⟨rfl, hr, hb, hz⟩
  have hb1 := bthen al1 hb
  have r0 := fun o => (bcell hb).1 w.heap.size o (by simp)
  have m0 := fun o => (bcell hb).2 w.heap.size o (by simp)
  rw [World.size_alloc] at hr hz
  have hz0 : w.heap.size + 1 < w0.heap.size := by omega
  have hcur := Only.refl (w.heap.size + 1) (w.heap.size + 1 + 1) w0
  clear hz hb hv1
  go_wp2_with fail
  refine (S_blockOf (w.heap.size + 1) _ _ hr (by omega)).mono ?_
  rintro e w1 ⟨sl, xs, p, b, rfl, hrow, hp, hr, ho⟩
  have hcur := hcur.trans ho
  obtain ⟨A, C, rfl⟩ := PRowX.form hrow
  have hw1 : w.heap.size + 1 ≤ w0.heap.size := by omega
  have r1 := fun o => ((ocell hcur).1 w.heap.size o (by omega) (by omega)).trans (r0 o)
  have m1 := fun o => ((ocell hcur).2 w.heap.size o (by omega) (by omega)).trans (m0 o)
  clear r0 m0
  go_wp2
  exact bodyPost_ret (v := .tuple #[.agg #[.slice A p.length C], .int .i64 b]) (by simp [results, Try.results106, go_sem, r1]) rfl
    ⟨.slice A p.length C, xs, p, b, rfl, (PRowX.only hrow ((Only.refl w.heap.size (w.heap.size + 1) _).setCell (Nat.le_refl _) (Nat.lt_succ_self _) _) (by omega)).lo_ (lo' := w.heap.size) (by omega), hp, ((hb1.trans ((hcur.below (by omega)).mono (by omega))).setCell (Nat.le_refl _) _)⟩

set_option maxRecDepth 100000 in
set_option maxHeartbeats 2000000 in
theorem S_DrawFastsOf (v : Value) (l : List Int) (w : World) (hv : OBytes w v l) (hl : l.length ≤ 1048576) :
    Calls Try.prog 100 #[v] w fun e w' => ∃ (sl : Value) (xs : List Value) (p : Pr) (b0 : Int), e = .returned (.tuple #[.agg #[sl], .int .i64 b0]) ∧ PRow w' w.heap.size sl xs p ∧ (1 ≤ p.length ∧ p.length ≤ 7) ∧ Below w.heap.size w w' := by
  have hv1 := hv.keep (al1 (o := (.cells #[.slice none 0 0] 30)))
  clear hv
  go_enter Try.func100, Try.ntmps100
  go_wp2_with fail
  refine (S_newReader v l _ hv1 hl).mono ?_
  rintro e w0 ⟨rfl, hr, hb, hz⟩
  have hb1 := bthen al1 hb
  have r0 := fun o => (bcell hb).1 w.heap.size o (by simp)
  have m0 := fun o => (bcell hb).2 w.heap.size o (by simp)
  rw [World.size_alloc] at hr hz
  have hz0 : w.heap.size + 1 < w0.heap.size := by omega
  have hcur := Only.refl (w.heap.size + 1) (w.heap.size + 1 + 1) w0
  clear hz hb hv1
  go_wp2_with fail
  refine (S_blockOf (w.heap.size + 1) _ _ hr (by omega)).mono ?_
  rintro e w1 ⟨sl, xs, p, b, rfl, hrow, hp, hr, ho⟩
  have hcur := hcur.trans ho
  obtain ⟨A, C, rfl⟩ := PRowX.form hrow
  have hw1 : w.heap.size + 1 ≤ w0.heap.size := by omega
  have r1 := fun o => ((ocell hcur).1 w.heap.size o (by omega) (by omega)).trans (r0 o)
  have m1 := fun o => ((ocell hcur).2 w.heap.size o (by omega) (by omega)).trans (m0 o)
  clear r0 m0
  go_wp2
  exact bodyPost_ret (v := .tuple #[.agg #[.slice A p.length C], .int .i64 b]) (by simp [results, Try.results100, go_sem, r1]) rfl
    ⟨.slice A p.length C, xs, p, b, rfl, (PRowX.only hrow ((Only.refl w.heap.size (w.heap.size + 1) _).setCell (Nat.le_refl _) (Nat.lt_succ_self _) _) (by omega)).lo_ (lo' := w.heap.size) (by omega), hp, ((hb1.trans ((hcur.below (by omega)).mono (by omega))).setCell (Nat.le_refl _) _)⟩

set_option maxRecDepth 100000 in
set_option maxHeartbeats 2000000 in
theorem S_DrawCapturesOf (v : Value) (l : List Int) (w : World) (hv : OBytes w v l) (hl : l.length ≤ 1048576) :
    Calls Try.prog 116 #[v] w fun e w' => ∃ (sl : Value) (xs : List Value) (p : Pr) (b0 : Int), e = .returned (.tuple #[.agg #[sl], .int .i64 b0]) ∧ PRow w' w.heap.size sl xs p ∧ (1 ≤ p.length ∧ p.length ≤ 7) ∧ Below w.heap.size w w' := by
  have hv1 := hv.keep (al1 (o := (.cells #[.slice none 0 0] 30)))
  clear hv
  go_enter Try.func116, Try.ntmps116
  go_wp2_with fail
  refine (S_newReader v l _ hv1 hl).mono ?_
  rintro e w0 ⟨rfl, hr, hb, hz⟩
  have hb1 := bthen al1 hb
  have r0 := fun o => (bcell hb).1 w.heap.size o (by simp)
  have m0 := fun o => (bcell hb).2 w.heap.size o (by simp)
  rw [World.size_alloc] at hr hz
  have hz0 : w.heap.size + 1 < w0.heap.size := by omega
  have hcur := Only.refl (w.heap.size + 1) (w.heap.size + 1 + 1) w0
  clear hz hb hv1
  go_wp2_with fail
  refine (S_blockOf (w.heap.size + 1) _ _ hr (by omega)).mono ?_
  rintro e w1 ⟨sl, xs, p, b, rfl, hrow, hp, hr, ho⟩
  have hcur := hcur.trans ho
  obtain ⟨A, C, rfl⟩ := PRowX.form hrow
  have hw1 : w.heap.size + 1 ≤ w0.heap.size := by omega
  have r1 := fun o => ((ocell hcur).1 w.heap.size o (by omega) (by omega)).trans (r0 o)
  have m1 := fun o => ((ocell hcur).2 w.heap.size o (by omega) (by omega)).trans (m0 o)
  clear r0 m0
  go_wp2
  exact bodyPost_ret (v := .tuple #[.agg #[.slice A p.length C], .int .i64 b]) (by simp [results, Try.results116, go_sem, r1]) rfl
    ⟨.slice A p.length C, xs, p, b, rfl, (PRowX.only hrow ((Only.refl w.heap.size (w.heap.size + 1) _).setCell (Nat.le_refl _) (Nat.lt_succ_self _) _) (by omega)).lo_ (lo' := w.heap.size) (by omega), hp, ((hb1.trans ((hcur.below (by omega)).mono (by omega))).setCell (Nat.le_refl _) _)⟩

set_option maxRecDepth 100000 in
set_option maxHeartbeats 2000000 in
theorem S_DrawSeenIn (v : Value) (l : List Int) (w : World) (hv : OBytes w v l) (hl : l.length ≤ 1048576) :
    Calls Try.prog 113 #[v] w fun e w' => ∃ (sl : Value) (xs : List Value) (p : Pr) (b0 : Int), e = .returned (.tuple #[.agg #[sl], .int .i64 b0]) ∧ PRow w' w.heap.size sl xs p ∧ (1 ≤ p.length ∧ p.length ≤ 7) ∧ Below w.heap.size w w' := by
  have hv1 := hv.keep (al1 (o := (.cells #[.slice none 0 0] 30)))
  clear hv
  go_enter Try.func113, Try.ntmps113
  go_wp2_with fail
  refine (S_newReader v l _ hv1 hl).mono ?_
  rintro e w0 ⟨rfl, hr, hb, hz⟩
  have hb1 := bthen al1 hb
  have r0 := fun o => (bcell hb).1 w.heap.size o (by simp)
  have m0 := fun o => (bcell hb).2 w.heap.size o (by simp)
  rw [World.size_alloc] at hr hz
  have hz0 : w.heap.size + 1 < w0.heap.size := by omega
  have hcur := Only.refl (w.heap.size + 1) (w.heap.size + 1 + 1) w0
  clear hz hb hv1
  go_wp2_with fail
  refine (S_blockOf (w.heap.size + 1) _ _ hr (by omega)).mono ?_
  rintro e w1 ⟨sl, xs, p, b, rfl, hrow, hp, hr, ho⟩
  have hcur := hcur.trans ho
  obtain ⟨A, C, rfl⟩ := PRowX.form hrow
  have hw1 : w.heap.size + 1 ≤ w0.heap.size := by omega
  have r1 := fun o => ((ocell hcur).1 w.heap.size o (by omega) (by omega)).trans (r0 o)
  have m1 := fun o => ((ocell hcur).2 w.heap.size o (by omega) (by omega)).trans (m0 o)
  clear r0 m0
  go_wp2
  exact bodyPost_ret (v := .tuple #[.agg #[.slice A p.length C], .int .i64 b]) (by simp [results, Try.results113, go_sem, r1]) rfl
    ⟨.slice A p.length C, xs, p, b, rfl, (PRowX.only hrow ((Only.refl w.heap.size (w.heap.size + 1) _).setCell (Nat.le_refl _) (Nat.lt_succ_self _) _) (by omega)).lo_ (lo' := w.heap.size) (by omega), hp, ((hb1.trans ((hcur.below (by omega)).mono (by omega))).setCell (Nat.le_refl _) _)⟩

set_option maxRecDepth 100000 in
set_option maxHeartbeats 2000000 in
theorem S_DrawLocalIn (v : Value) (l : List Int) (w : World) (hv : OBytes w v l) (hl : l.length ≤ 1048576) :
    Calls Try.prog 76 #[v] w fun e w' => ∃ (sl : Value) (xs : List Value) (p : Pr) (b0 b1 : Int), e = .returned (.tuple #[.agg #[sl], .int .i64 b0, .int .i64 b1]) ∧ PRow w' w.heap.size sl xs p ∧ (1 ≤ p.length ∧ p.length ≤ 7) ∧ Below w.heap.size w w' := by
  have hv1 := hv.keep (al1 (o := (.cells #[.slice none 0 0] 30)))
  clear hv
  go_enter Try.func76, Try.ntmps76
  go_wp2_with fail
  refine (S_newReader v l _ hv1 hl).mono ?_
  rintro e w0 ⟨rfl, hr, hb, hz⟩
  have hb1 := bthen al1 hb
  have r0 := fun o => (bcell hb).1 w.heap.size o (by simp)
  have m0 := fun o => (bcell hb).2 w.heap.size o (by simp)
  rw [World.size_alloc] at hr hz
  have hz0 : w.heap.size + 1 < w0.heap.size := by omega
  have hcur := Only.refl (w.heap.size + 1) (w.heap.size + 1 + 1) w0
  clear hz hb hv1
  go_wp2_with fail
  refine (S_useOf (w.heap.size + 1) _ _ hr (by omega)).mono ?_
  rintro e w1 ⟨sl, xs, p, b, x, rfl, hrow, hp, hr, ho⟩
  have hcur := hcur.trans ho
  obtain ⟨A, C, rfl⟩ := PRowX.form hrow
  have hw1 : w.heap.size + 1 ≤ w0.heap.size := by omega
  have r1 := fun o => ((ocell hcur).1 w.heap.size o (by omega) (by omega)).trans (r0 o)
  have m1 := fun o => ((ocell hcur).2 w.heap.size o (by omega) (by omega)).trans (m0 o)
  clear r0 m0
  go_wp2
  exact bodyPost_ret (v := .tuple #[.agg #[.slice A p.length C], .int .i64 b, .int .i64 x]) (by simp [results, Try.results76, go_sem, r1]) rfl
    ⟨.slice A p.length C, xs, p, b, x, rfl, (PRowX.only hrow ((Only.refl w.heap.size (w.heap.size + 1) _).setCell (Nat.le_refl _) (Nat.lt_succ_self _) _) (by omega)).lo_ (lo' := w.heap.size) (by omega), hp, ((hb1.trans ((hcur.below (by omega)).mono (by omega))).setCell (Nat.le_refl _) _)⟩

set_option maxRecDepth 100000 in
set_option maxHeartbeats 2000000 in
theorem S_DrawOuterOf (v : Value) (l : List Int) (w : World) (hv : OBytes w v l) (hl : l.length ≤ 1048576) :
    Calls Try.prog 72 #[v] w fun e w' => ∃ (sl : Value) (xs : List Value) (p : Pr) (b0 b1 : Int), e = .returned (.tuple #[.agg #[sl], .int .i64 b0, .int .i64 b1]) ∧ PRow w' w.heap.size sl xs p ∧ (1 ≤ p.length ∧ p.length ≤ 7) ∧ Below w.heap.size w w' := by
  have hv1 := hv.keep (al1 (o := (.cells #[.slice none 0 0] 30)))
  clear hv
  go_enter Try.func72, Try.ntmps72
  go_wp2_with fail
  refine (S_newReader v l _ hv1 hl).mono ?_
  rintro e w0 ⟨rfl, hr, hb, hz⟩
  have hb1 := bthen al1 hb
  have r0 := fun o => (bcell hb).1 w.heap.size o (by simp)
  have m0 := fun o => (bcell hb).2 w.heap.size o (by simp)
  rw [World.size_alloc] at hr hz
  have hz0 : w.heap.size + 1 < w0.heap.size := by omega
  have hcur := Only.refl (w.heap.size + 1) (w.heap.size + 1 + 1) w0
  clear hz hb hv1
  go_wp2_with fail
  refine (S_useOf (w.heap.size + 1) _ _ hr (by omega)).mono ?_
  rintro e w1 ⟨sl, xs, p, b, x, rfl, hrow, hp, hr, ho⟩
  have hcur := hcur.trans ho
  obtain ⟨A, C, rfl⟩ := PRowX.form hrow
  have hw1 : w.heap.size + 1 ≤ w0.heap.size := by omega
  have r1 := fun o => ((ocell hcur).1 w.heap.size o (by omega) (by omega)).trans (r0 o)
  have m1 := fun o => ((ocell hcur).2 w.heap.size o (by omega) (by omega)).trans (m0 o)
  clear r0 m0
  go_wp2
  exact bodyPost_ret (v := .tuple #[.agg #[.slice A p.length C], .int .i64 b, .int .i64 x]) (by simp [results, Try.results72, go_sem, r1]) rfl
    ⟨.slice A p.length C, xs, p, b, x, rfl, (PRowX.only hrow ((Only.refl w.heap.size (w.heap.size + 1) _).setCell (Nat.le_refl _) (Nat.lt_succ_self _) _) (by omega)).lo_ (lo' := w.heap.size) (by omega), hp, ((hb1.trans ((hcur.below (by omega)).mono (by omega))).setCell (Nat.le_refl _) _)⟩

set_option maxRecDepth 100000 in
set_option maxHeartbeats 2000000 in
theorem S_DrawOwnerOf (v : Value) (l : List Int) (w : World) (hv : OBytes w v l) (hl : l.length ≤ 1048576) :
    Calls Try.prog 80 #[v] w fun e w' => ∃ (sl : Value) (xs : List Value) (p : Pr) (b0 b1 : Int), e = .returned (.tuple #[.agg #[sl], .int .i64 b0, .int .i64 b1]) ∧ PRow w' w.heap.size sl xs p ∧ (1 ≤ p.length ∧ p.length ≤ 7) ∧ Below w.heap.size w w' := by
  have hv1 := hv.keep (al1 (o := (.cells #[.slice none 0 0] 30)))
  clear hv
  go_enter Try.func80, Try.ntmps80
  go_wp2_with fail
  refine (S_newReader v l _ hv1 hl).mono ?_
  rintro e w0 ⟨rfl, hr, hb, hz⟩
  have hb1 := bthen al1 hb
  have r0 := fun o => (bcell hb).1 w.heap.size o (by simp)
  have m0 := fun o => (bcell hb).2 w.heap.size o (by simp)
  rw [World.size_alloc] at hr hz
  have hz0 : w.heap.size + 1 < w0.heap.size := by omega
  have hcur := Only.refl (w.heap.size + 1) (w.heap.size + 1 + 1) w0
  clear hz hb hv1
  go_wp2_with fail
  refine (S_useOf (w.heap.size + 1) _ _ hr (by omega)).mono ?_
  rintro e w1 ⟨sl, xs, p, b, x, rfl, hrow, hp, hr, ho⟩
  have hcur := hcur.trans ho
  obtain ⟨A, C, rfl⟩ := PRowX.form hrow
  have hw1 : w.heap.size + 1 ≤ w0.heap.size := by omega
  have r1 := fun o => ((ocell hcur).1 w.heap.size o (by omega) (by omega)).trans (r0 o)
  have m1 := fun o => ((ocell hcur).2 w.heap.size o (by omega) (by omega)).trans (m0 o)
  clear r0 m0
  go_wp2
  exact bodyPost_ret (v := .tuple #[.agg #[.slice A p.length C], .int .i64 b, .int .i64 x]) (by simp [results, Try.results80, go_sem, r1]) rfl
    ⟨.slice A p.length C, xs, p, b, x, rfl, (PRowX.only hrow ((Only.refl w.heap.size (w.heap.size + 1) _).setCell (Nat.le_refl _) (Nat.lt_succ_self _) _) (by omega)).lo_ (lo' := w.heap.size) (by omega), hp, ((hb1.trans ((hcur.below (by omega)).mono (by omega))).setCell (Nat.le_refl _) _)⟩

set_option maxRecDepth 100000 in
set_option maxHeartbeats 2000000 in
theorem S_DrawSymbolOf (v : Value) (l : List Int) (w : World) (hv : OBytes w v l) (hl : l.length ≤ 1048576) :
    Calls Try.prog 103 #[v] w fun e w' => ∃ (sl : Value) (xs : List Value) (p : Pr) (b0 b1 : Int), e = .returned (.tuple #[.agg #[sl], .int .i64 b0, .int .i64 b1]) ∧ PRow w' w.heap.size sl xs p ∧ (1 ≤ p.length ∧ p.length ≤ 7) ∧ Below w.heap.size w w' := by
  have hv1 := hv.keep (al1 (o := (.cells #[.slice none 0 0] 30)))
  clear hv
  go_enter Try.func103, Try.ntmps103
  go_wp2_with fail
  refine (S_newReader v l _ hv1 hl).mono ?_
  rintro e w0 ⟨rfl, hr, hb, hz⟩
  have hb1 := bthen al1 hb
  have r0 := fun o => (bcell hb).1 w.heap.size o (by simp)
  have m0 := fun o => (bcell hb).2 w.heap.size o (by simp)
  rw [World.size_alloc] at hr hz
  have hz0 : w.heap.size + 1 < w0.heap.size := by omega
  have hcur := Only.refl (w.heap.size + 1) (w.heap.size + 1 + 1) w0
  clear hz hb hv1
  go_wp2_with fail
  refine (S_useOf (w.heap.size + 1) _ _ hr (by omega)).mono ?_
  rintro e w1 ⟨sl, xs, p, b, x, rfl, hrow, hp, hr, ho⟩
  have hcur := hcur.trans ho
  obtain ⟨A, C, rfl⟩ := PRowX.form hrow
  have hw1 : w.heap.size + 1 ≤ w0.heap.size := by omega
  have r1 := fun o => ((ocell hcur).1 w.heap.size o (by omega) (by omega)).trans (r0 o)
  have m1 := fun o => ((ocell hcur).2 w.heap.size o (by omega) (by omega)).trans (m0 o)
  clear r0 m0
  go_wp2
  exact bodyPost_ret (v := .tuple #[.agg #[.slice A p.length C], .int .i64 b, .int .i64 x]) (by simp [results, Try.results103, go_sem, r1]) rfl
    ⟨.slice A p.length C, xs, p, b, x, rfl, (PRowX.only hrow ((Only.refl w.heap.size (w.heap.size + 1) _).setCell (Nat.le_refl _) (Nat.lt_succ_self _) _) (by omega)).lo_ (lo' := w.heap.size) (by omega), hp, ((hb1.trans ((hcur.below (by omega)).mono (by omega))).setCell (Nat.le_refl _) _)⟩

set_option maxRecDepth 100000 in
set_option maxHeartbeats 2000000 in
theorem S_DrawTouchedBy (v : Value) (l : List Int) (w : World) (hv : OBytes w v l) (hl : l.length ≤ 1048576) :
    Calls Try.prog 111 #[v] w fun e w' => ∃ (sl : Value) (xs : List Value) (p : Pr) (b0 b1 : Int), e = .returned (.tuple #[.agg #[sl], .int .i64 b0, .int .i64 b1]) ∧ PRow w' w.heap.size sl xs p ∧ (1 ≤ p.length ∧ p.length ≤ 7) ∧ Below w.heap.size w w' := by
  have hv1 := hv.keep (al1 (o := (.cells #[.slice none 0 0] 30)))
  clear hv
  go_enter Try.func111, Try.ntmps111
  go_wp2_with fail
  refine (S_newReader v l _ hv1 hl).mono ?_
  rintro e w0 ⟨rfl, hr, hb, hz⟩
  have hb1 := bthen al1 hb
  have r0 := fun o => (bcell hb).1 w.heap.size o (by simp)
  have m0 := fun o => (bcell hb).2 w.heap.size o (by simp)
  rw [World.size_alloc] at hr hz
  have hz0 : w.heap.size + 1 < w0.heap.size := by omega
  have hcur := Only.refl (w.heap.size + 1) (w.heap.size + 1 + 1) w0
  clear hz hb hv1
  go_wp2_with fail
  refine (S_useOf (w.heap.size + 1) _ _ hr (by omega)).mono ?_
  rintro e w1 ⟨sl, xs, p, b, x, rfl, hrow, hp, hr, ho⟩
  have hcur := hcur.trans ho
  obtain ⟨A, C, rfl⟩ := PRowX.form hrow
  have hw1 : w.heap.size + 1 ≤ w0.heap.size := by omega
  have r1 := fun o => ((ocell hcur).1 w.heap.size o (by omega) (by omega)).trans (r0 o)
  have m1 := fun o => ((ocell hcur).2 w.heap.size o (by omega) (by omega)).trans (m0 o)
  clear r0 m0
  go_wp2
  exact bodyPost_ret (v := .tuple #[.agg #[.slice A p.length C], .int .i64 b, .int .i64 x]) (by simp [results, Try.results111, go_sem, r1]) rfl
    ⟨.slice A p.length C, xs, p, b, x, rfl, (PRowX.only hrow ((Only.refl w.heap.size (w.heap.size + 1) _).setCell (Nat.le_refl _) (Nat.lt_succ_self _) _) (by omega)).lo_ (lo' := w.heap.size) (by omega), hp, ((hb1.trans ((hcur.below (by omega)).mono (by omega))).setCell (Nat.le_refl _) _)⟩

set_option maxRecDepth 100000 in
set_option maxHeartbeats 2000000 in
theorem S_DrawDeclaredIn (v : Value) (l : List Int) (w : World) (hv : OBytes w v l) (hl : l.length ≤ 1048576) :
    Calls Try.prog 47 #[v] w fun e w' => ∃ (sl : Value) (xs : List Value) (p : Pr) (b0 b1 : Int), e = .returned (.tuple #[.agg #[sl], .int .i64 b0, .int .i64 b1]) ∧ PRow w' w.heap.size sl xs p ∧ (1 ≤ p.length ∧ p.length ≤ 7) ∧ Below w.heap.size w w' := by
  have hv1 := hv.keep (al1 (o := (.cells #[.slice none 0 0] 30)))
  clear hv
  go_enter Try.func47, Try.ntmps47
  go_wp2_with fail
  refine (S_newReader v l _ hv1 hl).mono ?_
  rintro e w0 ⟨rfl, hr, hb, hz⟩
  have hb1 := bthen al1 hb
  have r0 := fun o => (bcell hb).1 w.heap.size o (by simp)
  have m0 := fun o => (bcell hb).2 w.heap.size o (by simp)
  rw [World.size_alloc] at hr hz
  have hz0 : w.heap.size + 1 < w0.heap.size := by omega
  have hcur := Only.refl (w.heap.size + 1) (w.heap.size + 1 + 1) w0
  clear hz hb hv1
  go_wp2_with fail
  refine (S_blockOf (w.heap.size + 1) _ _ hr (by omega)).mono ?_
  rintro e w1 ⟨sl, xs, p, b, rfl, hrow, hp, hr, ho⟩
  have hcur := hcur.trans ho
  have hsz1 : w.heap.size + 1 ≤ w1.heap.size := by have := ho.size; first | (simp only [World.size_alloc] at this; omega) | omega
  try simp only [World.size_alloc] at hrow
  obtain ⟨ga, Cp, rfl, _, hCp, hga1, hga2, _, _⟩ := PRowX.rd hrow (by omega)
  have hrow := PRowX.lo_ (lo' := w.heap.size + 1 + 1) hrow (by omega)
  unfold maxLen at hCp
  obtain ⟨n0, hn0⟩ : ∃ n0 : Nat, n0 = p.length := ⟨_, rfl⟩
  have hpn : p.length = n0 := hn0.symm
  rw [← hn0] at hrow ⊢
  have hrow := PRowX.keep hrow (al1 (o := (.cells #[.slice (some ⟨ga, 0, none⟩) n0 Cp] 30)))
  have hcur := hcur.alloc (.cells #[.slice (some ⟨ga, 0, none⟩) n0 Cp] 30)
  have hr := hr.keep (al1 (o := (.cells #[.slice (some ⟨ga, 0, none⟩) n0 Cp] 30)))
  have bP : BoxP (w1.alloc (.cells #[.slice (some ⟨ga, 0, none⟩) n0 Cp] 30)) w1.heap.size (.slice (some ⟨ga, 0, none⟩) n0 Cp) := BoxP.new rfl _
  obtain ⟨PB, hPB⟩ : ∃ PB : Nat, PB = w1.heap.size := ⟨_, rfl⟩
  have hPB1 : w.heap.size + 1 ≤ PB := by omega
  have hgPB : w.heap.size + 1 < PB := by rw [hPB]; have := ho.size; first | (simp only [World.size_alloc] at this; omega) | omega
  have hgaPB : ga < PB := by omega
  have hgal : w.heap.size + 1 ≤ ga := by omega
  have hgg : w.heap.size + 1 + 1 ≤ w.heap.size + 1 ∨ w.heap.size + 2 ≤ ga := by omega
  rw [← hPB] at bP
  have HN := Lib.hid hn0
  clear hn0
  obtain ⟨W2, hW2⟩ : ∃ W2 : World, W2 = w1.alloc (.cells #[.slice (some ⟨ga, 0, none⟩) n0 Cp] 30) := ⟨_, rfl⟩
  go_wp2_with fail
  rw [← hPB, ← hW2]
  rw [← hW2] at hrow hcur hr bP
  clear hPB hsz1 ho hga1 hga2 hW2
  have r1 := fun o => ((ocell hcur).1 w.heap.size o (by omega) (by omega)).trans (r0 o)
  have m1 := fun o => ((ocell hcur).2 w.heap.size o (by omega) (by omega)).trans (m0 o)
  have hrow := PRowX.keep hrow (below0 W2).drew
  have hr := hr.drew
  have hcur := hcur.drew
  have zP := lt_of_block bP
  have cP : W2.cell? ⟨PB, 0, none⟩ = some (.slice (some ⟨ga, 0, none⟩) n0 Cp) := bP.cell
  have bP : BoxP W2.drew PB (.slice (some ⟨ga, 0, none⟩) n0 Cp) := bP
  go_wp2
  go_region_held3 (fun w' => w'.cell? ⟨PB, 0, none⟩ = some (.slice (some ⟨ga, 0, none⟩) n0 Cp))
    (first | go_keep | exact cP | exact (bP.other _ _ (show PB ≠ w.heap.size by omega)).cell)
    (first
      | (go_at_call 122
         refine (S_oneL (w.heap.size + 1) _ [9, 10, 11, 0] _ _ rfl hr (by omega) (by simp) (by simp)).mono ?_
         rintro e wz ⟨z, rfl, zm, hr, ho⟩
         have hcur := hcur.trans ho
         have bP := bP.only ho (by omega)
         have hrow := PRowX.only hrow ho (by omega)
         have cP := bP.cell
         have zP := lt_of_block bP
         have r1 := fun o => ((ocell hcur).1 w.heap.size o (by omega) (by omega)).trans (r0 o)
         have m1 := fun o => ((ocell hcur).2 w.heap.size o (by omega) (by omega)).trans (m0 o)
         clear ho)
    )
  all_goals
    have cP := bP.cell
    have r1 := fun o => ((ocell hcur).1 w.heap.size o (by omega) (by omega)).trans (r0 o)
    have m1 := fun o => ((ocell hcur).2 w.heap.size o (by omega) (by omega)).trans (m0 o)
    go_wp2
    exact bodyPost_ret (v := .tuple #[.agg #[(.slice (some ⟨ga, 0, none⟩) n0 Cp)], .int .i64 b, .int .i64 z]) (by simp [results, Try.results47, go_sem, r1]) rfl
      ⟨(.slice (some ⟨ga, 0, none⟩) n0 Cp), xs, p, b, z, rfl, (show PRowX _ _ _ _ _ p.length by rw [hpn]; exact (PRowX.only hrow ((Only.refl w.heap.size (w.heap.size + 1) _).setCell (Nat.le_refl _) (Nat.lt_succ_self _) _) (by omega)).lo_ (lo' := w.heap.size) (by omega)), ⟨by omega, by omega⟩, ((hb1.trans ((hcur.below (by omega)).mono (by omega))).setCell (Nat.le_refl _) _)⟩

set_option maxRecDepth 100000 in
set_option maxHeartbeats 2000000 in
theorem S_DrawValidProgram (v : Value) (l : List Int) (w : World) (hv : OBytes w v l) (hl : l.length ≤ 1048576) :
    Calls Try.prog 97 #[v] w fun e w' => ∃ (sl : Value) (xs : List Value) (p : Pr), e = .returned (.agg #[sl]) ∧ PRow w' w.heap.size sl xs p ∧ (1 ≤ p.length ∧ p.length ≤ 7) ∧ Below w.heap.size w w' := by
  have hv1 := hv.keep (al1 (o := (.cells #[.slice none 0 0] 30)))
  clear hv
  go_enter Try.func97, Try.ntmps97
  go_wp2_with fail
  refine (S_newReader v l _ hv1 hl).mono ?_
  rintro e w0 ⟨rfl, hr, hb, hz⟩
  have hb1 := bthen al1 hb
  have r0 := fun o => (bcell hb).1 w.heap.size o (by simp)
  have m0 := fun o => (bcell hb).2 w.heap.size o (by simp)
  rw [World.size_alloc] at hr hz
  have hz0 : w.heap.size + 1 < w0.heap.size := by omega
  have hcur := Only.refl (w.heap.size + 1) (w.heap.size + 1 + 1) w0
  clear hz hb hv1
  go_wp2_with fail
  refine (S_pick (w.heap.size + 1) _ 3 _ hr (by omega)).mono ?_
  rintro e wq ⟨c, rfl, c0, c1, hr, ho, hsz⟩
  have hcur := hcur.trans ho
  clear ho c0 c1
  by_cases h0 : c = 0
  · subst h0
    go_wp2_with fail
    refine (S_shapedProgram (w.heap.size + 1) _ _ hr (by omega)).mono ?_
    rintro e w1 ⟨sl, xs, p, rfl, hrow, hT, hpl, hr, ho⟩
    have hcur := hcur.trans ho
    have hp : 1 ≤ p.length ∧ p.length ≤ 7 := ⟨hT.len, by omega⟩
    obtain ⟨A, C, rfl⟩ := PRowX.form hrow
    have r1 := fun o => ((ocell hcur).1 w.heap.size o (by omega) (by omega)).trans (r0 o)
    have m1 := fun o => ((ocell hcur).2 w.heap.size o (by omega) (by omega)).trans (m0 o)
    clear r0 m0
    go_wp2
    exact bodyPost_ret (v := .agg #[.slice A p.length C]) (by simp [results, Try.results97, go_sem, r1]) rfl
      ⟨.slice A p.length C, xs, p, rfl, (PRowX.only hrow ((Only.refl w.heap.size (w.heap.size + 1) _).setCell (Nat.le_refl _) (Nat.lt_succ_self _) _) (by omega)).lo_ (lo' := w.heap.size) (by omega), hp, ((hb1.trans ((hcur.below (by omega)).mono (by omega))).setCell (Nat.le_refl _) _)⟩
  have q0 : (c == 0) = false := by rw [beq_eq_false_iff_ne]; exact h0
  go_wp2_with fail
  refine (S_anyProgram (w.heap.size + 1) _ _ hr (by omega)).mono ?_
  rintro e w1 ⟨sl, xs, p, rfl, hrow, hp, hr, ho⟩
  have hcur := hcur.trans ho
  obtain ⟨A, C, rfl⟩ := PRowX.form hrow
  have r1 := fun o => ((ocell hcur).1 w.heap.size o (by omega) (by omega)).trans (r0 o)
  have m1 := fun o => ((ocell hcur).2 w.heap.size o (by omega) (by omega)).trans (m0 o)
  clear r0 m0
  go_wp2
  exact bodyPost_ret (v := .agg #[.slice A p.length C]) (by simp [results, Try.results97, go_sem, r1]) rfl
    ⟨.slice A p.length C, xs, p, rfl, (PRowX.only hrow ((Only.refl w.heap.size (w.heap.size + 1) _).setCell (Nat.le_refl _) (Nat.lt_succ_self _) _) (by omega)).lo_ (lo' := w.heap.size) (by omega), hp, ((hb1.trans ((hcur.below (by omega)).mono (by omega))).setCell (Nat.le_refl _) _)⟩

end Go.Proofs.Ytklikpcfmmpocaa

namespace Go.Proofs.Ytklikpcfmmpocaa
open Go.RowKit
set_option linter.unusedVariables false

theorem L_equalInts (va vb : Value) (la lb : List Int) (l1 l2 : Nat) (w : World) (ha : Ints w l1 va la) (hb : Ints w l2 vb lb) :
    Calls Try.prog 43 #[va, vb] w fun e w' => e = .returned (.bool (la == lb)) ∧ Below w.heap.size w w' := by
  obtain ⟨A, C, g, rfl, hn, hc, hA, hg, hcell, hf⟩ := ha.rd
  obtain ⟨A', C', g', rfl, hn', hc', hA', hg', hcell', hf'⟩ := hb.rd
  clear ha hb hf hf'
  unfold maxLen at hc hc'
  by_cases hl : la.length = lb.length
  · have H := Lib.hid hl
    have hb0 : ((la.length : Int) != (lb.length : Int)) = false := by rw [hl]; simp
    have hn1 : la.length ≤ lb.length := by omega
    clear hl
    go_enter Try.func43, Try.ntmps43
    go_wp2
    go_loopw [5] (fun i wr => ∃ k : Nat, k ≤ la.length ∧ i = .int .i64 k ∧ Below w.heap.size w wr ∧ ∀ j, j < k → la.getD j 0 = lb.getD j 0) (fun i _ => la.length - (intOf i).toNat)
    case atStart => exact ⟨0, Nat.zero_le _, rfl, Below.refl _ _, fun j hj => absurd hj (Nat.not_lt_zero _)⟩
    case round =>
      obtain ⟨k, hk, rfl, hB, hp⟩ := hrel
      have HP := Lib.hid hp
      clear hp
      by_cases hlt : k < la.length
      · have c1 := (hB.cell (p := ⟨g, k, none⟩) (hg (by omega)).2).trans (hcell k hlt)
        have c2 := (hB.cell (p := ⟨g', k, none⟩) (hg' (by omega)).2).trans (hcell' k (by omega))
        obtain rfl := hA (by omega)
        obtain rfl := hA' (by omega)
        clear hA hA' hcell hcell' hg hg'
        generalize hx : la.getD k 0 = x at c1
        generalize hy : lb.getD k 0 = y at c2
        have HX := Lib.hid hx
        have HY := Lib.hid hy
        clear hx hy
        by_cases hxy : x = y
        · have HE := Lib.hid hxy
          have hb1 : (x != y) = false := by simp [hxy]
          clear hxy
          go_wp2
          go_quiet (fail)
          go_wp2
          go_roundw
          case rel => exact ⟨k + 1, by omega, by go_num, below_drewN hB _, fun j hj => by
            rcases Nat.lt_succ_iff_lt_or_eq.1 hj with h | rfl
            · exact HP.out j h
            · rw [HX.out, HY.out, HE.out]⟩
          case measure => simp [intOf]; omega
        · have HE := Lib.hid hxy
          have hb1 : (x != y) = true := by simp [hxy]
          clear hxy
          go_wp2
          go_quiet (fail)
          go_wp2
          go_ret
          refine ⟨ret_bool ?_, below_drewN hB _⟩
          rw [eq_comm, beq_eq_false_iff_ne]
          rintro rfl
          exact HE.out (by rw [← HX.out, ← HY.out])
      · go_wp2
        go_ret
        refine ⟨ret_bool ?_, hB⟩
        obtain rfl : k = la.length := by omega
        rw [eq_comm, beq_iff_eq]
        refine List.ext_getElem H.out fun i h1 h2 => ?_
        have := HP.out i h1
        simpa [List.getD, h1, h2] using this
  · have hb0 : ((la.length : Int) != (lb.length : Int)) = true := by simp; omega
    go_enter Try.func43, Try.ntmps43
    go_wp2
    go_ret
    refine ⟨ret_bool ?_, Below.refl _ _⟩
    rw [eq_comm, beq_eq_false_iff_ne]
    intro h
    exact absurd (congrArg _ h) hl

theorem L_isIn (v : Value) (l : List Int) (lo : Nat) (n : Int) (w : World) (hv : Ints w lo v l) :
    Calls Try.prog 45 #[v, .int .i64 n] w fun e w' => e = .returned (.bool (hasF l n)) ∧ w = w' := by
  obtain ⟨A, C, g, rfl, hn, hc, hA, hg, hcell, hf⟩ := hv.rd
  clear hf hv hg
  unfold maxLen at hc
  go_enter Try.func45, Try.ntmps45
  go_wp2
  go_loop [5] (fun i => ∃ k : Nat, k ≤ l.length ∧ i = .int .i64 k ∧ ∀ j, j < k → l.getD j 0 ≠ n) (fun i => l.length - (intOf i).toNat)
  case atStart => exact ⟨0, Nat.zero_le _, rfl, fun j hj => absurd hj (Nat.not_lt_zero _)⟩
  case round =>
    obtain ⟨k, hk, rfl, hp⟩ := hrel
    have HP := Lib.hid hp
    clear hp
    by_cases hlt : k < l.length
    · have c1 := hcell k hlt
      obtain rfl := hA (by omega)
      clear hA hcell
      generalize hx : l.getD k 0 = x at c1
      have HX := Lib.hid hx
      clear hx
      by_cases hxn : x = n
      · have hb : (x == n) = true := by simp [hxn]
        have HE := Lib.hid hxn
        clear hxn
        go_wp2
        go_ret
        refine ⟨ret_bool ?_, rfl⟩
        rw [eq_comm, hasF_iff, ← HE.out, ← HX.out]
        have e3 : l.getD k 0 = l[k] := by simp [List.getD, hlt]
        rw [e3]
        exact List.getElem_mem _
      · have hb : (x == n) = false := by simp [hxn]
        have HE := Lib.hid hxn
        clear hxn
        go_wp2
        go_round
        case rel => exact ⟨k + 1, by omega, by go_num, fun j hj => by
          rcases Nat.lt_succ_iff_lt_or_eq.1 hj with h | rfl
          · exact HP.out j h
          · rw [HX.out]; exact HE.out⟩
        case measure => simp [intOf]; omega
    · go_wp2
      go_ret
      refine ⟨ret_bool ?_, rfl⟩
      rw [eq_comm, Bool.eq_false_iff]
      intro h
      rw [hasF_iff, List.mem_iff_getElem] at h
      obtain ⟨j, hj, e⟩ := h
      exact HP.out j (by omega) (by simp [List.getD, hj, e])

/-- All numbers of the one list are in the other one: within says so. -/
theorem L_within (v u : Value) (l m : List Int) (lo lo2 : Nat) (w : World) (hv : Ints w lo v l) (hu : Ints w lo2 u m) (hall : ∀ x ∈ l, x ∈ m) :
    Calls Try.prog 53 #[v, u] w fun e w' => e = .returned (.bool true) ∧ w = w' := by
  obtain ⟨A, C, g, rfl, hn, hc, hA, hg, hcell, hf⟩ := hv.rd
  have HU := Lib.hid hu
  have HALL := Lib.hid hall
  clear hf hv hg hu hall
  unfold maxLen at hc
  go_enter Try.func53, Try.ntmps53
  go_wp2
  go_loop [5] (fun i => ∃ k : Nat, k ≤ l.length ∧ i = .int .i64 k) (fun i => l.length - (intOf i).toNat)
  case atStart => exact ⟨0, Nat.zero_le _, rfl⟩
  case round =>
    obtain ⟨k, hk, rfl⟩ := hrel
    by_cases hlt : k < l.length
    · have c1 := hcell k hlt
      obtain rfl := hA (by omega)
      have hin : hasF m (l.getD k 0) = true := by
        rw [hasF_iff]
        refine HALL.out _ ?_
        have e3 : l.getD k 0 = l[k] := by simp [List.getD, hlt]
        rw [e3]
        exact List.getElem_mem _
      have HIN := Lib.hid hin
      clear hA hcell hin
      generalize l.getD k 0 = x at *
      go_wp2_with (go_at_call 45; refine (L_isIn u m _ x _ HU.out).mono ?_; rintro e w' ⟨rfl, rfl⟩; rw [HIN.out])
      go_round
      case rel => exact ⟨k + 1, by omega, by go_num⟩
      case measure => simp [intOf]; omega
    · go_wp2
      go_ret
      exact ⟨rfl, rfl⟩

/-- An ascending list: ascends says so. -/
theorem L_ascends (v : Value) (l : List Int) (lo : Nat) (w : World) (hv : Ints w lo v l) (hasc : l.Pairwise (· < ·)) :
    Calls Try.prog 46 #[v] w fun e w' => e = .returned (.bool true) ∧ Below w.heap.size w w' := by
  obtain ⟨A, C, g, rfl, hn, hc, hA, hg, hcell, hf⟩ := hv.rd
  have hpw : ∀ k, 0 < k → k < l.length → ∃ a b, l.getD k 0 = a ∧ l.getD (k - 1) 0 = b ∧ b < a := fun k h0 h1 => by
    refine ⟨_, _, rfl, rfl, ?_⟩
    have := List.pairwise_iff_getElem.1 hasc (k - 1) k (by omega) h1 (by omega)
    simpa [List.getD, h1, show k - 1 < l.length by omega] using this
  have HPW := Lib.hid hpw
  clear hf hv hasc hpw
  unfold maxLen at hc
  go_enter Try.func46, Try.ntmps46
  go_wp2
  go_loopw [3] (fun i wr => ∃ k : Nat, 0 < k ∧ (k ≤ l.length ∨ k = 1) ∧ i = .int .i64 k ∧ Below w.heap.size w wr) (fun i _ => l.length - (intOf i).toNat)
  case atStart => exact ⟨1, by omega, .inr rfl, rfl, Below.refl _ _⟩
  case round =>
    obtain ⟨k, hk0, hk, rfl, hB⟩ := hrel
    by_cases hlt : k < l.length
    · have c1 := (hB.cell (p := ⟨g, k, none⟩) (hg (by omega)).2).trans (hcell k hlt)
      have c2 := (hB.cell (p := ⟨g, k - 1, none⟩) (hg (by omega)).2).trans (hcell (k - 1) (by omega))
      obtain rfl := hA (by omega)
      obtain ⟨x, y, hx, hy, hlt2⟩ := HPW.out k hk0 hlt
      rw [hx] at c1
      rw [hy] at c2
      have hle : ¬ x ≤ y := by omega
      have c3 : wr.cell? ⟨g, ((k : Int) - 1).toNat, none⟩ = some (.int .i64 y) := by rw [show ((k : Int) - 1).toNat = k - 1 by omega]; exact c2
      clear hA hcell hg hx hy
      go_wp2
      go_quiet (fail)
      go_wp2
      go_roundw
      case rel => exact ⟨k + 1, by omega, by omega, by go_num, below_drewN hB _⟩
      case measure => simp [intOf]; omega
    · go_wp2
      go_ret
      exact ⟨rfl, hB⟩

set_option maxRecDepth 100000 in
theorem L_join (v u : Value) (l m : List Int) (lo lo2 : Nat) (w : World) (hv : Ints w lo v l) (hu : Ints w lo2 u m) (hl : l.length + m.length ≤ 1000000) :
    Calls Try.prog 85 #[v, u] w fun e w' => ∃ v', e = .returned v' ∧ Ints w' w.heap.size v' (l ++ m) ∧ Below w.heap.size w w' := by
  have HV := Lib.hid hv
  have HU := Lib.hid hu
  clear hv hu
  go_enter Try.func85, Try.ntmps85
  go_wp2_with (first
    | (at_builtin; refine wpList_append_ints rfl _ _ rfl _ _ ([] ++ l) m w.heap.size _ rfl rfl h1 (HU.out.keep hb1') (by simp; omega) hb1'.size ?_; intro v2 w2 h2 _ hb2 _; have hb2' := hb1'.trans hb2)
    | (at_builtin; refine wpList_append_ints rfl _ _ rfl _ _ [] l w.heap.size _ rfl rfl (Ints.zero w _ (Nat.le_refl _)) (HV.out.keep al1) (by simp; omega) (by simp) ?_; intro v1 w1 h1 _ hb1 _; have hb1' := al1.trans hb1))
  go_ret
  exact ⟨_, rfl, by simpa using h2, hb2'⟩

end Go.Proofs.Ytklikpcfmmpocaa

namespace Go.Proofs.Ytklikpcfmmpocaa
open Go.ChangeShapes Go.WideShapes Go.ChangeAt Go.RowKit Go.Deep
set_option linter.unusedVariables false


set_option maxRecDepth 100000 in
theorem open_obytes {H : Type} {enc : TypeId × Value → H} {w : World} {base : Nat} {spare : Nat → Bool} {held : Bool} {v : Value} {d : DataW H} {ps : List MemPlace} {r : Reach} {b0 : Nat} (hv : Value.okWide Try.prog w r b0 22 v) (h : DataW.Trod enc Try.prog w base spare held 22 v d ps) : ∃ l, OBytes w v l := by
  obtain ⟨fuel, hf⟩ := h
  obtain ⟨v', n, f, hcs, ho, hel⟩ := old_slice Try.underlying22 (show Try.prog.cellsOf 5 = 1 by kernel_rfl) (by omega) hf
  obtain ⟨a0, l0, c0, rfl⟩ := okWide_slice Try.underlying22 hv
  have hvv : Value.slice a0 l0 c0 = v' := by simpa [Value.cells] using hcs
  subst hvv
  have hw : ∀ j, j < n → ∃ q : Int, f j = .int .u8 q ∧ 0 ≤ q ∧ q ≤ 255 := fun j hj => by
    obtain ⟨m, y, ht⟩ := hel j hj
    obtain ⟨q, hq, _, hwf⟩ := DataW.trod_int Try.underlying5 ht
    simp only [Nat.mul_one, List.range_one, List.map_cons, List.map_nil, Nat.add_zero, List.cons.injEq, and_true] at hq
    have := bounds_u8 hwf
    exact ⟨q, hq, this.1, this.2⟩
  refine ⟨(List.range n).map fun i => intOf (f i), ?_, ?_⟩
  · obtain ⟨A, C, b, o, h1, h2, h3, h4, h5⟩ := ho
    refine ⟨A, C, b, o, by simpa using h1, by simpa using h2, h3, by simpa using h4, fun j hj => ?_⟩
    have hj' : j < n := by simpa using hj
    obtain ⟨q, hq, _⟩ := hw j hj'
    rw [h5 j (by omega)]
    simp [List.getD, hj', hq, intOf]
  · intro x hx
    obtain ⟨i, hi, rfl⟩ := List.mem_map.1 hx
    obtain ⟨q, hq, h0, h1⟩ := hw i (by simpa using hi)
    rw [hq]
    exact ⟨h0, h1⟩

end Go.Proofs.Ytklikpcfmmpocaa
