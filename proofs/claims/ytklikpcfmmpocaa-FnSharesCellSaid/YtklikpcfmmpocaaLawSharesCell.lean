/-
  The law FnSharesCell: for every input it answers true and leaves its argument as it was. No condition.
-/
import Derived.Test.YtklikpcfmmpocaaFrame
import Derived.Test.YtklikpcfmmpocaaFacts
import Derived.Test.YtklikpcfmmpocaaDwA
import Derived.Test.YtklikpcfmmpocaaDwC
import Derived.Test.YtklikpcfmmpocaaSpec9
import Derived.Test.YtklikpcfmmpocaaSpec4
import Derived.Test.YtklikpcfmmpocaaEq
import Derived.BigQuiet
import Derived.Test.YtklikpcfmmpocaaImpl16
import Derived.Test.YtklikpcfmmpocaaImpl12
import Derived.Test.YtklikpcfmmpocaaImpl10
import Derived.Test.YtklikpcfmmpocaaMath2
import Derived.Test.YtklikpcfmmpocaaSpec14
import Derived.Test.YtklikpcfmmpocaaSpec15
import Derived.Test.YtklikpcfmmpocaaSpec16
namespace Go.Proofs.Ytklikpcfmmpocaa
open Go.RowKit
set_option linter.unusedVariables false

set_option maxRecDepth 100000 in
set_option maxHeartbeats 2000000 in
theorem S_blockOf (g m : Nat) (w : World) (h : Rdr w g m) (hm : m ≤ 670000) :
    Calls Try.prog 129 #[.pointer (some ⟨g, 0, none⟩)] w fun e w' => ∃ (sl : Value) (xs : List Value) (p : Pr) (b0 : Int), e = .returned (.tuple #[.agg #[sl], .int .i64 b0]) ∧ PRow w' w.heap.size sl xs p ∧ (1 ≤ p.length ∧ p.length ≤ 7) ∧ Rdr w' g (m + 1200) ∧ Only g (g + 1) w w' := by
  have hgl : g < w.heap.size := h.lt
  have hr := h.keep (al1 (o := (.cells #[.slice none 0 0] 30)))
  have hcur := Only.refl g (g + 1) (w.alloc (.cells #[.slice none 0 0] 30))
  clear h
  go_enter Try.func129, Try.ntmps129
  go_wp2_with fail
  refine (S_anyProgram g _ _ hr (by omega)).mono ?_
  rintro e w1 ⟨sl, xs, p, rfl, hrow, hp, hr, ho⟩
  have hcur := hcur.trans ho
  have hsz1 : w.heap.size + 1 ≤ w1.heap.size := by have := ho.size; first | (simp only [World.size_alloc] at this; omega) | omega
  try simp only [World.size_alloc] at hrow
  obtain ⟨ga, Cp, rfl, _, hCp, hga1, hga2, _, _⟩ := PRowX.rd hrow (by omega)
  have hrow := PRowX.lo_ (lo' := w.heap.size + 1) hrow (by omega)
  unfold maxLen at hCp
  obtain ⟨n0, hn0⟩ : ∃ n0 : Nat, n0 = p.length := ⟨_, rfl⟩
  have hpn : p.length = n0 := hn0.symm
  rw [← hn0] at hrow ⊢
  have hrow := PRowX.keep hrow (al1 (o := (.cells #[.slice (some ⟨ga, 0, none⟩) n0 Cp] 30)))
  have hcur := hcur.alloc (.cells #[.slice (some ⟨ga, 0, none⟩) n0 Cp] 30)
  have hr := hr.keep (al1 (o := (.cells #[.slice (some ⟨ga, 0, none⟩) n0 Cp] 30)))
  have bP : BoxP (w1.alloc (.cells #[.slice (some ⟨ga, 0, none⟩) n0 Cp] 30)) w1.heap.size (.slice (some ⟨ga, 0, none⟩) n0 Cp) := BoxP.new rfl _
  obtain ⟨PB, hPB⟩ : ∃ PB : Nat, PB = w1.heap.size := ⟨_, rfl⟩
  have hPB1 : w.heap.size + 1 ≤ PB := by omega
  have hgPB : g < PB := by rw [hPB]; have := ho.size; first | (simp only [World.size_alloc] at this; omega) | omega
  have hgaPB : ga < PB := by omega
  have hgal : w.heap.size + 1 ≤ ga := by omega
  have hgg : g + 1 ≤ w.heap.size + 1 ∨ w.heap.size + 2 ≤ ga := by omega
  rw [← hPB] at bP
  have HN := Lib.hid hn0
  clear hn0
  go_wp2_with fail
  rw [← hPB]
  clear hPB hsz1 ho hga1 hga2
  refine (S_pick g _ 16 _ hr (by omega)).mono ?_
  rintro e w2 ⟨c, rfl, c0, c1, hr, ho, hsz⟩
  have hcur := hcur.trans ho
  have bP := bP.only ho (by omega)
  have hrow := PRowX.only hrow ho (by omega)
  clear ho hsz c0 c1
  have r1 := fun o => (ocell hcur).1 w.heap.size o (by omega) (by simp)
  have m1 := fun o => (ocell hcur).2 w.heap.size o (by omega) (by simp)
  by_cases h0 : c = 0
  · subst h0
    have hrow := PRowX.keep hrow (below0 w2).drew
    have hr := hr.drew
    have hcur := hcur.drew
    have zP := lt_of_block bP
    have cP : w2.cell? ⟨PB, 0, none⟩ = some (.slice (some ⟨ga, 0, none⟩) n0 Cp) := bP.cell
    have bP : BoxP w2.drew PB (.slice (some ⟨ga, 0, none⟩) n0 Cp) := bP
    go_wp2
    go_region_held3 (fun w' => w'.cell? ⟨PB, 0, none⟩ = some (.slice (some ⟨ga, 0, none⟩) n0 Cp))
      (first | go_keep | exact cP | exact (bP.other _ _ (show PB ≠ w.heap.size by omega)).cell)
      (first
        | (go_at_call 122
           refine (S_oneL g _ [-1, 7] _ _ rfl hr (by omega) (by simp) (by simp)).mono ?_
           rintro e wz ⟨z, rfl, zm, hr, ho⟩
           have hcur := hcur.trans ho
           have bP := bP.only ho (by omega)
           have hrow := PRowX.only hrow ho (by omega)
           have cP := bP.cell
           have zP := lt_of_block bP
           have r1 := fun o => (ocell hcur).1 w.heap.size o (by omega) (by first | simp | omega)
           have m1 := fun o => (ocell hcur).2 w.heap.size o (by omega) (by first | simp | omega)
           clear ho)
      )
    all_goals
      have cP := bP.cell
      have r1 := fun o => (ocell hcur).1 w.heap.size o (by omega) (by first | simp | omega)
      have m1 := fun o => (ocell hcur).2 w.heap.size o (by omega) (by first | simp | omega)
      go_wp2
      exact bodyPost_ret (v := .tuple #[.agg #[(.slice (some ⟨ga, 0, none⟩) n0 Cp)], .int .i64 z]) (by simp [results, Try.results129, go_sem, r1]) rfl
        ⟨(.slice (some ⟨ga, 0, none⟩) n0 Cp), xs, p, z, rfl, (show PRowX _ _ _ _ _ p.length by rw [hpn]; exact (PRowX.only hrow ((Only.refl w.heap.size (w.heap.size + 1) _).setCell (Nat.le_refl _) (Nat.lt_succ_self _) _) (by omega)).lo_ (lo' := w.heap.size) (by omega)), ⟨by omega, by omega⟩, (hr.store (p := ⟨w.heap.size, 0, none⟩) hgl _).mono (by omega), ((Only.of_below al1).trans hcur).store (Nat.le_refl _) _⟩
  have q0 : (c == 0) = false := by rw [beq_eq_false_iff_ne]; exact h0
  have hwr : IntKind.i64.wrap ((n0 : Int) - 1) = (n0 : Int) - 1 := IntWalk.i64_in _ (by omega)
  have hrow := PRowX.keep hrow (below0 w2).drew
  have hr := hr.drew
  have hcur := hcur.drew
  have zP := lt_of_block bP
  have cP : w2.cell? ⟨PB, 0, none⟩ = some (.slice (some ⟨ga, 0, none⟩) n0 Cp) := bP.cell
  have bP : BoxP w2.drew PB (.slice (some ⟨ga, 0, none⟩) n0 Cp) := bP
  go_wp2
  go_region_held3 (fun w' => w'.cell? ⟨PB, 0, none⟩ = some (.slice (some ⟨ga, 0, none⟩) n0 Cp))
    (first | go_keep | exact cP | exact (bP.other _ _ (show PB ≠ w.heap.size by omega)).cell)
    (first
      | (go_at_call 174
         refine (S_pick g _ n0 _ hr (by omega)).mono ?_
         rintro e wy ⟨y, rfl, y0, y1, hr, ho, hsz⟩
         have hcur := hcur.trans ho
         have bP := bP.only ho (by omega)
         have hrow := PRowX.only hrow ho (by omega)
         have cP := bP.cell
         have zP := lt_of_block bP
         have r1 := fun o => (ocell hcur).1 w.heap.size o (by omega) (by first | simp | omega)
         have m1 := fun o => (ocell hcur).2 w.heap.size o (by omega) (by first | simp | omega)
         clear ho hsz)
      | (go_at_call 122
         refine (S_oneL g _ [(n0 : Int) - 1, y] _ _ rfl hr (by omega) (by simp) (by simp)).mono ?_
         rintro e wz ⟨z, rfl, zm, hr, ho⟩
         have hcur := hcur.trans ho
         have bP := bP.only ho (by omega)
         have hrow := PRowX.only hrow ho (by omega)
         have cP := bP.cell
         have zP := lt_of_block bP
         have r1 := fun o => (ocell hcur).1 w.heap.size o (by omega) (by first | simp | omega)
         have m1 := fun o => (ocell hcur).2 w.heap.size o (by omega) (by first | simp | omega)
         clear ho)
    )
  all_goals
    have cP := bP.cell
    have r1 := fun o => (ocell hcur).1 w.heap.size o (by omega) (by first | simp | omega)
    have m1 := fun o => (ocell hcur).2 w.heap.size o (by omega) (by first | simp | omega)
    go_wp2
    exact bodyPost_ret (v := .tuple #[.agg #[(.slice (some ⟨ga, 0, none⟩) n0 Cp)], .int .i64 z]) (by simp [results, Try.results129, go_sem, r1]) rfl
      ⟨(.slice (some ⟨ga, 0, none⟩) n0 Cp), xs, p, z, rfl, (show PRowX _ _ _ _ _ p.length by rw [hpn]; exact (PRowX.only hrow ((Only.refl w.heap.size (w.heap.size + 1) _).setCell (Nat.le_refl _) (Nat.lt_succ_self _) _) (by omega)).lo_ (lo' := w.heap.size) (by omega)), ⟨by omega, by omega⟩, (hr.store (p := ⟨w.heap.size, 0, none⟩) hgl _).mono (by omega), ((Only.of_below al1).trans hcur).store (Nat.le_refl _) _⟩

set_option maxRecDepth 100000 in
set_option maxHeartbeats 2000000 in
theorem S_useOf (g m : Nat) (w : World) (h : Rdr w g m) (hm : m ≤ 660000) :
    Calls Try.prog 158 #[.pointer (some ⟨g, 0, none⟩)] w fun e w' => ∃ (sl : Value) (xs : List Value) (p : Pr) (b0 b1 : Int), e = .returned (.tuple #[.agg #[sl], .int .i64 b0, .int .i64 b1]) ∧ PRow w' w.heap.size sl xs p ∧ (1 ≤ p.length ∧ p.length ≤ 7) ∧ Rdr w' g (m + 1300) ∧ Only g (g + 1) w w' := by
  have hgl : g < w.heap.size := h.lt
  have hr := h.keep (al1 (o := (.cells #[.slice none 0 0] 30)))
  have hcur := Only.refl g (g + 1) (w.alloc (.cells #[.slice none 0 0] 30))
  clear h
  go_enter Try.func158, Try.ntmps158
  go_wp2_with fail
  refine (S_blockOf g _ _ hr (by omega)).mono ?_
  rintro e w1 ⟨sl, xs, p, b, rfl, hrow, hp, hr, ho⟩
  have hcur := hcur.trans ho
  have hsz1 : w.heap.size + 1 ≤ w1.heap.size := by have := ho.size; first | (simp only [World.size_alloc] at this; omega) | omega
  try simp only [World.size_alloc] at hrow
  obtain ⟨ga, Cp, rfl, _, hCp, hga1, hga2, _, _⟩ := PRowX.rd hrow (by omega)
  have hrow := PRowX.lo_ (lo' := w.heap.size + 1) hrow (by omega)
  unfold maxLen at hCp
  obtain ⟨n0, hn0⟩ : ∃ n0 : Nat, n0 = p.length := ⟨_, rfl⟩
  have hpn : p.length = n0 := hn0.symm
  rw [← hn0] at hrow ⊢
  have hrow := PRowX.keep hrow (al1 (o := (.cells #[.slice (some ⟨ga, 0, none⟩) n0 Cp] 30)))
  have hcur := hcur.alloc (.cells #[.slice (some ⟨ga, 0, none⟩) n0 Cp] 30)
  have hr := hr.keep (al1 (o := (.cells #[.slice (some ⟨ga, 0, none⟩) n0 Cp] 30)))
  have bP : BoxP (w1.alloc (.cells #[.slice (some ⟨ga, 0, none⟩) n0 Cp] 30)) w1.heap.size (.slice (some ⟨ga, 0, none⟩) n0 Cp) := BoxP.new rfl _
  obtain ⟨PB, hPB⟩ : ∃ PB : Nat, PB = w1.heap.size := ⟨_, rfl⟩
  have hPB1 : w.heap.size + 1 ≤ PB := by omega
  have hgPB : g < PB := by rw [hPB]; have := ho.size; first | (simp only [World.size_alloc] at this; omega) | omega
  have hgaPB : ga < PB := by omega
  have hgal : w.heap.size + 1 ≤ ga := by omega
  have hgg : g + 1 ≤ w.heap.size + 1 ∨ w.heap.size + 2 ≤ ga := by omega
  rw [← hPB] at bP
  have HN := Lib.hid hn0
  clear hn0
  have bP' := bP
  obtain ⟨W2, hW2⟩ : ∃ W2 : World, W2 = w1.alloc (.cells #[.slice (some ⟨ga, 0, none⟩) n0 Cp] 30) := ⟨_, rfl⟩
  go_wp2_with fail
  rw [← hPB, ← hW2]
  rw [← hW2] at hrow hcur hr bP
  clear hPB hsz1 ho hga1 hga2 bP' hW2
  have r1 := fun o => (ocell hcur).1 w.heap.size o (by omega) (by simp)
  have m1 := fun o => (ocell hcur).2 w.heap.size o (by omega) (by simp)
  have hrow := PRowX.keep hrow (below0 W2).drew
  have hr := hr.drew
  have hcur := hcur.drew
  have zP := lt_of_block bP
  have cP : W2.cell? ⟨PB, 0, none⟩ = some (.slice (some ⟨ga, 0, none⟩) n0 Cp) := bP.cell
  have bP : BoxP W2.drew PB (.slice (some ⟨ga, 0, none⟩) n0 Cp) := bP
  go_wp2
  go_region_held3 (fun w' => w'.cell? ⟨PB, 0, none⟩ = some (.slice (some ⟨ga, 0, none⟩) n0 Cp))
    (first | go_keep | exact cP | exact (bP.other _ _ (show PB ≠ w.heap.size by omega)).cell)
    (first
      | (go_at_call 122
         refine (S_oneL g _ [0, 1, 2, 3, 4, 5, 6, 7, 0, 1, 8, -1] _ _ rfl hr (by omega) (by simp) (by simp)).mono ?_
         rintro e wz ⟨z, rfl, zm, hr, ho⟩
         have hcur := hcur.trans ho
         have bP := bP.only ho (by omega)
         have hrow := PRowX.only hrow ho (by omega)
         have cP := bP.cell
         have zP := lt_of_block bP
         have r1 := fun o => (ocell hcur).1 w.heap.size o (by omega) (by first | simp | omega)
         have m1 := fun o => (ocell hcur).2 w.heap.size o (by omega) (by first | simp | omega)
         clear ho)
    )
  all_goals
    have cP := bP.cell
    have r1 := fun o => (ocell hcur).1 w.heap.size o (by omega) (by first | simp | omega)
    have m1 := fun o => (ocell hcur).2 w.heap.size o (by omega) (by first | simp | omega)
    go_wp2
    exact bodyPost_ret (v := .tuple #[.agg #[(.slice (some ⟨ga, 0, none⟩) n0 Cp)], .int .i64 b, .int .i64 z]) (by simp [results, Try.results158, go_sem, r1]) rfl
      ⟨(.slice (some ⟨ga, 0, none⟩) n0 Cp), xs, p, b, z, rfl, (show PRowX _ _ _ _ _ p.length by rw [hpn]; exact (PRowX.only hrow ((Only.refl w.heap.size (w.heap.size + 1) _).setCell (Nat.le_refl _) (Nat.lt_succ_self _) _) (by omega)).lo_ (lo' := w.heap.size) (by omega)), ⟨by omega, by omega⟩, (hr.store (p := ⟨w.heap.size, 0, none⟩) hgl _).mono (by omega), ((Only.of_below al1).trans hcur).store (Nat.le_refl _) _⟩

end Go.Proofs.Ytklikpcfmmpocaa

namespace Go.Proofs.Ytklikpcfmmpocaa
open Go.RowKit
set_option linter.unusedVariables false

set_option maxRecDepth 100000 in
set_option maxHeartbeats 2000000 in
theorem S_DrawValidShape (v : Value) (l : List Int) (w : World) (hv : OBytes w v l) (hl : l.length ≤ 1048576) :
    Calls Try.prog 35 #[v] w fun e w' => ∃ (sl : Value) (xs : List Value) (p : Pr), e = .returned (.agg #[sl]) ∧ PRow w' w.heap.size sl xs p ∧ (1 ≤ p.length ∧ p.length ≤ 7) ∧ Below w.heap.size w w' := by
  have hv1 := hv.keep (al1 (o := (.cells #[.slice none 0 0] 30)))
  clear hv
  go_enter Try.func35, Try.ntmps35
  go_wp2_with fail
  refine (S_newReader v l _ hv1 hl).mono ?_
  rintro e w0 ⟨rfl, hr, hb, hz⟩
  have hb1 := bthen al1 hb
  have r0 := fun o => (bcell hb).1 w.heap.size o (by simp)
  have m0 := fun o => (bcell hb).2 w.heap.size o (by simp)
  rw [World.size_alloc] at hr hz
  have hz0 : w.heap.size + 1 < w0.heap.size := by omega
  have hcur := Only.refl (w.heap.size + 1) (w.heap.size + 1 + 1) w0
  clear hz hb hv1
  go_wp2_with fail
  refine (S_anyProgram (w.heap.size + 1) _ _ hr (by omega)).mono ?_
  rintro e w1 ⟨sl, xs, p, rfl, hrow, hp, hr, ho⟩
  have hcur := hcur.trans ho
  obtain ⟨A, C, rfl⟩ := PRowX.form hrow
  have hw1 : w.heap.size + 1 ≤ w0.heap.size := by omega
  have r1 := fun o => ((ocell hcur).1 w.heap.size o (by omega) (by omega)).trans (r0 o)
  have m1 := fun o => ((ocell hcur).2 w.heap.size o (by omega) (by omega)).trans (m0 o)
  clear r0 m0
  go_wp2
  exact bodyPost_ret (v := .agg #[.slice A p.length C]) (by simp [results, Try.results35, go_sem, r1]) rfl
    ⟨.slice A p.length C, xs, p, rfl, (PRowX.only hrow ((Only.refl w.heap.size (w.heap.size + 1) _).setCell (Nat.le_refl _) (Nat.lt_succ_self _) _) (by omega)).lo_ (lo' := w.heap.size) (by omega), hp, ((hb1.trans ((hcur.below (by omega)).mono (by omega))).setCell (Nat.le_refl _) _)⟩

set_option maxRecDepth 100000 in
set_option maxHeartbeats 2000000 in
theorem S_DrawOwnersOf (v : Value) (l : List Int) (w : World) (hv : OBytes w v l) (hl : l.length ≤ 1048576) :
    Calls Try.prog 88 #[v] w fun e w' => ∃ (sl : Value) (xs : List Value) (p : Pr), e = .returned (.agg #[sl]) ∧ PRow w' w.heap.size sl xs p ∧ (1 ≤ p.length ∧ p.length ≤ 7) ∧ Below w.heap.size w w' := by
  have hv1 := hv.keep (al1 (o := (.cells #[.slice none 0 0] 30)))
  clear hv
  go_enter Try.func88, Try.ntmps88
  go_wp2_with fail
  refine (S_newReader v l _ hv1 hl).mono ?_
  rintro e w0 ⟨rfl, hr, hb, hz⟩
  have hb1 := bthen al1 hb
  have r0 := fun o => (bcell hb).1 w.heap.size o (by simp)
  have m0 := fun o => (bcell hb).2 w.heap.size o (by simp)
  rw [World.size_alloc] at hr hz
  have hz0 : w.heap.size + 1 < w0.heap.size := by omega
  have hcur := Only.refl (w.heap.size + 1) (w.heap.size + 1 + 1) w0
  clear hz hb hv1
  go_wp2_with fail
  refine (S_anyProgram (w.heap.size + 1) _ _ hr (by omega)).mono ?_
  rintro e w1 ⟨sl, xs, p, rfl, hrow, hp, hr, ho⟩
  have hcur := hcur.trans ho
  obtain ⟨A, C, rfl⟩ := PRowX.form hrow
  have hw1 : w.heap.size + 1 ≤ w0.heap.size := by omega
  have r1 := fun o => ((ocell hcur).1 w.heap.size o (by omega) (by omega)).trans (r0 o)
  have m1 := fun o => ((ocell hcur).2 w.heap.size o (by omega) (by omega)).trans (m0 o)
  clear r0 m0
  go_wp2
  exact bodyPost_ret (v := .agg #[.slice A p.length C]) (by simp [results, Try.results88, go_sem, r1]) rfl
    ⟨.slice A p.length C, xs, p, rfl, (PRowX.only hrow ((Only.refl w.heap.size (w.heap.size + 1) _).setCell (Nat.le_refl _) (Nat.lt_succ_self _) _) (by omega)).lo_ (lo' := w.heap.size) (by omega), hp, ((hb1.trans ((hcur.below (by omega)).mono (by omega))).setCell (Nat.le_refl _) _)⟩

set_option maxRecDepth 100000 in
set_option maxHeartbeats 2000000 in
theorem S_DrawBareProgram (v : Value) (l : List Int) (w : World) (hv : OBytes w v l) (hl : l.length ≤ 1048576) :
    Calls Try.prog 86 #[v] w fun e w' => ∃ (sl : Value) (xs : List Value) (p : Pr), e = .returned (.agg #[sl]) ∧ PRow w' w.heap.size sl xs p ∧ (1 ≤ p.length ∧ p.length ≤ 7) ∧ Below w.heap.size w w' := by
  have hv1 := hv.keep (al1 (o := (.cells #[.slice none 0 0] 30)))
  clear hv
  go_enter Try.func86, Try.ntmps86
  go_wp2_with fail
  refine (S_newReader v l _ hv1 hl).mono ?_
  rintro e w0 ⟨rfl, hr, hb, hz⟩
  have hb1 := bthen al1 hb
  have r0 := fun o => (bcell hb).1 w.heap.size o (by simp)
  have m0 := fun o => (bcell hb).2 w.heap.size o (by simp)
  rw [World.size_alloc] at hr hz
  have hz0 : w.heap.size + 1 < w0.heap.size := by omega
  have hcur := Only.refl (w.heap.size + 1) (w.heap.size + 1 + 1) w0
  clear hz hb hv1
  go_wp2_with fail
  refine (S_anyProgram (w.heap.size + 1) _ _ hr (by omega)).mono ?_
  rintro e w1 ⟨sl, xs, p, rfl, hrow, hp, hr, ho⟩
  have hcur := hcur.trans ho
  obtain ⟨A, C, rfl⟩ := PRowX.form hrow
  have hw1 : w.heap.size + 1 ≤ w0.heap.size := by omega
  have r1 := fun o => ((ocell hcur).1 w.heap.size o (by omega) (by omega)).trans (r0 o)
  have m1 := fun o => ((ocell hcur).2 w.heap.size o (by omega) (by omega)).trans (m0 o)
  clear r0 m0
  go_wp2
  exact bodyPost_ret (v := .agg #[.slice A p.length C]) (by simp [results, Try.results86, go_sem, r1]) rfl
    ⟨.slice A p.length C, xs, p, rfl, (PRowX.only hrow ((Only.refl w.heap.size (w.heap.size + 1) _).setCell (Nat.le_refl _) (Nat.lt_succ_self _) _) (by omega)).lo_ (lo' := w.heap.size) (by omega), hp, ((hb1.trans ((hcur.below (by omega)).mono (by omega))).setCell (Nat.le_refl _) _)⟩

set_option maxRecDepth 100000 in
set_option maxHeartbeats 2000000 in
theorem S_DrawChildrenOf (v : Value) (l : List Int) (w : World) (hv : OBytes w v l) (hl : l.length ≤ 1048576) :
    Calls Try.prog 42 #[v] w fun e w' => ∃ (sl : Value) (xs : List Value) (p : Pr) (b0 : Int), e = .returned (.tuple #[.agg #[sl], .int .i64 b0]) ∧ PRow w' w.heap.size sl xs p ∧ (1 ≤ p.length ∧ p.length ≤ 7) ∧ Below w.heap.size w w' := by
  have hv1 := hv.keep (al1 (o := (.cells #[.slice none 0 0] 30)))
  clear hv
  go_enter Try.func42, Try.ntmps42
  go_wp2_with fail
  refine (S_newReader v l _ hv1 hl).mono ?_
  rintro e w0 ⟨rfl, hr, hb, hz⟩
  have hb1 := bthen al1 hb
  have r0 := fun o => (bcell hb).1 w.heap.size o (by simp)
  have m0 := fun o => (bcell hb).2 w.heap.size o (by simp)
  rw [World.size_alloc] at hr hz
  have hz0 : w.heap.size + 1 < w0.heap.size := by omega
  have hcur := Only.refl (w.heap.size + 1) (w.heap.size + 1 + 1) w0
  clear hz hb hv1
  go_wp2_with fail
  refine (S_blockOf (w.heap.size + 1) _ _ hr (by omega)).mono ?_
  rintro e w1 ⟨sl, xs, p, b, rfl, hrow, hp, hr, ho⟩
  have hcur := hcur.trans ho
  obtain ⟨A, C, rfl⟩ := PRowX.form hrow
  have hw1 : w.heap.size + 1 ≤ w0.heap.size := by omega
  have r1 := fun o => ((ocell hcur).1 w.heap.size o (by omega) (by omega)).trans (r0 o)
  have m1 := fun o => ((ocell hcur).2 w.heap.size o (by omega) (by omega)).trans (m0 o)
  clear r0 m0
  go_wp2
  exact bodyPost_ret (v := .tuple #[.agg #[.slice A p.length C], .int .i64 b]) (by simp [results, Try.results42, go_sem, r1]) rfl
    ⟨.slice A p.length C, xs, p, b, rfl, (PRowX.only hrow ((Only.refl w.heap.size (w.heap.size + 1) _).setCell (Nat.le_refl _) (Nat.lt_succ_self _) _) (by omega)).lo_ (lo' := w.heap.size) (by omega), hp, ((hb1.trans ((hcur.below (by omega)).mono (by omega))).setCell (Nat.le_refl _) _)⟩

set_option maxRecDepth 100000 in
set_option maxHeartbeats 2000000 in
theorem S_DrawInsideOf (v : Value) (l : List Int) (w : World) (hv : OBytes w v l) (hl : l.length ≤ 1048576) :
    Calls Try.prog 69 #[v] w fun e w' => ∃ (sl : Value) (xs : List Value) (p : Pr) (b0 : Int), e = .returned (.tuple #[.agg #[sl], .int .i64 b0]) ∧ PRow w' w.heap.size sl xs p ∧ (1 ≤ p.length ∧ p.length ≤ 7) ∧ Below w.heap.size w w' := by
  have hv1 := hv.keep (al1 (o := (.cells #[.slice none 0 0] 30)))
  clear hv
  go_enter Try.func69, Try.ntmps69
  go_wp2_with fail
  refine (S_newReader v l _ hv1 hl).mono ?_
  rintro e w0 ⟨rfl, hr, hb, hz⟩
  have hb1 := bthen al1 hb
  have r0 := fun o => (bcell hb).1 w.heap.size o (by simp)
  have m0 := fun o => (bcell hb).2 w.heap.size o (by simp)
  rw [World.size_alloc] at hr hz
  have hz0 : w.heap.size + 1 < w0.heap.size := by omega
  have hcur := Only.refl (w.heap.size + 1) (w.heap.size + 1 + 1) w0
  clear hz hb hv1
  go_wp2_with fail
  refine (S_blockOf (w.heap.size + 1) _ _ hr (by omega)).mono ?_
  rintro e w1 ⟨sl, xs, p, b, rfl, hrow, hp, hr, ho⟩
  have hcur := hcur.trans ho
  obtain ⟨A, C, rfl⟩ := PRowX.form hrow
  have hw1 : w.heap.size + 1 ≤ w0.heap.size := by omega
  have r1 := fun o => ((ocell hcur).1 w.heap.size o (by omega) (by omega)).trans (r0 o)
  have m1 := fun o => ((ocell hcur).2 w.heap.size o (by omega) (by omega)).trans (m0 o)
  clear r0 m0
  go_wp2
  exact bodyPost_ret (v := .tuple #[.agg #[.slice A p.length C], .int .i64 b]) (by simp [results, Try.results69, go_sem, r1]) rfl
    ⟨.slice A p.length C, xs, p, b, rfl, (PRowX.only hrow ((Only.refl w.heap.size (w.heap.size + 1) _).setCell (Nat.le_refl _) (Nat.lt_succ_self _) _) (by omega)).lo_ (lo' := w.heap.size) (by omega), hp, ((hb1.trans ((hcur.below (by omega)).mono (by omega))).setCell (Nat.le_refl _) _)⟩

set_option maxRecDepth 100000 in
set_option maxHeartbeats 2000000 in
theorem S_DrawDepthOf (v : Value) (l : List Int) (w : World) (hv : OBytes w v l) (hl : l.length ≤ 1048576) :
    Calls Try.prog 38 #[v] w fun e w' => ∃ (sl : Value) (xs : List Value) (p : Pr) (b0 : Int), e = .returned (.tuple #[.agg #[sl], .int .i64 b0]) ∧ PRow w' w.heap.size sl xs p ∧ (1 ≤ p.length ∧ p.length ≤ 7) ∧ Below w.heap.size w w' := by
  have hv1 := hv.keep (al1 (o := (.cells #[.slice none 0 0] 30)))
  clear hv
  go_enter Try.func38, Try.ntmps38
  go_wp2_with fail
  refine (S_newReader v l _ hv1 hl).mono ?_
  rintro e w0 ⟨rfl, hr, hb, hz⟩
  have hb1 := bthen al1 hb
  have r0 := fun o => (bcell hb).1 w.heap.size o (by simp)
  have m0 := fun o => (bcell hb).2 w.heap.size o (by simp)
  rw [World.size_alloc] at hr hz
  have hz0 : w.heap.size + 1 < w0.heap.size := by omega
  have hcur := Only.refl (w.heap.size + 1) (w.heap.size + 1 + 1) w0
  clear hz hb hv1
  go_wp2_with fail
  refine (S_blockOf (w.heap.size + 1) _ _ hr (by omega)).mono ?_
  rintro e w1 ⟨sl, xs, p, b, rfl, hrow, hp, hr, ho⟩
  have hcur := hcur.trans ho
  obtain ⟨A, C, rfl⟩ := PRowX.form hrow
  have hw1 : w.heap.size + 1 ≤ w0.heap.size := by omega
  have r1 := fun o => ((ocell hcur).1 w.heap.size o (by omega) (by omega)).trans (r0 o)
  have m1 := fun o => ((ocell hcur).2 w.heap.size o (by omega) (by omega)).trans (m0 o)
  clear r0 m0
  go_wp2
  exact bodyPost_ret (v := .tuple #[.agg #[.slice A p.length C], .int .i64 b]) (by simp [results, Try.results38, go_sem, r1]) rfl
    ⟨.slice A p.length C, xs, p, b, rfl, (PRowX.only hrow ((Only.refl w.heap.size (w.heap.size + 1) _).setCell (Nat.le_refl _) (Nat.lt_succ_self _) _) (by omega)).lo_ (lo' := w.heap.size) (by omega), hp, ((hb1.trans ((hcur.below (by omega)).mono (by omega))).setCell (Nat.le_refl _) _)⟩

set_option maxRecDepth 100000 in
set_option maxHeartbeats 2000000 in
theorem S_DrawReadIn (v : Value) (l : List Int) (w : World) (hv : OBytes w v l) (hl : l.length ≤ 1048576) :
    Calls Try.prog 63 #[v] w fun e w' => ∃ (sl : Value) (xs : List Value) (p : Pr) (b0 : Int), e = .returned (.tuple #[.agg #[sl], .int .i64 b0]) ∧ PRow w' w.heap.size sl xs p ∧ (1 ≤ p.length ∧ p.length ≤ 7) ∧ Below w.heap.size w w' := by
  have hv1 := hv.keep (al1 (o := (.cells #[.slice none 0 0] 30)))
  clear hv
  go_enter Try.func63, Try.ntmps63
  go_wp2_with fail
  refine (S_newReader v l _ hv1 hl).mono ?_
  rintro e w0 ⟨rfl, hr, hb, hz⟩
  have hb1 := bthen al1 hb
  have r0 := fun o => (bcell hb).1 w.heap.size o (by simp)
  have m0 := fun o => (bcell hb).2 w.heap.size o (by simp)
  rw [World.size_alloc] at hr hz
  have hz0 : w.heap.size + 1 < w0.heap.size := by omega
  have hcur := Only.refl (w.heap.size + 1) (w.heap.size + 1 + 1) w0
  clear hz hb hv1
  go_wp2_with fail
  refine (S_blockOf (w.heap.size + 1) _ _ hr (by omega)).mono ?_
  rintro e w1 ⟨sl, xs, p, b, rfl, hrow, hp, hr, ho⟩
  have hcur := hcur.trans ho
  obtain ⟨A, C, rfl⟩ := PRowX.form hrow
  have hw1 : w.heap.size + 1 ≤ w0.heap.size := by omega
  have r1 := fun o => ((ocell hcur).1 w.heap.size o (by omega) (by omega)).trans (r0 o)
  have m1 := fun o => ((ocell hcur).2 w.heap.size o (by omega) (by omega)).trans (m0 o)
  clear r0 m0
  go_wp2
  exact bodyPost_ret (v := .tuple #[.agg #[.slice A p.length C], .int .i64 b]) (by simp [results, Try.results63, go_sem, r1]) rfl
    ⟨.slice A p.length C, xs, p, b, rfl, (PRowX.only hrow ((Only.refl w.heap.size (w.heap.size + 1) _).setCell (Nat.le_refl _) (Nat.lt_succ_self _) _) (by omega)).lo_ (lo' := w.heap.size) (by omega), hp, ((hb1.trans ((hcur.below (by omega)).mono (by omega))).setCell (Nat.le_refl _) _)⟩

set_option maxRecDepth 100000 in
set_option maxHeartbeats 2000000 in
theorem S_DrawBoundIn (v : Value) (l : List Int) (w : World) (hv : OBytes w v l) (hl : l.length ≤ 1048576) :
    Calls Try.prog 50 #[v] w fun e w' => ∃ (sl : Value) (xs : List Value) (p : Pr) (b0 : Int), e = .returned (.tuple #[.agg #[sl], .int .i64 b0]) ∧ PRow w' w.heap.size sl xs p ∧ (1 ≤ p.length ∧ p.length ≤ 7) ∧ Below w.heap.size w w' := by
  have hv1 := hv.keep (al1 (o := (.cells #[.slice none 0 0] 30)))
  clear hv
  go_enter Try.func50, Try.ntmps50
  go_wp2_with fail
  refine (S_newReader v l _ hv1 hl).mono ?_
  rintro e w0 ⟨rfl, hr, hb, hz⟩
  have hb1 := bthen al1 hb
  have r0 := fun o => (bcell hb).1 w.heap.size o (by simp)
  have m0 := fun o => (bcell hb).2 w.heap.size o (by simp)
  rw [World.size_alloc] at hr hz
  have hz0 : w.heap.size + 1 < w0.heap.size := by omega
  have hcur := Only.refl (w.heap.size + 1) (w.heap.size + 1 + 1) w0
  clear hz hb hv1
  go_wp2_with fail
  refine (S_blockOf (w.heap.size + 1) _ _ hr (by omega)).mono ?_
  rintro e w1 ⟨sl, xs, p, b, rfl, hrow, hp, hr, ho⟩
  have hcur := hcur.trans ho
  obtain ⟨A, C, rfl⟩ := PRowX.form hrow
  have hw1 : w.heap.size + 1 ≤ w0.heap.size := by omega
  have r1 := fun o => ((ocell hcur).1 w.heap.size o (by omega) (by omega)).trans (r0 o)
  have m1 := fun o => ((ocell hcur).2 w.heap.size o (by omega) (by omega)).trans (m0 o)
  clear r0 m0
  go_wp2
  exact bodyPost_ret (v := .tuple #[.agg #[.slice A p.length C], .int .i64 b]) (by simp [results, Try.results50, go_sem, r1]) rfl
    ⟨.slice A p.length C, xs, p, b, rfl, (PRowX.only hrow ((Only.refl w.heap.size (w.heap.size + 1) _).setCell (Nat.le_refl _) (Nat.lt_succ_self _) _) (by omega)).lo_ (lo' := w.heap.size) (by omega), hp, ((hb1.trans ((hcur.below (by omega)).mono (by omega))).setCell (Nat.le_refl _) _)⟩

set_option maxRecDepth 100000 in
set_option maxHeartbeats 2000000 in
theorem S_DrawUsedIn (v : Value) (l : List Int) (w : World) (hv : OBytes w v l) (hl : l.length ≤ 1048576) :
    Calls Try.prog 82 #[v] w fun e w' => ∃ (sl : Value) (xs : List Value) (p : Pr) (b0 : Int), e = .returned (.tuple #[.agg #[sl], .int .i64 b0]) ∧ PRow w' w.heap.size sl xs p ∧ (1 ≤ p.length ∧ p.length ≤ 7) ∧ Below w.heap.size w w' := by
  have hv1 := hv.keep (al1 (o := (.cells #[.slice none 0 0] 30)))
  clear hv
  go_enter Try.func82, Try.ntmps82
  go_wp2_with fail
  refine (S_newReader v l _ hv1 hl).mono ?_
  rintro e w0 ⟨rfl, hr, hb, hz⟩
  have hb1 := bthen al1 hb
  have r0 := fun o => (bcell hb).1 w.heap.size o (by simp)
  have m0 := fun o => (bcell hb).2 w.heap.size o (by simp)
  rw [World.size_alloc] at hr hz
  have hz0 : w.heap.size + 1 < w0.heap.size := by omega
  have hcur := Only.refl (w.heap.size + 1) (w.heap.size + 1 + 1) w0
  clear hz hb hv1
  go_wp2_with fail
  refine (S_blockOf (w.heap.size + 1) _ _ hr (by omega)).mono ?_
  rintro e w1 ⟨sl, xs, p, b, rfl, hrow, hp, hr, ho⟩
  have hcur := hcur.trans ho
  obtain ⟨A, C, rfl⟩ := PRowX.form hrow
  have hw1 : w.heap.size + 1 ≤ w0.heap.size := by omega
  have r1 := fun o => ((ocell hcur).1 w.heap.size o (by omega) (by omega)).trans (r0 o)
  have m1 := fun o => ((ocell hcur).2 w.heap.size o (by omega) (by omega)).trans (m0 o)
  clear r0 m0
  go_wp2
  exact bodyPost_ret (v := .tuple #[.agg #[.slice A p.length C], .int .i64 b]) (by simp [results, Try.results82, go_sem, r1]) rfl
    ⟨.slice A p.length C, xs, p, b, rfl, (PRowX.only hrow ((Only.refl w.heap.size (w.heap.size + 1) _).setCell (Nat.le_refl _) (Nat.lt_succ_self _) _) (by omega)).lo_ (lo' := w.heap.size) (by omega), hp, ((hb1.trans ((hcur.below (by omega)).mono (by omega))).setCell (Nat.le_refl _) _)⟩

set_option maxRecDepth 100000 in
set_option maxHeartbeats 2000000 in
theorem S_DrawFreesOf (v : Value) (l : List Int) (w : World) (hv : OBytes w v l) (hl : l.length ≤ 1048576) :
    Calls Try.prog 109 #[v] w fun e w' => ∃ (sl : Value) (xs : List Value) (p : Pr) (b0 : Int), e = .returned (.tuple #[.agg #[sl], .int .i64 b0]) ∧ PRow w' w.heap.size sl xs p ∧ (1 ≤ p.length ∧ p.length ≤ 7) ∧ Below w.heap.size w w' := by
  have hv1 := hv.keep (al1 (o := (.cells #[.slice none 0 0] 30)))
  clear hv
  go_enter Try.func109, Try.ntmps109
  go_wp2_with fail
  refine (S_newReader v l _ hv1 hl).mono ?_
  rintro e w0 ⟨rfl, hr, hb, hz⟩
  have hb1 := bthen al1 hb
  have r0 := fun o => (bcell hb).1 w.heap.size o (by simp)
  have m0 := fun o => (bcell hb).2 w.heap.size o (by simp)
  rw [World.size_alloc] at hr hz
  have hz0 : w.heap.size + 1 < w0.heap.size := by omega
  have hcur := Only.refl (w.heap.size + 1) (w.heap.size + 1 + 1) w0
  clear hz hb hv1
  go_wp2_with fail
  refine (S_blockOf (w.heap.size + 1) _ _ hr (by omega)).mono ?_
  rintro e w1 ⟨sl, xs, p, b, rfl, hrow, hp, hr, ho⟩
  have hcur := hcur.trans ho
  obtain ⟨A, C, rfl⟩ := PRowX.form hrow
  have hw1 : w.heap.size + 1 ≤ w0.heap.size := by omega
  have r1 := fun o => ((ocell hcur).1 w.heap.size o (by omega) (by omega)).trans (r0 o)
  have m1 := fun o => ((ocell hcur).2 w.heap.size o (by omega) (by omega)).trans (m0 o)
  clear r0 m0
  go_wp2
  exact bodyPost_ret (v := .tuple #[.agg #[.slice A p.length C], .int .i64 b]) (by simp [results, Try.results109, go_sem, r1]) rfl
    ⟨.slice A p.length C, xs, p, b, rfl, (PRowX.only hrow ((Only.refl w.heap.size (w.heap.size + 1) _).setCell (Nat.le_refl _) (Nat.lt_succ_self _) _) (by omega)).lo_ (lo' := w.heap.size) (by omega), hp, ((hb1.trans ((hcur.below (by omega)).mono (by omega))).setCell (Nat.le_refl _) _)⟩

set_option maxRecDepth 100000 in
set_option maxHeartbeats 2000000 in
theorem S_DrawCellsOf (v : Value) (l : List Int) (w : World) (hv : OBytes w v l) (hl : l.length ≤ 1048576) :
    Calls Try.prog 106 #[v] w fun e w' => ∃ (sl : Value) (xs : List Value) (p : Pr) (b0 : Int), e = .returned (.tuple #[.agg #[sl], .int .i64 b0]) ∧ PRow w' w.heap.size sl xs p ∧ (1 ≤ p.length ∧ p.length ≤ 7) ∧ Below w.heap.size w w' := by
  have hv1 := hv.keep (al1 (o := (.cells #[.slice none 0 0] 30)))
  clear hv
  go_enter Try.func106, Try.ntmps106
  go_wp2_with fail
  refine (S_newReader v l _ hv1 hl).mono ?_
  rintro e w0 ⟨rfl, hr, hb, hz⟩
  have hb1 := bthen al1 hb
  have r0 := fun o => (bcell hb).1 w.heap.size o (by simp)
  have m0 := fun o => (bcell hb).2 w.heap.size o (by simp)
  rw [World.size_alloc] at hr hz
  have hz0 : w.heap.size + 1 < w0.heap.size := by omega
  have hcur := Only.refl (w.heap.size + 1) (w.heap.size + 1 + 1) w0
  clear hz hb hv1
  go_wp2_with fail
  refine (S_blockOf (w.heap.size + 1) _ _ hr (by omega)).mono ?_
  rintro e w1 ⟨sl, xs, p, b, rfl, hrow, hp, hr, ho⟩
  have hcur := hcur.trans ho
  obtain ⟨A, C, rfl⟩ := PRowX.form hrow
  have hw1 : w.heap.size + 1 ≤ w0.heap.size := by omega
  have r1 := fun o => ((ocell hcur).1 w.heap.size o (by omega) (by omega)).trans (r0 o)
  have m1 := fun o => ((ocell hcur).2 w.heap.size o (by omega) (by omega)).trans (m0 o)
  clear r0 m0
  go_wp2
  exact bodyPost_ret (v := .tuple #[.agg #[.slice A p.length C], .int .i64 b]) (by simp [results, Try.results106, go_sem, r1]) rfl
    ⟨.slice A p.length C, xs, p, b, rfl, (PRowX.only hrow ((Only.refl w.heap.size (w.heap.size + 1) _).setCell (Nat.le_refl _) (Nat.lt_succ_self _) _) (by omega)).lo_ (lo' := w.heap.size) (by omega), hp, ((hb1.trans ((hcur.below (by omega)).mono (by omega))).setCell (Nat.le_refl _) _)⟩

set_option maxRecDepth 100000 in
set_option maxHeartbeats 2000000 in
theorem S_DrawFastsOf (v : Value) (l : List Int) (w : World) (hv : OBytes w v l) (hl : l.length ≤ 1048576) :
    Calls Try.prog 100 #[v] w fun e w' => ∃ (sl : Value) (xs : List Value) (p : Pr) (b0 : Int), e = .returned (.tuple #[.agg #[sl], .int .i64 b0]) ∧ PRow w' w.heap.size sl xs p ∧ (1 ≤ p.length ∧ p.length ≤ 7) ∧ Below w.heap.size w w' := by
  have hv1 := hv.keep (al1 (o := (.cells #[.slice none 0 0] 30)))
  clear hv
  go_enter Try.func100, Try.ntmps100
  go_wp2_with fail
  refine (S_newReader v l _ hv1 hl).mono ?_
  rintro e w0 ⟨rfl, hr, hb, hz⟩
  have hb1 := bthen al1 hb
  have r0 := fun o => (bcell hb).1 w.heap.size o (by simp)
  have m0 := fun o => (bcell hb).2 w.heap.size o (by simp)
  rw [World.size_alloc] at hr hz
  have hz0 : w.heap.size + 1 < w0.heap.size := by omega
  have hcur := Only.refl (w.heap.size + 1) (w.heap.size + 1 + 1) w0
  clear hz hb hv1
  go_wp2_with fail
  refine (S_blockOf (w.heap.size + 1) _ _ hr (by omega)).mono ?_
  rintro e w1 ⟨sl, xs, p, b, rfl, hrow, hp, hr, ho⟩
  have hcur := hcur.trans ho
  obtain ⟨A, C, rfl⟩ := PRowX.form hrow
  have hw1 : w.heap.size + 1 ≤ w0.heap.size := by omega
  have r1 := fun o => ((ocell hcur).1 w.heap.size o (by omega) (by omega)).trans (r0 o)
  have m1 := fun o => ((ocell hcur).2 w.heap.size o (by omega) (by omega)).trans (m0 o)
  clear r0 m0
  go_wp2
  exact bodyPost_ret (v := .tuple #[.agg #[.slice A p.length C], .int .i64 b]) (by simp [results, Try.results100, go_sem, r1]) rfl
    ⟨.slice A p.length C, xs, p, b, rfl, (PRowX.only hrow ((Only.refl w.heap.size (w.heap.size + 1) _).setCell (Nat.le_refl _) (Nat.lt_succ_self _) _) (by omega)).lo_ (lo' := w.heap.size) (by omega), hp, ((hb1.trans ((hcur.below (by omega)).mono (by omega))).setCell (Nat.le_refl _) _)⟩

set_option maxRecDepth 100000 in
set_option maxHeartbeats 2000000 in
theorem S_DrawCapturesOf (v : Value) (l : List Int) (w : World) (hv : OBytes w v l) (hl : l.length ≤ 1048576) :
    Calls Try.prog 116 #[v] w fun e w' => ∃ (sl : Value) (xs : List Value) (p : Pr) (b0 : Int), e = .returned (.tuple #[.agg #[sl], .int .i64 b0]) ∧ PRow w' w.heap.size sl xs p ∧ (1 ≤ p.length ∧ p.length ≤ 7) ∧ Below w.heap.size w w' := by
  have hv1 := hv.keep (al1 (o := (.cells #[.slice none 0 0] 30)))
  clear hv
  go_enter Try.func116, Try.ntmps116
  go_wp2_with fail
  refine (S_newReader v l _ hv1 hl).mono ?_
  rintro e w0 ⟨rfl, hr, hb, hz⟩
  have hb1 := bthen al1 hb
  have r0 := fun o => (bcell hb).1 w.heap.size o (by simp)
  have m0 := fun o => (bcell hb).2 w.heap.size o (by simp)
  rw [World.size_alloc] at hr hz
  have hz0 : w.heap.size + 1 < w0.heap.size := by omega
  have hcur := Only.refl (w.heap.size + 1) (w.heap.size + 1 + 1) w0
  clear hz hb hv1
  go_wp2_with fail
  refine (S_blockOf (w.heap.size + 1) _ _ hr (by omega)).mono ?_
  rintro e w1 ⟨sl, xs, p, b, rfl, hrow, hp, hr, ho⟩
  have hcur := hcur.trans ho
  obtain ⟨A, C, rfl⟩ := PRowX.form hrow
  have hw1 : w.heap.size + 1 ≤ w0.heap.size := by omega
  have r1 := fun o => ((ocell hcur).1 w.heap.size o (by omega) (by omega)).trans (r0 o)
  have m1 := fun o => ((ocell hcur).2 w.heap.size o (by omega) (by omega)).trans (m0 o)
  clear r0 m0
  go_wp2
  exact bodyPost_ret (v := .tuple #[.agg #[.slice A p.length C], .int .i64 b]) (by simp [results, Try.results116, go_sem, r1]) rfl
    ⟨.slice A p.length C, xs, p, b, rfl, (PRowX.only hrow ((Only.refl w.heap.size (w.heap.size + 1) _).setCell (Nat.le_refl _) (Nat.lt_succ_self _) _) (by omega)).lo_ (lo' := w.heap.size) (by omega), hp, ((hb1.trans ((hcur.below (by omega)).mono (by omega))).setCell (Nat.le_refl _) _)⟩

set_option maxRecDepth 100000 in
set_option maxHeartbeats 2000000 in
theorem S_DrawSeenIn (v : Value) (l : List Int) (w : World) (hv : OBytes w v l) (hl : l.length ≤ 1048576) :
    Calls Try.prog 113 #[v] w fun e w' => ∃ (sl : Value) (xs : List Value) (p : Pr) (b0 : Int), e = .returned (.tuple #[.agg #[sl], .int .i64 b0]) ∧ PRow w' w.heap.size sl xs p ∧ (1 ≤ p.length ∧ p.length ≤ 7) ∧ Below w.heap.size w w' := by
  have hv1 := hv.keep (al1 (o := (.cells #[.slice none 0 0] 30)))
  clear hv
  go_enter Try.func113, Try.ntmps113
  go_wp2_with fail
  refine (S_newReader v l _ hv1 hl).mono ?_
  rintro e w0 ⟨rfl, hr, hb, hz⟩
  have hb1 := bthen al1 hb
  have r0 := fun o => (bcell hb).1 w.heap.size o (by simp)
  have m0 := fun o => (bcell hb).2 w.heap.size o (by simp)
  rw [World.size_alloc] at hr hz
  have hz0 : w.heap.size + 1 < w0.heap.size := by omega
  have hcur := Only.refl (w.heap.size + 1) (w.heap.size + 1 + 1) w0
  clear hz hb hv1
  go_wp2_with fail
  refine (S_blockOf (w.heap.size + 1) _ _ hr (by omega)).mono ?_
  rintro e w1 ⟨sl, xs, p, b, rfl, hrow, hp, hr, ho⟩
  have hcur := hcur.trans ho
  obtain ⟨A, C, rfl⟩ := PRowX.form hrow
  have hw1 : w.heap.size + 1 ≤ w0.heap.size := by omega
  have r1 := fun o => ((ocell hcur).1 w.heap.size o (by omega) (by omega)).trans (r0 o)
  have m1 := fun o => ((ocell hcur).2 w.heap.size o (by omega) (by omega)).trans (m0 o)
  clear r0 m0
  go_wp2
  exact bodyPost_ret (v := .tuple #[.agg #[.slice A p.length C], .int .i64 b]) (by simp [results, Try.results113, go_sem, r1]) rfl
    ⟨.slice A p.length C, xs, p, b, rfl, (PRowX.only hrow ((Only.refl w.heap.size (w.heap.size + 1) _).setCell (Nat.le_refl _) (Nat.lt_succ_self _) _) (by omega)).lo_ (lo' := w.heap.size) (by omega), hp, ((hb1.trans ((hcur.below (by omega)).mono (by omega))).setCell (Nat.le_refl _) _)⟩

set_option maxRecDepth 100000 in
set_option maxHeartbeats 2000000 in
theorem S_DrawLocalIn (v : Value) (l : List Int) (w : World) (hv : OBytes w v l) (hl : l.length ≤ 1048576) :
    Calls Try.prog 76 #[v] w fun e w' => ∃ (sl : Value) (xs : List Value) (p : Pr) (b0 b1 : Int), e = .returned (.tuple #[.agg #[sl], .int .i64 b0, .int .i64 b1]) ∧ PRow w' w.heap.size sl xs p ∧ (1 ≤ p.length ∧ p.length ≤ 7) ∧ Below w.heap.size w w' := by
  have hv1 := hv.keep (al1 (o := (.cells #[.slice none 0 0] 30)))
  clear hv
  go_enter Try.func76, Try.ntmps76
  go_wp2_with fail
  refine (S_newReader v l _ hv1 hl).mono ?_
  rintro e w0 ⟨rfl, hr, hb, hz⟩
  have hb1 := bthen al1 hb
  have r0 := fun o => (bcell hb).1 w.heap.size o (by simp)
  have m0 := fun o => (bcell hb).2 w.heap.size o (by simp)
  rw [World.size_alloc] at hr hz
  have hz0 : w.heap.size + 1 < w0.heap.size := by omega
  have hcur := Only.refl (w.heap.size + 1) (w.heap.size + 1 + 1) w0
  clear hz hb hv1
  go_wp2_with fail
  refine (S_useOf (w.heap.size + 1) _ _ hr (by omega)).mono ?_
  rintro e w1 ⟨sl, xs, p, b, x, rfl, hrow, hp, hr, ho⟩
  have hcur := hcur.trans ho
  obtain ⟨A, C, rfl⟩ := PRowX.form hrow
  have hw1 : w.heap.size + 1 ≤ w0.heap.size := by omega
  have r1 := fun o => ((ocell hcur).1 w.heap.size o (by omega) (by omega)).trans (r0 o)
  have m1 := fun o => ((ocell hcur).2 w.heap.size o (by omega) (by omega)).trans (m0 o)
  clear r0 m0
  go_wp2
  exact bodyPost_ret (v := .tuple #[.agg #[.slice A p.length C], .int .i64 b, .int .i64 x]) (by simp [results, Try.results76, go_sem, r1]) rfl
    ⟨.slice A p.length C, xs, p, b, x, rfl, (PRowX.only hrow ((Only.refl w.heap.size (w.heap.size + 1) _).setCell (Nat.le_refl _) (Nat.lt_succ_self _) _) (by omega)).lo_ (lo' := w.heap.size) (by omega), hp, ((hb1.trans ((hcur.below (by omega)).mono (by omega))).setCell (Nat.le_refl _) _)⟩

set_option maxRecDepth 100000 in
set_option maxHeartbeats 2000000 in
theorem S_DrawOuterOf (v : Value) (l : List Int) (w : World) (hv : OBytes w v l) (hl : l.length ≤ 1048576) :
    Calls Try.prog 72 #[v] w fun e w' => ∃ (sl : Value) (xs : List Value) (p : Pr) (b0 b1 : Int), e = .returned (.tuple #[.agg #[sl], .int .i64 b0, .int .i64 b1]) ∧ PRow w' w.heap.size sl xs p ∧ (1 ≤ p.length ∧ p.length ≤ 7) ∧ Below w.heap.size w w' := by
  have hv1 := hv.keep (al1 (o := (.cells #[.slice none 0 0] 30)))
  clear hv
  go_enter Try.func72, Try.ntmps72
  go_wp2_with fail
  refine (S_newReader v l _ hv1 hl).mono ?_
  rintro e w0 ⟨rfl, hr, hb, hz⟩
  have hb1 := bthen al1 hb
  have r0 := fun o => (bcell hb).1 w.heap.size o (by simp)
  have m0 := fun o => (bcell hb).2 w.heap.size o (by simp)
  rw [World.size_alloc] at hr hz
  have hz0 : w.heap.size + 1 < w0.heap.size := by omega
  have hcur := Only.refl (w.heap.size + 1) (w.heap.size + 1 + 1) w0
  clear hz hb hv1
  go_wp2_with fail
  refine (S_useOf (w.heap.size + 1) _ _ hr (by omega)).mono ?_
  rintro e w1 ⟨sl, xs, p, b, x, rfl, hrow, hp, hr, ho⟩
  have hcur := hcur.trans ho
  obtain ⟨A, C, rfl⟩ := PRowX.form hrow
  have hw1 : w.heap.size + 1 ≤ w0.heap.size := by omega
  have r1 := fun o => ((ocell hcur).1 w.heap.size o (by omega) (by omega)).trans (r0 o)
  have m1 := fun o => ((ocell hcur).2 w.heap.size o (by omega) (by omega)).trans (m0 o)
  clear r0 m0
  go_wp2
  exact bodyPost_ret (v := .tuple #[.agg #[.slice A p.length C], .int .i64 b, .int .i64 x]) (by simp [results, Try.results72, go_sem, r1]) rfl
    ⟨.slice A p.length C, xs, p, b, x, rfl, (PRowX.only hrow ((Only.refl w.heap.size (w.heap.size + 1) _).setCell (Nat.le_refl _) (Nat.lt_succ_self _) _) (by omega)).lo_ (lo' := w.heap.size) (by omega), hp, ((hb1.trans ((hcur.below (by omega)).mono (by omega))).setCell (Nat.le_refl _) _)⟩

set_option maxRecDepth 100000 in
set_option maxHeartbeats 2000000 in
theorem S_DrawOwnerOf (v : Value) (l : List Int) (w : World) (hv : OBytes w v l) (hl : l.length ≤ 1048576) :
    Calls Try.prog 80 #[v] w fun e w' => ∃ (sl : Value) (xs : List Value) (p : Pr) (b0 b1 : Int), e = .returned (.tuple #[.agg #[sl], .int .i64 b0, .int .i64 b1]) ∧ PRow w' w.heap.size sl xs p ∧ (1 ≤ p.length ∧ p.length ≤ 7) ∧ Below w.heap.size w w' := by
  have hv1 := hv.keep (al1 (o := (.cells #[.slice none 0 0] 30)))
  clear hv
  go_enter Try.func80, Try.ntmps80
  go_wp2_with fail
  refine (S_newReader v l _ hv1 hl).mono ?_
  rintro e w0 ⟨rfl, hr, hb, hz⟩
  have hb1 := bthen al1 hb
  have r0 := fun o => (bcell hb).1 w.heap.size o (by simp)
  have m0 := fun o => (bcell hb).2 w.heap.size o (by simp)
  rw [World.size_alloc] at hr hz
  have hz0 : w.heap.size + 1 < w0.heap.size := by omega
  have hcur := Only.refl (w.heap.size + 1) (w.heap.size + 1 + 1) w0
  clear hz hb hv1
  go_wp2_with fail
  refine (S_useOf (w.heap.size + 1) _ _ hr (by omega)).mono ?_
  rintro e w1 ⟨sl, xs, p, b, x, rfl, hrow, hp, hr, ho⟩
  have hcur := hcur.trans ho
  obtain ⟨A, C, rfl⟩ := PRowX.form hrow
  have hw1 : w.heap.size + 1 ≤ w0.heap.size := by omega
  have r1 := fun o => ((ocell hcur).1 w.heap.size o (by omega) (by omega)).trans (r0 o)
  have m1 := fun o => ((ocell hcur).2 w.heap.size o (by omega) (by omega)).trans (m0 o)
  clear r0 m0
  go_wp2
  exact bodyPost_ret (v := .tuple #[.agg #[.slice A p.length C], .int .i64 b, .int .i64 x]) (by simp [results, Try.results80, go_sem, r1]) rfl
    ⟨.slice A p.length C, xs, p, b, x, rfl, (PRowX.only hrow ((Only.refl w.heap.size (w.heap.size + 1) _).setCell (Nat.le_refl _) (Nat.lt_succ_self _) _) (by omega)).lo_ (lo' := w.heap.size) (by omega), hp, ((hb1.trans ((hcur.below (by omega)).mono (by omega))).setCell (Nat.le_refl _) _)⟩

set_option maxRecDepth 100000 in
set_option maxHeartbeats 2000000 in
theorem S_DrawSymbolOf (v : Value) (l : List Int) (w : World) (hv : OBytes w v l) (hl : l.length ≤ 1048576) :
    Calls Try.prog 103 #[v] w fun e w' => ∃ (sl : Value) (xs : List Value) (p : Pr) (b0 b1 : Int), e = .returned (.tuple #[.agg #[sl], .int .i64 b0, .int .i64 b1]) ∧ PRow w' w.heap.size sl xs p ∧ (1 ≤ p.length ∧ p.length ≤ 7) ∧ Below w.heap.size w w' := by
  have hv1 := hv.keep (al1 (o := (.cells #[.slice none 0 0] 30)))
  clear hv
  go_enter Try.func103, Try.ntmps103
  go_wp2_with fail
  refine (S_newReader v l _ hv1 hl).mono ?_
  rintro e w0 ⟨rfl, hr, hb, hz⟩
  have hb1 := bthen al1 hb
  have r0 := fun o => (bcell hb).1 w.heap.size o (by simp)
  have m0 := fun o => (bcell hb).2 w.heap.size o (by simp)
  rw [World.size_alloc] at hr hz
  have hz0 : w.heap.size + 1 < w0.heap.size := by omega
  have hcur := Only.refl (w.heap.size + 1) (w.heap.size + 1 + 1) w0
  clear hz hb hv1
  go_wp2_with fail
  refine (S_useOf (w.heap.size + 1) _ _ hr (by omega)).mono ?_
  rintro e w1 ⟨sl, xs, p, b, x, rfl, hrow, hp, hr, ho⟩
  have hcur := hcur.trans ho
  obtain ⟨A, C, rfl⟩ := PRowX.form hrow
  have hw1 : w.heap.size + 1 ≤ w0.heap.size := by omega
  have r1 := fun o => ((ocell hcur).1 w.heap.size o (by omega) (by omega)).trans (r0 o)
  have m1 := fun o => ((ocell hcur).2 w.heap.size o (by omega) (by omega)).trans (m0 o)
  clear r0 m0
  go_wp2
  exact bodyPost_ret (v := .tuple #[.agg #[.slice A p.length C], .int .i64 b, .int .i64 x]) (by simp [results, Try.results103, go_sem, r1]) rfl
    ⟨.slice A p.length C, xs, p, b, x, rfl, (PRowX.only hrow ((Only.refl w.heap.size (w.heap.size + 1) _).setCell (Nat.le_refl _) (Nat.lt_succ_self _) _) (by omega)).lo_ (lo' := w.heap.size) (by omega), hp, ((hb1.trans ((hcur.below (by omega)).mono (by omega))).setCell (Nat.le_refl _) _)⟩

set_option maxRecDepth 100000 in
set_option maxHeartbeats 2000000 in
theorem S_DrawTouchedBy (v : Value) (l : List Int) (w : World) (hv : OBytes w v l) (hl : l.length ≤ 1048576) :
    Calls Try.prog 111 #[v] w fun e w' => ∃ (sl : Value) (xs : List Value) (p : Pr) (b0 b1 : Int), e = .returned (.tuple #[.agg #[sl], .int .i64 b0, .int .i64 b1]) ∧ PRow w' w.heap.size sl xs p ∧ (1 ≤ p.length ∧ p.length ≤ 7) ∧ Below w.heap.size w w' := by
  have hv1 := hv.keep (al1 (o := (.cells #[.slice none 0 0] 30)))
  clear hv
  go_enter Try.func111, Try.ntmps111
  go_wp2_with fail
  refine (S_newReader v l _ hv1 hl).mono ?_
  rintro e w0 ⟨rfl, hr, hb, hz⟩
  have hb1 := bthen al1 hb
  have r0 := fun o => (bcell hb).1 w.heap.size o (by simp)
  have m0 := fun o => (bcell hb).2 w.heap.size o (by simp)
  rw [World.size_alloc] at hr hz
  have hz0 : w.heap.size + 1 < w0.heap.size := by omega
  have hcur := Only.refl (w.heap.size + 1) (w.heap.size + 1 + 1) w0
  clear hz hb hv1
  go_wp2_with fail
  refine (S_useOf (w.heap.size + 1) _ _ hr (by omega)).mono ?_
  rintro e w1 ⟨sl, xs, p, b, x, rfl, hrow, hp, hr, ho⟩
  have hcur := hcur.trans ho
  obtain ⟨A, C, rfl⟩ := PRowX.form hrow
  have hw1 : w.heap.size + 1 ≤ w0.heap.size := by omega
  have r1 := fun o => ((ocell hcur).1 w.heap.size o (by omega) (by omega)).trans (r0 o)
  have m1 := fun o => ((ocell hcur).2 w.heap.size o (by omega) (by omega)).trans (m0 o)
  clear r0 m0
  go_wp2
  exact bodyPost_ret (v := .tuple #[.agg #[.slice A p.length C], .int .i64 b, .int .i64 x]) (by simp [results, Try.results111, go_sem, r1]) rfl
    ⟨.slice A p.length C, xs, p, b, x, rfl, (PRowX.only hrow ((Only.refl w.heap.size (w.heap.size + 1) _).setCell (Nat.le_refl _) (Nat.lt_succ_self _) _) (by omega)).lo_ (lo' := w.heap.size) (by omega), hp, ((hb1.trans ((hcur.below (by omega)).mono (by omega))).setCell (Nat.le_refl _) _)⟩

set_option maxRecDepth 100000 in
set_option maxHeartbeats 2000000 in
theorem S_DrawDeclaredIn (v : Value) (l : List Int) (w : World) (hv : OBytes w v l) (hl : l.length ≤ 1048576) :
    Calls Try.prog 47 #[v] w fun e w' => ∃ (sl : Value) (xs : List Value) (p : Pr) (b0 b1 : Int), e = .returned (.tuple #[.agg #[sl], .int .i64 b0, .int .i64 b1]) ∧ PRow w' w.heap.size sl xs p ∧ (1 ≤ p.length ∧ p.length ≤ 7) ∧ Below w.heap.size w w' := by
  have hv1 := hv.keep (al1 (o := (.cells #[.slice none 0 0] 30)))
  clear hv
  go_enter Try.func47, Try.ntmps47
  go_wp2_with fail
  refine (S_newReader v l _ hv1 hl).mono ?_
  rintro e w0 ⟨rfl, hr, hb, hz⟩
  have hb1 := bthen al1 hb
  have r0 := fun o => (bcell hb).1 w.heap.size o (by simp)
  have m0 := fun o => (bcell hb).2 w.heap.size o (by simp)
  rw [World.size_alloc] at hr hz
  have hz0 : w.heap.size + 1 < w0.heap.size := by omega
  have hcur := Only.refl (w.heap.size + 1) (w.heap.size + 1 + 1) w0
  clear hz hb hv1
  go_wp2_with fail
  refine (S_blockOf (w.heap.size + 1) _ _ hr (by omega)).mono ?_
  rintro e w1 ⟨sl, xs, p, b, rfl, hrow, hp, hr, ho⟩
  have hcur := hcur.trans ho
  have hsz1 : w.heap.size + 1 ≤ w1.heap.size := by have := ho.size; first | (simp only [World.size_alloc] at this; omega) | omega
  try simp only [World.size_alloc] at hrow
  obtain ⟨ga, Cp, rfl, _, hCp, hga1, hga2, _, _⟩ := PRowX.rd hrow (by omega)
  have hrow := PRowX.lo_ (lo' := w.heap.size + 1 + 1) hrow (by omega)
  unfold maxLen at hCp
  obtain ⟨n0, hn0⟩ : ∃ n0 : Nat, n0 = p.length := ⟨_, rfl⟩
  have hpn : p.length = n0 := hn0.symm
  rw [← hn0] at hrow ⊢
  have hrow := PRowX.keep hrow (al1 (o := (.cells #[.slice (some ⟨ga, 0, none⟩) n0 Cp] 30)))
  have hcur := hcur.alloc (.cells #[.slice (some ⟨ga, 0, none⟩) n0 Cp] 30)
  have hr := hr.keep (al1 (o := (.cells #[.slice (some ⟨ga, 0, none⟩) n0 Cp] 30)))
  have bP : BoxP (w1.alloc (.cells #[.slice (some ⟨ga, 0, none⟩) n0 Cp] 30)) w1.heap.size (.slice (some ⟨ga, 0, none⟩) n0 Cp) := BoxP.new rfl _
  obtain ⟨PB, hPB⟩ : ∃ PB : Nat, PB = w1.heap.size := ⟨_, rfl⟩
  have hPB1 : w.heap.size + 1 ≤ PB := by omega
  have hgPB : w.heap.size + 1 < PB := by rw [hPB]; have := ho.size; first | (simp only [World.size_alloc] at this; omega) | omega
  have hgaPB : ga < PB := by omega
  have hgal : w.heap.size + 1 ≤ ga := by omega
  have hgg : w.heap.size + 1 + 1 ≤ w.heap.size + 1 ∨ w.heap.size + 2 ≤ ga := by omega
  rw [← hPB] at bP
  have HN := Lib.hid hn0
  clear hn0
  obtain ⟨W2, hW2⟩ : ∃ W2 : World, W2 = w1.alloc (.cells #[.slice (some ⟨ga, 0, none⟩) n0 Cp] 30) := ⟨_, rfl⟩
  go_wp2_with fail
  rw [← hPB, ← hW2]
  rw [← hW2] at hrow hcur hr bP
  clear hPB hsz1 ho hga1 hga2 hW2
  have r1 := fun o => ((ocell hcur).1 w.heap.size o (by omega) (by omega)).trans (r0 o)
  have m1 := fun o => ((ocell hcur).2 w.heap.size o (by omega) (by omega)).trans (m0 o)
  have hrow := PRowX.keep hrow (below0 W2).drew
  have hr := hr.drew
  have hcur := hcur.drew
  have zP := lt_of_block bP
  have cP : W2.cell? ⟨PB, 0, none⟩ = some (.slice (some ⟨ga, 0, none⟩) n0 Cp) := bP.cell
  have bP : BoxP W2.drew PB (.slice (some ⟨ga, 0, none⟩) n0 Cp) := bP
  go_wp2
  go_region_held3 (fun w' => w'.cell? ⟨PB, 0, none⟩ = some (.slice (some ⟨ga, 0, none⟩) n0 Cp))
    (first | go_keep | exact cP | exact (bP.other _ _ (show PB ≠ w.heap.size by omega)).cell)
    (first
      | (go_at_call 122
         refine (S_oneL (w.heap.size + 1) _ [9, 10, 11, 0] _ _ rfl hr (by omega) (by simp) (by simp)).mono ?_
         rintro e wz ⟨z, rfl, zm, hr, ho⟩
         have hcur := hcur.trans ho
         have bP := bP.only ho (by omega)
         have hrow := PRowX.only hrow ho (by omega)
         have cP := bP.cell
         have zP := lt_of_block bP
         have r1 := fun o => ((ocell hcur).1 w.heap.size o (by omega) (by omega)).trans (r0 o)
         have m1 := fun o => ((ocell hcur).2 w.heap.size o (by omega) (by omega)).trans (m0 o)
         clear ho)
    )
  all_goals
    have cP := bP.cell
    have r1 := fun o => ((ocell hcur).1 w.heap.size o (by omega) (by omega)).trans (r0 o)
    have m1 := fun o => ((ocell hcur).2 w.heap.size o (by omega) (by omega)).trans (m0 o)
    go_wp2
    exact bodyPost_ret (v := .tuple #[.agg #[(.slice (some ⟨ga, 0, none⟩) n0 Cp)], .int .i64 b, .int .i64 z]) (by simp [results, Try.results47, go_sem, r1]) rfl
      ⟨(.slice (some ⟨ga, 0, none⟩) n0 Cp), xs, p, b, z, rfl, (show PRowX _ _ _ _ _ p.length by rw [hpn]; exact (PRowX.only hrow ((Only.refl w.heap.size (w.heap.size + 1) _).setCell (Nat.le_refl _) (Nat.lt_succ_self _) _) (by omega)).lo_ (lo' := w.heap.size) (by omega)), ⟨by omega, by omega⟩, ((hb1.trans ((hcur.below (by omega)).mono (by omega))).setCell (Nat.le_refl _) _)⟩

set_option maxRecDepth 100000 in
set_option maxHeartbeats 2000000 in
theorem S_DrawValidProgram (v : Value) (l : List Int) (w : World) (hv : OBytes w v l) (hl : l.length ≤ 1048576) :
    Calls Try.prog 97 #[v] w fun e w' => ∃ (sl : Value) (xs : List Value) (p : Pr), e = .returned (.agg #[sl]) ∧ PRow w' w.heap.size sl xs p ∧ (1 ≤ p.length ∧ p.length ≤ 7) ∧ Below w.heap.size w w' := by
  have hv1 := hv.keep (al1 (o := (.cells #[.slice none 0 0] 30)))
  clear hv
  go_enter Try.func97, Try.ntmps97
  go_wp2_with fail
  refine (S_newReader v l _ hv1 hl).mono ?_
  rintro e w0 ⟨rfl, hr, hb, hz⟩
  have hb1 := bthen al1 hb
  have r0 := fun o => (bcell hb).1 w.heap.size o (by simp)
  have m0 := fun o => (bcell hb).2 w.heap.size o (by simp)
  rw [World.size_alloc] at hr hz
  have hz0 : w.heap.size + 1 < w0.heap.size := by omega
  have hcur := Only.refl (w.heap.size + 1) (w.heap.size + 1 + 1) w0
  clear hz hb hv1
  go_wp2_with fail
  refine (S_pick (w.heap.size + 1) _ 3 _ hr (by omega)).mono ?_
  rintro e wq ⟨c, rfl, c0, c1, hr, ho, hsz⟩
  have hcur := hcur.trans ho
  clear ho c0 c1
  by_cases h0 : c = 0
  · subst h0
    go_wp2_with fail
    refine (S_shapedProgram (w.heap.size + 1) _ _ hr (by omega)).mono ?_
    rintro e w1 ⟨sl, xs, p, rfl, hrow, hT, hpl, hr, ho⟩
    have hcur := hcur.trans ho
    have hp : 1 ≤ p.length ∧ p.length ≤ 7 := ⟨hT.len, by omega⟩
    obtain ⟨A, C, rfl⟩ := PRowX.form hrow
    have r1 := fun o => ((ocell hcur).1 w.heap.size o (by omega) (by omega)).trans (r0 o)
    have m1 := fun o => ((ocell hcur).2 w.heap.size o (by omega) (by omega)).trans (m0 o)
    clear r0 m0
    go_wp2
    exact bodyPost_ret (v := .agg #[.slice A p.length C]) (by simp [results, Try.results97, go_sem, r1]) rfl
      ⟨.slice A p.length C, xs, p, rfl, (PRowX.only hrow ((Only.refl w.heap.size (w.heap.size + 1) _).setCell (Nat.le_refl _) (Nat.lt_succ_self _) _) (by omega)).lo_ (lo' := w.heap.size) (by omega), hp, ((hb1.trans ((hcur.below (by omega)).mono (by omega))).setCell (Nat.le_refl _) _)⟩
  have q0 : (c == 0) = false := by rw [beq_eq_false_iff_ne]; exact h0
  go_wp2_with fail
  refine (S_anyProgram (w.heap.size + 1) _ _ hr (by omega)).mono ?_
  rintro e w1 ⟨sl, xs, p, rfl, hrow, hp, hr, ho⟩
  have hcur := hcur.trans ho
  obtain ⟨A, C, rfl⟩ := PRowX.form hrow
  have r1 := fun o => ((ocell hcur).1 w.heap.size o (by omega) (by omega)).trans (r0 o)
  have m1 := fun o => ((ocell hcur).2 w.heap.size o (by omega) (by omega)).trans (m0 o)
  clear r0 m0
  go_wp2
  exact bodyPost_ret (v := .agg #[.slice A p.length C]) (by simp [results, Try.results97, go_sem, r1]) rfl
    ⟨.slice A p.length C, xs, p, rfl, (PRowX.only hrow ((Only.refl w.heap.size (w.heap.size + 1) _).setCell (Nat.le_refl _) (Nat.lt_succ_self _) _) (by omega)).lo_ (lo' := w.heap.size) (by omega), hp, ((hb1.trans ((hcur.below (by omega)).mono (by omega))).setCell (Nat.le_refl _) _)⟩

end Go.Proofs.Ytklikpcfmmpocaa

namespace Go.Proofs.Ytklikpcfmmpocaa
open Go.RowKit
set_option linter.unusedVariables false

theorem L_equalInts (va vb : Value) (la lb : List Int) (l1 l2 : Nat) (w : World) (ha : Ints w l1 va la) (hb : Ints w l2 vb lb) :
    Calls Try.prog 43 #[va, vb] w fun e w' => e = .returned (.bool (la == lb)) ∧ Below w.heap.size w w' := by
  obtain ⟨A, C, g, rfl, hn, hc, hA, hg, hcell, hf⟩ := ha.rd
  obtain ⟨A', C', g', rfl, hn', hc', hA', hg', hcell', hf'⟩ := hb.rd
  clear ha hb hf hf'
  unfold maxLen at hc hc'
  by_cases hl : la.length = lb.length
  · have H := Lib.hid hl
    have hb0 : ((la.length : Int) != (lb.length : Int)) = false := by rw [hl]; simp
    have hn1 : la.length ≤ lb.length := by omega
    clear hl
    go_enter Try.func43, Try.ntmps43
    go_wp2
    go_loopw [5] (fun i wr => ∃ k : Nat, k ≤ la.length ∧ i = .int .i64 k ∧ Below w.heap.size w wr ∧ ∀ j, j < k → la.getD j 0 = lb.getD j 0) (fun i _ => la.length - (intOf i).toNat)
    case atStart => exact ⟨0, Nat.zero_le _, rfl, Below.refl _ _, fun j hj => absurd hj (Nat.not_lt_zero _)⟩
    case round =>
      obtain ⟨k, hk, rfl, hB, hp⟩ := hrel
      have HP := Lib.hid hp
      clear hp
      by_cases hlt : k < la.length
      · have c1 := (hB.cell (p := ⟨g, k, none⟩) (hg (by omega)).2).trans (hcell k hlt)
        have c2 := (hB.cell (p := ⟨g', k, none⟩) (hg' (by omega)).2).trans (hcell' k (by omega))
        obtain rfl := hA (by omega)
        obtain rfl := hA' (by omega)
        clear hA hA' hcell hcell' hg hg'
        generalize hx : la.getD k 0 = x at c1
        generalize hy : lb.getD k 0 = y at c2
        have HX := Lib.hid hx
        have HY := Lib.hid hy
        clear hx hy
        by_cases hxy : x = y
        · have HE := Lib.hid hxy
          have hb1 : (x != y) = false := by simp [hxy]
          clear hxy
          go_wp2
          go_quiet (fail)
          go_wp2
          go_roundw
          case rel => exact ⟨k + 1, by omega, by go_num, below_drewN hB _, fun j hj => by
            rcases Nat.lt_succ_iff_lt_or_eq.1 hj with h | rfl
            · exact HP.out j h
            · rw [HX.out, HY.out, HE.out]⟩
          case measure => simp [intOf]; omega
        · have HE := Lib.hid hxy
          have hb1 : (x != y) = true := by simp [hxy]
          clear hxy
          go_wp2
          go_quiet (fail)
          go_wp2
          go_ret
          refine ⟨ret_bool ?_, below_drewN hB _⟩
          rw [eq_comm, beq_eq_false_iff_ne]
          rintro rfl
          exact HE.out (by rw [← HX.out, ← HY.out])
      · go_wp2
        go_ret
        refine ⟨ret_bool ?_, hB⟩
        obtain rfl : k = la.length := by omega
        rw [eq_comm, beq_iff_eq]
        refine List.ext_getElem H.out fun i h1 h2 => ?_
        have := HP.out i h1
        simpa [List.getD, h1, h2] using this
  · have hb0 : ((la.length : Int) != (lb.length : Int)) = true := by simp; omega
    go_enter Try.func43, Try.ntmps43
    go_wp2
    go_ret
    refine ⟨ret_bool ?_, Below.refl _ _⟩
    rw [eq_comm, beq_eq_false_iff_ne]
    intro h
    exact absurd (congrArg _ h) hl

theorem L_isIn (v : Value) (l : List Int) (lo : Nat) (n : Int) (w : World) (hv : Ints w lo v l) :
    Calls Try.prog 45 #[v, .int .i64 n] w fun e w' => e = .returned (.bool (hasF l n)) ∧ w = w' := by
  obtain ⟨A, C, g, rfl, hn, hc, hA, hg, hcell, hf⟩ := hv.rd
  clear hf hv hg
  unfold maxLen at hc
  go_enter Try.func45, Try.ntmps45
  go_wp2
  go_loop [5] (fun i => ∃ k : Nat, k ≤ l.length ∧ i = .int .i64 k ∧ ∀ j, j < k → l.getD j 0 ≠ n) (fun i => l.length - (intOf i).toNat)
  case atStart => exact ⟨0, Nat.zero_le _, rfl, fun j hj => absurd hj (Nat.not_lt_zero _)⟩
  case round =>
    obtain ⟨k, hk, rfl, hp⟩ := hrel
    have HP := Lib.hid hp
    clear hp
    by_cases hlt : k < l.length
    · have c1 := hcell k hlt
      obtain rfl := hA (by omega)
      clear hA hcell
      generalize hx : l.getD k 0 = x at c1
      have HX := Lib.hid hx
      clear hx
      by_cases hxn : x = n
      · have hb : (x == n) = true := by simp [hxn]
        have HE := Lib.hid hxn
        clear hxn
        go_wp2
        go_ret
        refine ⟨ret_bool ?_, rfl⟩
        rw [eq_comm, hasF_iff, ← HE.out, ← HX.out]
        have e3 : l.getD k 0 = l[k] := by simp [List.getD, hlt]
        rw [e3]
        exact List.getElem_mem _
      · have hb : (x == n) = false := by simp [hxn]
        have HE := Lib.hid hxn
        clear hxn
        go_wp2
        go_round
        case rel => exact ⟨k + 1, by omega, by go_num, fun j hj => by
          rcases Nat.lt_succ_iff_lt_or_eq.1 hj with h | rfl
          · exact HP.out j h
          · rw [HX.out]; exact HE.out⟩
        case measure => simp [intOf]; omega
    · go_wp2
      go_ret
      refine ⟨ret_bool ?_, rfl⟩
      rw [eq_comm, Bool.eq_false_iff]
      intro h
      rw [hasF_iff, List.mem_iff_getElem] at h
      obtain ⟨j, hj, e⟩ := h
      exact HP.out j (by omega) (by simp [List.getD, hj, e])

/-- All numbers of the one list are in the other one: within says so. -/
theorem L_within (v u : Value) (l m : List Int) (lo lo2 : Nat) (w : World) (hv : Ints w lo v l) (hu : Ints w lo2 u m) (hall : ∀ x ∈ l, x ∈ m) :
    Calls Try.prog 53 #[v, u] w fun e w' => e = .returned (.bool true) ∧ w = w' := by
  obtain ⟨A, C, g, rfl, hn, hc, hA, hg, hcell, hf⟩ := hv.rd
  have HU := Lib.hid hu
  have HALL := Lib.hid hall
  clear hf hv hg hu hall
  unfold maxLen at hc
  go_enter Try.func53, Try.ntmps53
  go_wp2
  go_loop [5] (fun i => ∃ k : Nat, k ≤ l.length ∧ i = .int .i64 k) (fun i => l.length - (intOf i).toNat)
  case atStart => exact ⟨0, Nat.zero_le _, rfl⟩
  case round =>
    obtain ⟨k, hk, rfl⟩ := hrel
    by_cases hlt : k < l.length
    · have c1 := hcell k hlt
      obtain rfl := hA (by omega)
      have hin : hasF m (l.getD k 0) = true := by
        rw [hasF_iff]
        refine HALL.out _ ?_
        have e3 : l.getD k 0 = l[k] := by simp [List.getD, hlt]
        rw [e3]
        exact List.getElem_mem _
      have HIN := Lib.hid hin
      clear hA hcell hin
      generalize l.getD k 0 = x at *
      go_wp2_with (go_at_call 45; refine (L_isIn u m _ x _ HU.out).mono ?_; rintro e w' ⟨rfl, rfl⟩; rw [HIN.out])
      go_round
      case rel => exact ⟨k + 1, by omega, by go_num⟩
      case measure => simp [intOf]; omega
    · go_wp2
      go_ret
      exact ⟨rfl, rfl⟩

/-- An ascending list: ascends says so. -/
theorem L_ascends (v : Value) (l : List Int) (lo : Nat) (w : World) (hv : Ints w lo v l) (hasc : l.Pairwise (· < ·)) :
    Calls Try.prog 46 #[v] w fun e w' => e = .returned (.bool true) ∧ Below w.heap.size w w' := by
  obtain ⟨A, C, g, rfl, hn, hc, hA, hg, hcell, hf⟩ := hv.rd
  have hpw : ∀ k, 0 < k → k < l.length → ∃ a b, l.getD k 0 = a ∧ l.getD (k - 1) 0 = b ∧ b < a := fun k h0 h1 => by
    refine ⟨_, _, rfl, rfl, ?_⟩
    have := List.pairwise_iff_getElem.1 hasc (k - 1) k (by omega) h1 (by omega)
    simpa [List.getD, h1, show k - 1 < l.length by omega] using this
  have HPW := Lib.hid hpw
  clear hf hv hasc hpw
  unfold maxLen at hc
  go_enter Try.func46, Try.ntmps46
  go_wp2
  go_loopw [3] (fun i wr => ∃ k : Nat, 0 < k ∧ (k ≤ l.length ∨ k = 1) ∧ i = .int .i64 k ∧ Below w.heap.size w wr) (fun i _ => l.length - (intOf i).toNat)
  case atStart => exact ⟨1, by omega, .inr rfl, rfl, Below.refl _ _⟩
  case round =>
    obtain ⟨k, hk0, hk, rfl, hB⟩ := hrel
    by_cases hlt : k < l.length
    · have c1 := (hB.cell (p := ⟨g, k, none⟩) (hg (by omega)).2).trans (hcell k hlt)
      have c2 := (hB.cell (p := ⟨g, k - 1, none⟩) (hg (by omega)).2).trans (hcell (k - 1) (by omega))
      obtain rfl := hA (by omega)
      obtain ⟨x, y, hx, hy, hlt2⟩ := HPW.out k hk0 hlt
      rw [hx] at c1
      rw [hy] at c2
      have hle : ¬ x ≤ y := by omega
      have c3 : wr.cell? ⟨g, ((k : Int) - 1).toNat, none⟩ = some (.int .i64 y) := by rw [show ((k : Int) - 1).toNat = k - 1 by omega]; exact c2
      clear hA hcell hg hx hy
      go_wp2
      go_quiet (fail)
      go_wp2
      go_roundw
      case rel => exact ⟨k + 1, by omega, by omega, by go_num, below_drewN hB _⟩
      case measure => simp [intOf]; omega
    · go_wp2
      go_ret
      exact ⟨rfl, hB⟩

set_option maxRecDepth 100000 in
theorem L_join (v u : Value) (l m : List Int) (lo lo2 : Nat) (w : World) (hv : Ints w lo v l) (hu : Ints w lo2 u m) (hl : l.length + m.length ≤ 1000000) :
    Calls Try.prog 85 #[v, u] w fun e w' => ∃ v', e = .returned v' ∧ Ints w' w.heap.size v' (l ++ m) ∧ Below w.heap.size w w' := by
  have HV := Lib.hid hv
  have HU := Lib.hid hu
  clear hv hu
  go_enter Try.func85, Try.ntmps85
  go_wp2_with (first
    | (at_builtin; refine wpList_append_ints rfl _ _ rfl _ _ ([] ++ l) m w.heap.size _ rfl rfl h1 (HU.out.keep hb1') (by simp; omega) hb1'.size ?_; intro v2 w2 h2 _ hb2 _; have hb2' := hb1'.trans hb2)
    | (at_builtin; refine wpList_append_ints rfl _ _ rfl _ _ [] l w.heap.size _ rfl rfl (Ints.zero w _ (Nat.le_refl _)) (HV.out.keep al1) (by simp; omega) (by simp) ?_; intro v1 w1 h1 _ hb1 _; have hb1' := al1.trans hb1))
  go_ret
  exact ⟨_, rfl, by simpa using h2, hb2'⟩

end Go.Proofs.Ytklikpcfmmpocaa

namespace Go.Proofs.Ytklikpcfmmpocaa
open Go.ChangeShapes Go.WideShapes Go.ChangeAt Go.RowKit Go.Deep
set_option linter.unusedVariables false


set_option maxRecDepth 100000 in
theorem open_obytes {H : Type} {enc : TypeId × Value → H} {w : World} {base : Nat} {spare : Nat → Bool} {held : Bool} {v : Value} {d : DataW H} {ps : List MemPlace} {r : Reach} {b0 : Nat} (hv : Value.okWide Try.prog w r b0 22 v) (h : DataW.Trod enc Try.prog w base spare held 22 v d ps) : ∃ l, OBytes w v l := by
  obtain ⟨fuel, hf⟩ := h
  obtain ⟨v', n, f, hcs, ho, hel⟩ := old_slice Try.underlying22 (show Try.prog.cellsOf 5 = 1 by kernel_rfl) (by omega) hf
  obtain ⟨a0, l0, c0, rfl⟩ := okWide_slice Try.underlying22 hv
  have hvv : Value.slice a0 l0 c0 = v' := by simpa [Value.cells] using hcs
  subst hvv
  have hw : ∀ j, j < n → ∃ q : Int, f j = .int .u8 q ∧ 0 ≤ q ∧ q ≤ 255 := fun j hj => by
    obtain ⟨m, y, ht⟩ := hel j hj
    obtain ⟨q, hq, _, hwf⟩ := DataW.trod_int Try.underlying5 ht
    simp only [Nat.mul_one, List.range_one, List.map_cons, List.map_nil, Nat.add_zero, List.cons.injEq, and_true] at hq
    have := bounds_u8 hwf
    exact ⟨q, hq, this.1, this.2⟩
  refine ⟨(List.range n).map fun i => intOf (f i), ?_, ?_⟩
  · obtain ⟨A, C, b, o, h1, h2, h3, h4, h5⟩ := ho
    refine ⟨A, C, b, o, by simpa using h1, by simpa using h2, h3, by simpa using h4, fun j hj => ?_⟩
    have hj' : j < n := by simpa using hj
    obtain ⟨q, hq, _⟩ := hw j hj'
    rw [h5 j (by omega)]
    simp [List.getD, hj', hq, intOf]
  · intro x hx
    obtain ⟨i, hi, rfl⟩ := List.mem_map.1 hx
    obtain ⟨q, hq, h0, h1⟩ := hw i (by simpa using hi)
    rw [hq]
    exact ⟨h0, h1⟩

end Go.Proofs.Ytklikpcfmmpocaa
namespace Go.Proofs.Ytklikpcfmmpocaa
set_option linter.unusedVariables false

theorem hasF_no {l : List Int} {x : Int} : hasF l x = false ↔ x ∉ l := by rw [← Bool.not_eq_true, hasF_iff]
theorem shape_valid {p : Pr} {b : Int} (hv : validP p = true) (hs : shapeAt p b = true) : validB p b = true := by
  obtain ⟨_, h0, h1⟩ := shapeAt_iff.1 hs
  exact validB_iff.2 ⟨hv, h0, h1⟩
theorem nms_asc (f : Int → Bool) : (nms f).Pairwise (· < ·) := upto_asc f 8
theorem mem_rBound {p : Pr} {b x : Int} (hs : shapeAt p b = true) : x ∈ rBound p b ↔ (0 ≤ x ∧ x ≤ 7) ∧ (p.bk b).boundB x = true := by unfold rBound; rw [if_pos hs]; exact mem_nms
theorem mem_rRead {p : Pr} {b x : Int} (hs : shapeAt p b = true) : x ∈ rRead p b ↔ (0 ≤ x ∧ x ≤ 7) ∧ (p.bk b).readB x = true := by unfold rRead; rw [if_pos hs]; exact mem_nms
theorem mem_rDecl {p : Pr} {b x d : Int} (hs : shapeAt p b = true) (hd : d = 9 ∨ d = 10) : x ∈ rDecl p b d ↔ (0 ≤ x ∧ x ≤ 7) ∧ (p.bk b).declB d x = true := by
  unfold rDecl
  rw [hs, show inR d 9 10 = true from inR_iff.2 (by omega)]
  exact mem_nms
theorem mem_rUsed {p : Pr} {b x : Int} (hs : validB p b = true) : x ∈ rUsed p b ↔ (0 ≤ x ∧ x ≤ 7) ∧ (p.bk b).usesB x = true := by unfold rUsed; rw [if_pos hs]; exact mem_nms
theorem mem_rFrees {p : Pr} {b x : Int} (hs : validB p b = true) : x ∈ rFrees p b ↔ (0 ≤ x ∧ x ≤ 7) ∧ freeB p b x = true := by unfold rFrees; rw [if_pos hs]; exact mem_nms
theorem mem_rCells {p : Pr} {b x : Int} (hs : validB p b = true) : x ∈ rCells p b ↔ (0 ≤ x ∧ x ≤ 7) ∧ cellB p b x = true := by unfold rCells; rw [if_pos hs]; exact mem_nms
theorem mem_rFasts {p : Pr} {b x : Int} (hs : validB p b = true) : x ∈ rFasts p b ↔ (0 ≤ x ∧ x ≤ 7) ∧ fastB p b x = true := by unfold rFasts; rw [if_pos hs]; exact mem_nms
theorem rRead_asc (p : Pr) (b : Int) : (rRead p b).Pairwise (· < ·) := by unfold rRead; split; exact nms_asc _; exact List.Pairwise.nil
theorem rBound_asc (p : Pr) (b : Int) : (rBound p b).Pairwise (· < ·) := by unfold rBound; split; exact nms_asc _; exact List.Pairwise.nil
theorem rDecl_asc (p : Pr) (b d : Int) : (rDecl p b d).Pairwise (· < ·) := by unfold rDecl; split; exact nms_asc _; exact List.Pairwise.nil
theorem rUsed_asc (p : Pr) (b : Int) : (rUsed p b).Pairwise (· < ·) := by unfold rUsed; split; exact nms_asc _; exact List.Pairwise.nil
theorem rFrees_asc (p : Pr) (b : Int) : (rFrees p b).Pairwise (· < ·) := by unfold rFrees; split; exact nms_asc _; exact List.Pairwise.nil
theorem rCells_asc (p : Pr) (b : Int) : (rCells p b).Pairwise (· < ·) := by unfold rCells; split; exact nms_asc _; exact List.Pairwise.nil
theorem rFasts_asc (p : Pr) (b : Int) : (rFasts p b).Pairwise (· < ·) := by unfold rFasts; split; exact nms_asc _; exact List.Pairwise.nil
theorem rSeen_asc (p : Pr) (b : Int) : (rSeen p b).Pairwise (· < ·) := by unfold rSeen; split; exact nms_asc _; exact List.Pairwise.nil
theorem rTouch_asc (p : Pr) (b x : Int) : (rTouch p b x).Pairwise (· < ·) := by unfold rTouch; split; exact upto_asc _ _; exact List.Pairwise.nil
theorem rKids_asc (p : Pr) (b : Int) : (rKids p b).Pairwise (· < ·) := by unfold rKids; split; exact upto_asc _ _; exact List.Pairwise.nil
theorem rInsides_asc (p : Pr) (b : Int) : (rInsides p b).Pairwise (· < ·) := by unfold rInsides; split; exact upto_asc _ _; exact List.Pairwise.nil

/-! ### LocalIn -/
theorem local_iff {p : Pr} {b x : Int} : rLocal p b x = true ↔ 0 < b ∧ shapeAt p b = true ∧ (0 ≤ x ∧ x ≤ 7) ∧ (p.bk b).locB x = true := by
  unfold rLocal
  simp only [Bool.and_eq_true, decide_eq_true_eq, isNm_iff]
  constructor
  · rintro ⟨⟨h1, h2⟩, h3, h4⟩; exact ⟨h3, h1, h2, h4⟩
  · rintro ⟨h3, h1, h2, h4⟩; exact ⟨⟨h1, h2⟩, h3, h4⟩
theorem rOwner_yes {p : Pr} {b x : Int} (h : validB p b = true) (hx : 0 ≤ x ∧ x ≤ 7) : rOwner p b x = ownerF p b x := by unfold rOwner; rw [h, isNm_iff.2 hx]; rfl
theorem local_owner {p : Pr} {b x : Int} (hv : validP p = true) (hb : 0 < b) : (rOwner p b x == b) = rLocal p b x := by
  cases h : rLocal p b x with
  | true =>
    obtain ⟨_, hs, hx, hl⟩ := local_iff.1 h
    rw [rOwner_yes (shape_valid hv hs) hx, beq_iff_eq]
    exact (owner_self (by omega)).2 ⟨hb, hl⟩
  | false =>
    rw [beq_eq_false_iff_ne]
    intro e
    unfold rOwner at e
    split at e
    · rename_i hc
      rw [Bool.and_eq_true] at hc
      have h2 := (owner_self (by omega)).1 e
      rw [local_iff.2 ⟨hb, validB_shape hc.1, isNm_iff.1 hc.2, h2.2⟩] at h
      cases h
    · omega
theorem local_bound {p : Pr} {b x : Int} (h : rLocal p b x = true) : hasF (rBound p b) x = true := by
  obtain ⟨_, hs, hx, hl⟩ := local_iff.1 h
  rw [hasF_iff, mem_rBound hs]
  exact ⟨hx, (locB_bound hl).1⟩

/-! ### OwnerOf -/
theorem valid_decl {p : Pr} {b x : Int} (hv : validP p = true) (hb : 0 < b) (hl : b < p.length) (hx : 0 ≤ x ∧ x ≤ 7) : declOk p b x = true := by
  unfold validP at hv
  rw [Bool.and_eq_true, List.all_eq_true] at hv
  have h1 := hv.2 b.toNat (by rw [List.mem_range]; omega)
  rw [Bool.or_eq_true, List.all_eq_true] at h1
  rcases h1 with h1 | h1
  · rw [beq_iff_eq] at h1; omega
  · have h2 := h1 x.toNat (by rw [List.mem_range]; omega)
    rwa [Int.toNat_of_nonneg (by omega), Int.toNat_of_nonneg (by omega)] at h2
theorem owner_valid {p : Pr} {b x : Int} (h : rOwner p b x ≠ -2) : validB p b = true ∧ (0 ≤ x ∧ x ≤ 7) ∧ rOwner p b x = ownerF p b x := by
  unfold rOwner at h ⊢
  split at h
  · rename_i hc
    rw [if_pos hc]
    rw [Bool.and_eq_true] at hc
    exact ⟨hc.1, isNm_iff.1 hc.2, rfl⟩
  · exact absurd rfl h
theorem owner_zero {p : Pr} {b x : Int} (h : rOwner p b x ≠ -2) (hb : b = 0) : rOwner p b x = -1 := by
  rw [(owner_valid h).2.2]; unfold ownerF; rw [if_pos hb]
theorem owner_glob {p : Pr} {b x : Int} (h : rOwner p b x ≠ -2) (hd : hasF (rDecl p b 9) x = true) : rOwner p b x = -1 := by
  obtain ⟨hv, hx, e⟩ := owner_valid h
  rw [hasF_iff, mem_rDecl (validB_shape hv) (.inl rfl)] at hd
  rw [e]; unfold ownerF
  by_cases hb : b = 0
  · rw [if_pos hb]
  · rw [if_neg hb, if_pos hd.2]
theorem owner_loc {p : Pr} {b x : Int} (h : rOwner p b x ≠ -2) (hl : rLocal p b x = true) : rOwner p b x = b := by
  obtain ⟨hv, hx, e⟩ := owner_valid h
  obtain ⟨hb, _, _, hl⟩ := local_iff.1 hl
  rw [e]; exact (owner_self (by omega)).2 ⟨hb, hl⟩
theorem owner_out {p : Pr} {b x : Int} (h : rOwner p b x ≠ -2) (hb : b ≠ 0) (hd : hasF (rDecl p b 9) x = false) (hl : rLocal p b x = false) : rOwner p b x = rOuter p b x ∧ (hasF (rDecl p b 10) x = true → 0 < rOwner p b x) := by
  obtain ⟨hv, hx, e⟩ := owner_valid h
  have hs := validB_shape hv
  obtain ⟨hvp, hb0, hbl⟩ := validB_iff.1 hv
  have h1 : (p.bk b).declB 9 x = false := by
    rw [← Bool.not_eq_true]; intro hc
    rw [hasF_no] at hd
    exact hd ((mem_rDecl hs (.inl rfl)).2 ⟨hx, hc⟩)
  have h2 : (p.bk b).locB x = false := by
    rw [← Bool.not_eq_true]; intro hc
    rw [local_iff.2 ⟨by omega, hs, hx, hc⟩] at hl
    cases hl
  have e2 : ownerF p b x = outerF p b x := by unfold ownerF; rw [if_neg hb, h1, h2]; rfl
  have e3 : rOuter p b x = outerF p b x := by unfold rOuter; rw [hs, isNm_iff.2 hx]; rfl
  refine ⟨by rw [e, e2, e3], fun h10 => ?_⟩
  rw [hasF_iff, mem_rDecl hs (.inr rfl)] at h10
  have ok := valid_decl hvp (by omega : 0 < b) hbl hx
  unfold declOk at ok
  rw [h10.2, h1] at ok
  simp at ok
  rw [e, e2]
  rcases outerF_cases p b x hb0 with h | h
  · omega
  · exact h.1

/-! ### SymbolOf -/
theorem owner_ge (p : Pr) {b x : Int} (hb : 0 ≤ b) : -1 ≤ ownerF p b x ∧ (ownerF p b x = -1 ∨ 0 < ownerF p b x) := by
  rcases ownerF_cases p b x hb with h | h <;> omega
theorem fast_owner {p : Pr} (hs : shape p = true) {b x : Int} (hb : 0 ≤ b) (h : fastB p b x = true) : ownerF p b x = b ∧ 0 < b ∧ (p.bk b).kind = 1 ∧ (p.bk b).locB x = true := by
  unfold fastB at h
  simp only [Bool.and_eq_true, decide_eq_true_eq] at h
  have hb0 : 0 < b := by
    rcases Int.lt_or_eq_of_le hb with h1 | h1
    · exact h1
    · rw [← h1, (shape_par0 hs).2.1] at h; omega
  exact ⟨(owner_self hb).2 ⟨hb0, h.2.1⟩, hb0, h.1, h.2.1⟩
theorem cell_owner {p : Pr} {b x : Int} (hb : 0 ≤ b) (h : cellB p b x = true) : ownerF p b x = b ∧ 0 < b ∧ (p.bk b).kind = 1 ∧ (p.bk b).locB x = true :=
  ⟨(owner_self hb).2 (cellB_loc hb h), (cellB_loc hb h).1, (cellB_iff.1 h).1, (cellB_loc hb h).2⟩
theorem hasFasts {p : Pr} {b x : Int} (hv : validB p b = true) (hx : 0 ≤ x ∧ x ≤ 7) : hasF (rFasts p b) x = fastB p b x := by
  unfold rFasts; rw [if_pos hv]; exact hasF_nms _ x hx.1 hx.2
theorem hasCells {p : Pr} {b x : Int} (hv : validB p b = true) (hx : 0 ≤ x ∧ x ≤ 7) : hasF (rCells p b) x = cellB p b x := by
  unfold rCells; rw [if_pos hv]; exact hasF_nms _ x hx.1 hx.2
theorem hasFrees {p : Pr} {b x : Int} (hv : validB p b = true) (hx : 0 ≤ x ∧ x ≤ 7) : hasF (rFrees p b) x = freeB p b x := by
  unfold rFrees; rw [if_pos hv]; exact hasF_nms _ x hx.1 hx.2
theorem sym_law {p : Pr} {b x : Int} (h : 0 ≤ rSym p b x) : (0 ≤ b ∧ b < p.length) ∧
    ((rSym p b x = 0 ∧ rOwner p b x = -1 ∧ hasF (rFasts p b) x = false ∧ hasF (rCells p b) x = false) ∨
     (rSym p b x = 1 ∧ 0 < rOwner p b x ∧ rOwner p b x ≠ b ∧ hasF (rFasts p b) x = false ∧ hasF (rCells p b) x = false) ∨
     (rSym p b x = 2 ∧ rOwner p b x = b ∧ 0 < b ∧ hasF (rFasts p b) x = false ∧ hasF (rCells p b) x = false ∧ (p.bk b).kind = 2) ∨
     (rSym p b x = 3 ∧ rOwner p b x = b ∧ 0 < b ∧ hasF (rFasts p b) x = false ∧ hasF (rCells p b) x = true ∧ (p.bk b).kind = 1) ∨
     (rSym p b x = 4 ∧ rOwner p b x = b ∧ 0 < b ∧ hasF (rFasts p b) x = true ∧ hasF (rCells p b) x = false ∧ (p.bk b).kind = 1)) := by
  unfold rSym at h ⊢
  split at h
  case isFalse => omega
  case isTrue hc =>
    rw [if_pos hc]
    rw [Bool.and_eq_true] at hc
    obtain ⟨hv, hn⟩ := hc
    have hx := isNm_iff.1 hn
    obtain ⟨hvp, hb0, hbl⟩ := validB_iff.1 hv
    have hs := validP_shape hvp
    rw [rOwner_yes hv hx, hasFasts hv hx, hasCells hv hx]
    refine ⟨⟨hb0, hbl⟩, ?_⟩
    have ff : ownerF p b x ≠ b → fastB p b x = false ∧ cellB p b x = false := fun hne => by
      constructor
      · rw [← Bool.not_eq_true]; intro hc; exact hne (fast_owner hs hb0 hc).1
      · rw [← Bool.not_eq_true]; intro hc; exact hne (cell_owner hb0 hc).1
    have hge := owner_ge p hb0 (x := x)
    unfold symF
    by_cases h1 : ownerF p b x < 0
    · rw [if_pos h1]
      have := ff (by omega)
      exact .inl ⟨rfl, by omega, this.1, this.2⟩
    rw [if_neg h1]
    by_cases h2 : ownerF p b x ≠ b
    · rw [if_pos h2]
      have := ff h2
      exact .inr (.inl ⟨rfl, by omega, h2, this.1, this.2⟩)
    rw [if_neg h2]
    have h2 : ownerF p b x = b := Decidable.of_not_not h2
    obtain ⟨hb1, hl⟩ := (owner_self hb0).1 h2
    by_cases h3 : (p.bk b).kind = 2
    · rw [if_pos h3]
      refine .inr (.inr (.inl ⟨rfl, h2, hb1, ?_, ?_, h3⟩))
      · unfold fastB; rw [h3]; rfl
      · unfold cellB; rw [h3]; rfl
    rw [if_neg h3]
    have h4 : (p.bk b).kind = 1 := (shape_kind hs b hb1 hbl).resolve_right h3
    cases h5 : cellB p b x with
    | true =>
      rw [if_pos rfl]
      exact .inr (.inr (.inr (.inl ⟨rfl, h2, hb1, by unfold fastB; rw [h5]; simp, rfl, h4⟩)))
    | false =>
      rw [if_neg (by simp)]
      exact .inr (.inr (.inr (.inr ⟨rfl, h2, hb1, by unfold fastB; rw [h5, hl, h4]; rfl, rfl, h4⟩)))

/-! ### SharesCell -/
theorem share_law {p : Pr} {a b x : Int} (h : rShares p a b x = true) :
    rShares p b a x = true ∧ hasF (rCells p (rOwner p a x)) x = true ∧ hasF (rTouch p (rOwner p a x) x) a = true ∧ hasF (rTouch p (rOwner p a x) x) b = true := by
  unfold rShares shareQ at h ⊢
  simp only [Bool.and_eq_true, Bool.not_eq_true', beq_eq_false_iff_ne, decide_eq_true_eq, beq_iff_eq] at h ⊢
  obtain ⟨hv, ⟨ha, hn⟩, ⟨hb, _⟩, hne, hua, hub, ho, he, hk⟩ := h
  have hx := isNm_iff.1 hn
  obtain ⟨hs, ha0, hal⟩ := shapeAt_iff.1 ha
  obtain ⟨_, hb0, hbl⟩ := shapeAt_iff.1 hb
  have hva := shape_valid hv ha
  rw [rOwner_yes hva hx]
  have hol : ownerF p a x < p.length := by rcases ownerF_cases p a x ha0 with h | h <;> omega
  have hvo : validB p (ownerF p a x) = true := validB_iff.2 ⟨hv, by omega, hol⟩
  refine ⟨⟨hv, ⟨hb, hn⟩, ⟨ha, hn⟩, Ne.symm hne, hub, hua, by rw [← he]; exact ho, he.symm, by rw [← he]; exact hk⟩, ?_, ?_, ?_⟩
  · rw [hasCells hvo hx, cellB_iff]
    refine ⟨hk, ?_⟩
    by_cases e : a = ownerF p a x
    · exact ⟨b, hb0, hbl, by omega, hub, he.symm⟩
    · exact ⟨a, ha0, hal, e, hua, rfl⟩
  all_goals
    unfold rTouch touchF
    rw [hvo, hn, hasF_iff]
    simp only [Bool.and_self, if_true]
    rw [mem_upto, Bool.and_eq_true, beq_iff_eq]
  · exact ⟨ha0, hal, hua, rfl⟩
  · exact ⟨hb0, hbl, hub, he.symm⟩

/-! ### UsedIn, FreesOf -/
theorem used_law {p : Pr} {b : Int} (hv : validB p b = true) (x : Int) : x ∈ rUsed p b ↔ x ∈ (rRead p b ++ rBound p b) ++ (rDecl p b 9 ++ rDecl p b 10) := by
  have hs := validB_shape hv
  rw [mem_rUsed hv, List.mem_append, List.mem_append, List.mem_append, mem_rRead hs, mem_rBound hs, mem_rDecl hs (.inl rfl), mem_rDecl hs (.inr rfl)]
  unfold Bk.usesB Bk.declsB
  simp only [Bool.or_eq_true]
  constructor
  · rintro ⟨hx, (h | h) | h | h⟩
    · exact .inl (.inl ⟨hx, h⟩)
    · exact .inl (.inr ⟨hx, h⟩)
    · exact .inr (.inl ⟨hx, h⟩)
    · exact .inr (.inr ⟨hx, h⟩)
  · rintro ((⟨hx, h⟩ | ⟨hx, h⟩) | ⟨hx, h⟩ | ⟨hx, h⟩)
    · exact ⟨hx, .inl (.inl h)⟩
    · exact ⟨hx, .inl (.inr h)⟩
    · exact ⟨hx, .inr (.inl h)⟩
    · exact ⟨hx, .inr (.inr h)⟩
theorem frees_zero (p : Pr) : rFrees p 0 = [] := by
  unfold rFrees
  split
  · unfold freesF
    refine upto_nil fun i hi => ?_
    rw [← Bool.not_eq_true, freeB_iff]
    rintro ⟨c, _, _, _, _, h4, h5⟩
    omega
  · rfl
theorem frees_valid {p : Pr} {b : Int} (h : rFrees p b ≠ []) : validB p b = true := by
  unfold rFrees at h
  split at h
  · assumption
  · exact absurd rfl h
theorem frees_up {p : Pr} {b x : Int} (h : x ∈ rFrees p b) : 0 < b ∧ b < p.length ∧ 0 ≤ (p.bk b).parent ∧ (p.bk b).parent < p.length ∧ x ∈ rCells p (p.bk b).parent ++ rFrees p (p.bk b).parent := by
  have hv := frees_valid (List.ne_nil_of_mem h)
  obtain ⟨hvp, hb0, hbl⟩ := validB_iff.1 hv
  have h1 := (mem_rFrees hv).1 h
  obtain ⟨a1, a2, a3, a4⟩ := free_up (validP_shape hvp) hb0 hbl h1.2
  have hvu : validB p (p.bk b).parent = true := validB_iff.2 ⟨hvp, a2, a3⟩
  refine ⟨a1, hbl, a2, a3, ?_⟩
  rw [List.mem_append, mem_rCells hvu, mem_rFrees hvu]
  exact a4.imp (fun h => ⟨h1.1, h⟩) (fun h => ⟨h1.1, h⟩)
theorem frees_law {p : Pr} {b : Int} (h : rFrees p b ≠ []) : 0 < b ∧ b < p.length ∧ 0 ≤ (p.bk b).parent ∧ (p.bk b).parent < p.length ∧ ∀ x ∈ rFrees p b, x ∈ rCells p (p.bk b).parent ++ rFrees p (p.bk b).parent := by
  obtain ⟨y, hy⟩ := List.exists_mem_of_ne_nil _ h
  obtain ⟨a1, a2, a3, a4, _⟩ := frees_up hy
  exact ⟨a1, a2, a3, a4, fun x hx => (frees_up hx).2.2.2.2⟩
theorem mem_rKids {p : Pr} {b k : Int} : k ∈ rKids p b ↔ shapeAt p b = true ∧ k ∈ kidsF p b := by
  unfold rKids
  split
  · rename_i h; exact ⟨fun hk => ⟨h, hk⟩, fun hk => hk.2⟩
  · rename_i h; exact ⟨fun hk => by simp at hk, fun hk => absurd hk.1 h⟩
theorem frees_kids {p : Pr} {b k : Int} (hk : k ∈ rKids p b) : ∀ x ∈ rFrees p k, x ∈ rCells p b ++ rFrees p b := by
  intro x hx
  have h := (frees_up hx).2.2.2.2
  rwa [(mem_kids.1 (mem_rKids.1 hk).2).2.2] at h

/-! ### CellsOf, FastsOf -/
theorem cells_valid {p : Pr} {b : Int} (h : rCells p b ≠ []) : validB p b = true := by
  unfold rCells at h
  split at h
  · assumption
  · exact absurd rfl h
theorem cells_law {p : Pr} {b : Int} (h : rCells p b ≠ []) : 0 < b ∧ b < p.length ∧ (p.bk b).kind = 1 ∧ ∀ x ∈ rCells p b, rLocal p b x = true ∧ ∃ k ∈ rKids p b, hasF (rFrees p k) x = true := by
  have hv := cells_valid h
  obtain ⟨hvp, hb0, hbl⟩ := validB_iff.1 hv
  have hs := validP_shape hvp
  have key : ∀ x ∈ rCells p b, 0 < b ∧ (p.bk b).kind = 1 ∧ rLocal p b x = true ∧ ∃ k ∈ rKids p b, hasF (rFrees p k) x = true := fun x hx => by
    obtain ⟨hxn, hc⟩ := (mem_rCells hv).1 hx
    obtain ⟨_, c1, c2, c3⟩ := cell_owner hb0 hc
    obtain ⟨k, hk, hf⟩ := cell_kid hs hb0 hc
    refine ⟨c1, c2, local_iff.2 ⟨c1, validB_shape hv, hxn, c3⟩, k, mem_rKids.2 ⟨validB_shape hv, hk⟩, ?_⟩
    have hkk := kid_up hs hb0 hk
    have hvk : validB p k = true := validB_iff.2 ⟨hvp, by omega, hkk.2.1⟩
    rw [hasFrees hvk hxn]; exact hf
  obtain ⟨y, hy⟩ := List.exists_mem_of_ne_nil _ h
  exact ⟨(key y hy).1, hbl, (key y hy).2.1, fun x hx => (key x hx).2.2⟩
theorem fasts_law {p : Pr} {b x : Int} (hv : validB p b = true) (hx : 0 ≤ x ∧ x ≤ 7) : (hasF (rFasts p b) x && hasF (rCells p b) x) = false ∧ ((p.bk b).kind = 1 → (hasF (rFasts p b) x || hasF (rCells p b) x) = rLocal p b x) := by
  obtain ⟨hvp, hb0, hbl⟩ := validB_iff.1 hv
  have hs := validP_shape hvp
  rw [hasFasts hv hx, hasCells hv hx]
  refine ⟨by unfold fastB; cases cellB p b x <;> simp, fun hk => ?_⟩
  have hb1 : 0 < b := by
    rcases Int.lt_or_eq_of_le hb0 with h1 | h1
    · exact h1
    · rw [← h1, (shape_par0 hs).2.1] at hk; omega
  rw [Bool.eq_iff_iff, local_iff, Bool.or_eq_true]
  constructor
  · rintro (h | h)
    · exact ⟨hb1, validB_shape hv, hx, (fast_owner hs hb0 h).2.2.2⟩
    · exact ⟨hb1, validB_shape hv, hx, (cell_owner hb0 h).2.2.2⟩
  · rintro ⟨_, _, _, h⟩
    unfold fastB
    cases hc : cellB p b x
    · left; simp [hk, h]
    · right; rfl
theorem fasts_none {p : Pr} {b : Int} (hk : (p.bk b).kind ≠ 1) : rFasts p b = [] := by
  unfold rFasts
  split
  · unfold fastsF
    refine upto_nil fun i hi => ?_
    unfold fastB
    rw [decide_eq_false hk]; rfl
  · rfl

/-! ### TouchedBy -/
theorem touch_law {p : Pr} {b x : Int} (h : rTouch p b x ≠ []) : (0 < b ∧ b < p.length) ∧ (∀ c ∈ rTouch p b x, rOwner p c x = b ∧ hasF (rUsed p c) x = true ∧ c ∈ rInsides p b) ∧ b ∈ rTouch p b x ∧
    (decide (1 < (rTouch p b x).length) = (decide ((p.bk b).kind = 1) && hasF (rCells p b) x)) := by
  have hc : validB p b = true ∧ isNm x = true := by
    unfold rTouch at h
    split at h
    · rename_i hc; rwa [Bool.and_eq_true] at hc
    · exact absurd rfl h
  obtain ⟨hv, hn⟩ := hc
  have hx := isNm_iff.1 hn
  obtain ⟨hvp, hb0, hbl⟩ := validB_iff.1 hv
  have hs := validP_shape hvp
  have mem : ∀ c, c ∈ rTouch p b x ↔ 0 ≤ c ∧ c < p.length ∧ (p.bk c).usesB x = true ∧ ownerF p c x = b := fun c => by
    unfold rTouch touchF
    rw [hv, hn]
    simp only [Bool.and_self, if_true]
    rw [mem_upto, Bool.and_eq_true, beq_iff_eq]
  have key : ∀ c ∈ rTouch p b x, 0 < b ∧ (p.bk b).locB x = true ∧ rOwner p c x = b ∧ hasF (rUsed p c) x = true ∧ c ∈ rInsides p b := fun c hc => by
    obtain ⟨c0, c1, c2, c3⟩ := (mem c).1 hc
    have hvc : validB p c = true := validB_iff.2 ⟨hvp, c0, c1⟩
    rcases ownerF_cases p c x c0 with e | ⟨a1, a2, a3, a4⟩
    · omega
    · rw [c3] at a1 a2 a3 a4
      refine ⟨a1, a3, by rw [rOwner_yes hvc hx, c3], hasF_iff.2 ((mem_rUsed hvc).2 ⟨hx, c2⟩), ?_⟩
      unfold rInsides insidesF
      rw [if_pos (validB_shape hv), mem_upto]
      exact ⟨c0, c1, a4⟩
  obtain ⟨y, hy⟩ := List.exists_mem_of_ne_nil _ h
  have hb1 := (key y hy).1
  have hl := (key y hy).2.1
  have hbm : b ∈ rTouch p b x := (mem b).2 ⟨hb0, hbl, locB_uses hl, (owner_self hb0).2 ⟨hb1, hl⟩⟩
  refine ⟨⟨hb1, hbl⟩, fun c hc => (key c hc).2.2, hbm, ?_⟩
  have hone : ∀ l : List Int, l.Pairwise (· < ·) → b ∈ l → (1 < l.length ↔ ∃ c ∈ l, c ≠ b) := fun l ha hb => by
    constructor
    · intro h1
      match l, ha, hb, h1 with
      | c :: d :: r, ha, hb, _ =>
        by_cases e : c = b
        · have : c < d := (List.pairwise_cons.1 ha).1 d (by simp)
          exact ⟨d, by simp, by omega⟩
        · exact ⟨c, by simp, e⟩
    · rintro ⟨c, hc, hne⟩
      match l, hb, hc with
      | [d], hb, hc => simp at hb hc; omega
      | _ :: _ :: _, _, _ => simp
  rw [Bool.eq_iff_iff, decide_eq_true_eq, hone _ (rTouch_asc p b x) hbm, Bool.and_eq_true, decide_eq_true_eq, hasCells hv hx, cellB_iff]
  constructor
  · rintro ⟨c, hc, hne⟩
    obtain ⟨c0, c1, c2, c3⟩ := (mem c).1 hc
    obtain ⟨e, _, _, hk, _, _⟩ := owner_far c0 (by omega) (by omega : ownerF p c x ≠ c)
    rw [← e, c3] at hk
    exact ⟨hk, hk, c, c0, c1, hne, c2, c3⟩
  · rintro ⟨_, _, c, c0, c1, hne, c2, c3⟩
    exact ⟨c, (mem c).2 ⟨c0, c1, c2, c3⟩, hne⟩

/-! ### SeenIn, CapturesOf -/
theorem upto_full (f : Int → Bool) (h : ∀ x, f x = true) : ∀ n, (upto f n).length = n
  | 0 => rfl
  | n + 1 => by rw [upto_yes _ _ (h _), List.length_append, upto_full f h n]; rfl
theorem seen_law {p : Pr} {b : Int} (h : rSeen p b ≠ []) : (0 ≤ b ∧ b < p.length) ∧ ((p.bk b).kind ≠ 1 → (rSeen p b).length = 8) ∧ ((p.bk b).kind = 1 → ∀ x, 0 ≤ x → x ≤ 7 → hasF (rSeen p b) x = (rLocal p b x || hasF (rFrees p b) x)) := by
  have hv : validB p b = true := by
    unfold rSeen at h
    split at h
    · assumption
    · exact absurd rfl h
  obtain ⟨hvp, hb0, hbl⟩ := validB_iff.1 hv
  refine ⟨⟨hb0, hbl⟩, fun hk => ?_, fun hk x h0 h1 => ?_⟩
  · unfold rSeen seenF
    rw [if_pos hv]
    refine upto_full _ (fun x => ?_) 8
    unfold seenB
    rw [decide_eq_false hk]; rfl
  · unfold rSeen seenF
    rw [if_pos hv, hasF_nms _ x h0 h1, hasFrees hv ⟨h0, h1⟩]
    unfold seenB locP rLocal
    rw [decide_eq_true hk, validB_shape hv, isNm_iff.2 ⟨h0, h1⟩]
    simp
theorem plc_in {l : List Int} {x : Int} (h : x ∈ l) : 0 ≤ plc l x ∧ plc l x < l.length ∧ l.getD (plc l x).toNat 0 = x := by
  unfold plc
  rw [if_pos h]
  have h1 := List.idxOf_lt_length_of_mem h
  refine ⟨by omega, by omega, ?_⟩
  rw [Int.toNat_natCast]
  simp [List.getD, h1]
theorem plc_out {l : List Int} {x : Int} (h : x ∉ l) : plc l x = -1 := by unfold plc; rw [if_neg h]
theorem caps_law {p : Pr} {b : Int} (h : rCaps p b ≠ []) : 0 < b ∧ b < p.length ∧ 0 ≤ (p.bk b).parent ∧ (p.bk b).parent < p.length ∧ (rCaps p b).length = (rFrees p b).length ∧
    ∀ i : Nat, i < (rCaps p b).length → 0 ≤ (rCaps p b).getD i 0 ∧ (rCaps p b).getD i 0 < (rCells p (p.bk b).parent ++ rFrees p (p.bk b).parent).length ∧ (rCells p (p.bk b).parent ++ rFrees p (p.bk b).parent).getD ((rCaps p b).getD i 0).toNat 0 = (rFrees p b).getD i 0 := by
  have hv : validB p b = true := by
    unfold rCaps at h
    split at h
    · rename_i hc; rw [Bool.and_eq_true] at hc; exact hc.1
    · exact absurd rfl h
  have hz : decide (b ≠ 0) = true := by
    unfold rCaps at h
    split at h
    · rename_i hc; rw [Bool.and_eq_true] at hc; exact hc.2
    · exact absurd rfl h
  have e1 : rCaps p b = capF p b := by unfold rCaps; rw [hv, hz]; rfl
  have e2 : rFrees p b = freesF p b := by unfold rFrees; rw [if_pos hv]
  have hne : rFrees p b ≠ [] := by
    intro hc
    rw [e1] at h
    unfold capF at h
    rw [← e2, hc] at h
    exact h rfl
  obtain ⟨a1, a2, a3, a4, a5⟩ := frees_law hne
  obtain ⟨hvp, _, _⟩ := validB_iff.1 hv
  have hvu : validB p (p.bk b).parent = true := validB_iff.2 ⟨hvp, a3, a4⟩
  have e3 : rCells p (p.bk b).parent = cellsF p (p.bk b).parent := by unfold rCells; rw [if_pos hvu]
  have e4 : rFrees p (p.bk b).parent = freesF p (p.bk b).parent := by unfold rFrees; rw [if_pos hvu]
  have el : (rCaps p b).length = (rFrees p b).length := by rw [e1, e2]; unfold capF; rw [List.length_map]
  refine ⟨a1, a2, a3, a4, el, fun i hi => ?_⟩
  have hi2 : i < (rFrees p b).length := by omega
  have hx : (rFrees p b).getD i 0 ∈ rFrees p b := by
    have : (rFrees p b).getD i 0 = (rFrees p b)[i] := by simp [List.getD, hi2]
    rw [this]; exact List.getElem_mem _
  have e5 : (rCaps p b).getD i 0 = cplF p (p.bk b).parent ((rFrees p b).getD i 0) := by
    rw [e1, e2] at *
    unfold capF
    have : i < (freesF p b).length := by omega
    simp [List.getD, this]
  have hm := a5 _ hx
  rw [e5]
  generalize (rFrees p b).getD i 0 = x at *
  rw [List.length_append]
  unfold cplF
  rw [← e3, ← e4]
  by_cases hc : x ∈ rCells p (p.bk b).parent
  · obtain ⟨b1, b2, b3⟩ := plc_in hc
    rw [if_pos b1]
    refine ⟨b1, by omega, ?_⟩
    simp only [List.getD] at b3 ⊢
    rw [List.getElem?_append_left (by omega)]
    exact b3
  · have hf : x ∈ rFrees p (p.bk b).parent := (List.mem_append.1 hm).resolve_left hc
    obtain ⟨b1, b2, b3⟩ := plc_in hf
    rw [if_neg (by rw [plc_out hc]; omega)]
    refine ⟨by omega, by omega, ?_⟩
    simp only [List.getD] at b3 ⊢
    rw [List.getElem?_append_right (by omega), show ((rCells p (p.bk b).parent).length + plc (rFrees p (p.bk b).parent) x).toNat - (rCells p (p.bk b).parent).length = (plc (rFrees p (p.bk b).parent) x).toNat by omega]
    exact b3

/-! ### DepthOf, OuterOf, OwnerOf of children -/
theorem depth_law {p : Pr} {b : Int} (h : 0 ≤ rDepth p b) : (0 ≤ b ∧ b < p.length) ∧ ((rDepth p b == 0) = (b == 0)) ∧ rDepth p b < p.length ∧ ∀ k ∈ rKids p b, rDepth p k = rDepth p b + 1 := by
  have hs : shapeAt p b = true := by
    unfold rDepth at h
    split at h
    · assumption
    · omega
  obtain ⟨hsh, hb0, hbl⟩ := shapeAt_iff.1 hs
  have e : rDepth p b = depth p b := by unfold rDepth; rw [if_pos hs]
  rw [e]
  refine ⟨⟨hb0, hbl⟩, ?_, ?_, fun k hk => ?_⟩
  · rw [Bool.eq_iff_iff, beq_iff_eq, beq_iff_eq]; exact depth_zero hb0
  · have := depth_le p b.toNat b (by omega); omega
  · have hk2 := (mem_rKids.1 hk).2
    obtain ⟨k0, k1, _⟩ := kid_up hsh hb0 hk2
    unfold rDepth
    rw [if_pos (shapeAt_iff.2 ⟨hsh, by omega, k1⟩), kid_depth hsh hb0 hk2]
    omega
theorem outer_law {p : Pr} {b x : Int} (h : 0 ≤ rOuter p b x) : (0 < b ∧ b < p.length) ∧ 0 < rOuter p b x ∧ rOuter p b x < b ∧ (p.bk (rOuter p b x)).kind = 1 ∧ rLocal p (rOuter p b x) x = true ∧ hasF (rInsides p (rOuter p b x)) b = true ∧
    (0 ≤ (p.bk b).parent ∧ (p.bk b).parent < p.length) ∧ outerK p x (p.bk b).parent = rOuter p b x ∧
    ∀ k, rOuter p b x < k → k < p.length → outerK p x k = rOuter p b x → ((p.bk k).kind = 1 → rLocal p k x = false) ∧ (0 ≤ (p.bk k).parent ∧ (p.bk k).parent < k) ∧ outerK p x (p.bk k).parent = rOuter p b x := by
  have hc : shapeAt p b = true ∧ isNm x = true := by
    unfold rOuter at h
    split at h
    · rename_i hc; rwa [Bool.and_eq_true] at hc
    · omega
  obtain ⟨hs, hn⟩ := hc
  have hx := isNm_iff.1 hn
  obtain ⟨hsh, hb0, hbl⟩ := shapeAt_iff.1 hs
  have e : rOuter p b x = outerF p b x := by unfold rOuter; rw [hs, hn]; rfl
  rw [e] at h ⊢
  rcases outerF_cases p b x hb0 with h1 | ⟨a1, a2, a3, a4, a5⟩
  · omega
  have hol : outerF p b x < p.length := by omega
  have hso : shapeAt p (outerF p b x) = true := shapeAt_iff.2 ⟨hsh, by omega, hol⟩
  have hpb := shape_par hsh b (by omega) hbl
  refine ⟨⟨by omega, hbl⟩, a1, a2, a3, local_iff.2 ⟨a1, hso, hx, a4⟩, ?_, ⟨hpb.1, by omega⟩, ?_, fun k hk hkl ek => ?_⟩
  · unfold rInsides insidesF
    rw [if_pos hso, hasF_iff, mem_upto]
    exact ⟨hb0, hbl, a5⟩
  · rw [← up_eq hsh b hb0 hbl]; rfl
  · have hk0 : 0 < k := by omega
    have hpk := shape_par hsh k hk0 hkl
    rw [← up_eq hsh k (by omega) hkl] at hpk ⊢
    have hlk : (p.bk k).kind = 1 → (p.bk k).declB 9 x = false ∧ (p.bk k).locB x = false := fun h1 => by
      have h2 : (p.bk k).declB 9 x = false := by
        cases hd : (p.bk k).declB 9 x with
        | true => rw [outerK_glob hk0 h1 hd] at ek; omega
        | false => rfl
      refine ⟨h2, ?_⟩
      cases hl : (p.bk k).locB x with
      | true => rw [outerK_loc hk0 h1 h2 hl] at ek; omega
      | false => rfl
    refine ⟨fun h1 => ?_, hpk, ?_⟩
    · rw [← Bool.not_eq_true, local_iff]
      rintro ⟨_, _, _, hl⟩
      rw [(hlk h1).2] at hl; cases hl
    · by_cases h1 : (p.bk k).kind = 1
      · rw [outerK_up hk0 h1 (hlk h1).1 (hlk h1).2] at ek; exact ek
      · rw [outerK_skip hk0 h1] at ek; exact ek
theorem child_law {p : Pr} {b x k : Int} (h : rOwner p b x ≠ -2) (hk : (p.bk b).kind = 1) (hc : k ∈ rKids p b) (h1 : hasF (rBound p k) x = false) (h2 : hasF (rDecl p k 9) x = false) : rOwner p k x = rOwner p b x := by
  obtain ⟨hv, hx, e⟩ := owner_valid h
  obtain ⟨hvp, hb0, hbl⟩ := validB_iff.1 hv
  have hs := validP_shape hvp
  have hk2 := (mem_rKids.1 hc).2
  obtain ⟨k0, k1, _⟩ := kid_up hs hb0 hk2
  have hsk : shapeAt p k = true := shapeAt_iff.2 ⟨hs, by omega, k1⟩
  have hvk := shape_valid hvp hsk
  rw [rOwner_yes hvk hx, e]
  refine owner_kid hs hb0 hk hk2 ?_ ?_ hbl
  · rw [← Bool.not_eq_true]; intro hc
    rw [hasF_no] at h1
    exact h1 ((mem_rBound hsk).2 ⟨hx, hc⟩)
  · rw [← Bool.not_eq_true]; intro hc
    rw [hasF_no] at h2
    exact h2 ((mem_rDecl hsk (.inl rfl)).2 ⟨hx, hc⟩)

end Go.Proofs.Ytklikpcfmmpocaa

namespace Go.Proofs.Ytklikpcfmmpocaa
set_option linter.unusedVariables false

/-! ### ReadIn, BoundIn -/
theorem stmt_in {p : Pr} (h : shape p = true) {b : Int} (h0 : 0 ≤ b) (h1 : b < p.length) {s : St} (hs : s ∈ (p.bk b).body) : (0 ≤ s.to ∧ s.to ≤ 7) ∧ (∀ x ∈ s.reads, 0 ≤ x ∧ x ≤ 7) ∧ (0 ≤ s.kind ∧ s.kind ≤ 11) := by
  unfold shape at h
  rw [Bool.and_eq_true, Bool.and_eq_true, List.all_eq_true] at h
  have h2 := h.2.1 b.toNat (by rw [List.mem_range]; omega)
  rw [Int.toNat_of_nonneg h0] at h2
  unfold blockS at h2
  rw [Bool.and_eq_true, Bool.and_eq_true, List.all_eq_true] at h2
  have h3 := h2.2.2 s hs
  unfold stmtS at h3
  rw [stmtG_eq, Bool.and_eq_true, Bool.and_eq_true, List.all_eq_true] at h3
  refine ⟨isNm_iff.1 h3.1, fun x hx => isNm_iff.1 (h3.2.1 x hx), ?_⟩
  have h4 := h3.2.2
  unfold restG at h4
  repeat' split at h4
  all_goals first | omega | cases h4
theorem read_law {p : Pr} {b : Int} (h : shapeAt p b = true) {s : St} (hs : s ∈ (p.bk b).body) : ∀ x ∈ s.reads, hasF (rRead p b) x = true := by
  obtain ⟨hsh, h0, h1⟩ := shapeAt_iff.1 h
  intro x hx
  rw [hasF_iff, mem_rRead h]
  exact ⟨(stmt_in hsh h0 h1 hs).2.1 x hx, readB_of hs hx⟩
/-- What the law on BoundIn gathers: the names that the first k statements set or take away. -/
def bndTo (k : Bk) (n : Nat) : List Int := k.params ++ ((k.body.take n).filter fun s => decide (s.kind ≤ 6 ∨ s.kind = 11)).map (·.to)
theorem bndTo_zero (k : Bk) : bndTo k 0 = k.params := by simp [bndTo]
theorem bndTo_yes (k : Bk) (n : Nat) (h : n < k.body.length) (hk : (k.body.getD n default).kind ≤ 6 ∨ (k.body.getD n default).kind = 11) : bndTo k (n + 1) = bndTo k n ++ [(k.body.getD n default).to] := by
  have e : k.body.getD n default = k.body[n] := by simp [List.getD, h]
  rw [e] at hk ⊢
  unfold bndTo
  rw [List.take_succ_eq_append_getElem h, List.filter_append, List.map_append, List.append_assoc]
  simp [hk]
theorem bndTo_no (k : Bk) (n : Nat) (h : n < k.body.length) (hk : ¬ ((k.body.getD n default).kind ≤ 6 ∨ (k.body.getD n default).kind = 11)) : bndTo k (n + 1) = bndTo k n := by
  have e : k.body.getD n default = k.body[n] := by simp [List.getD, h]
  rw [e] at hk
  unfold bndTo
  rw [List.take_succ_eq_append_getElem h, List.filter_append, List.map_append]
  simp [hk]
theorem bndTo_len (k : Bk) (n : Nat) : (bndTo k n).length ≤ k.params.length + k.body.length := by
  unfold bndTo
  rw [List.length_append, List.length_map]
  have h1 := List.length_filter_le (fun s : St => decide (s.kind ≤ 6 ∨ s.kind = 11)) (k.body.take n)
  rw [List.length_take] at h1
  omega
theorem bound_law {p : Pr} {b : Int} (h : shapeAt p b = true) (x : Int) : x ∈ rBound p b ↔ x ∈ bndTo (p.bk b) (p.bk b).body.length := by
  obtain ⟨hsh, h0, h1⟩ := shapeAt_iff.1 h
  rw [mem_rBound h, boundB_iff]
  unfold bndTo
  rw [List.take_length, List.mem_append, List.mem_map]
  have hb : ∀ s ∈ (p.bk b).body, (s.binds = true ↔ s.kind ≤ 6 ∨ s.kind = 11) := fun s hs => by
    have := (stmt_in hsh h0 h1 hs).2.2
    unfold St.binds
    rw [decide_eq_true_eq]
    omega
  constructor
  · rintro ⟨_, h | ⟨s, hs, h2, h3⟩⟩
    · exact .inl h
    · exact .inr ⟨s, List.mem_filter.2 ⟨hs, by rw [decide_eq_true_eq]; exact (hb s hs).1 h2⟩, h3⟩
  · rintro (h | ⟨s, hs, h3⟩)
    · exact ⟨(shape_params hsh b h0 h1).2 x h, .inl h⟩
    · obtain ⟨hs1, hs2⟩ := List.mem_filter.1 hs
      rw [decide_eq_true_eq] at hs2
      rw [← h3]
      exact ⟨(stmt_in hsh h0 h1 hs1).1, .inr ⟨s, hs1, (hb s hs1).2 hs2, rfl⟩⟩

/-! ### ChildrenOf, InsideOf: counting -/
/-- How many statements make a block. -/
def mkTo (l : List St) (n : Nat) : Nat := ((l.take n).filter (·.makes)).length
theorem mkTo_succ (l : List St) (n : Nat) (h : n < l.length) : mkTo l (n + 1) = mkTo l n + if (l.getD n default).makes then 1 else 0 := by
  have e : l.getD n default = l[n] := by simp [List.getD, h]
  rw [e]
  unfold mkTo
  rw [List.take_succ_eq_append_getElem h, List.filter_append, List.length_append]
  cases hm : l[n].makes <;> simp [hm]
theorem makes_iff {s : St} : s.makes = true ↔ s.kind = 3 ∨ s.kind = 4 := by unfold St.makes; rw [decide_eq_true_eq]
theorem made_kid {p : Pr} (h : shape p = true) {b : Int} (h0 : 0 ≤ b) (h1 : b < p.length) {s : St} (hs : s ∈ (p.bk b).body) (hm : s.makes = true) : s.a ∈ kidsF p b ∧ b < s.a := by
  have hh := h
  unfold shape at h
  rw [Bool.and_eq_true, Bool.and_eq_true, List.all_eq_true] at h
  have h2 := h.2.1 b.toNat (by rw [List.mem_range]; omega)
  rw [Int.toNat_of_nonneg h0] at h2
  unfold blockS at h2
  rw [Bool.and_eq_true, Bool.and_eq_true, List.all_eq_true] at h2
  have h3 := h2.2.2 s hs
  unfold stmtS stmtG at h3
  rw [mem_kids]
  rcases makes_iff.1 hm with e | e <;> simp [e, madeS, inR] at h3 <;> omega
theorem filter_count_one {k : Int} : ∀ {l : List St}, (l.countP fun s => s.makes && s.a == k) = ((l.filter (·.makes)).map (·.a)).count k
  | [] => rfl
  | s :: l => by
    rw [List.countP_cons, List.filter_cons, filter_count_one (l := l)]
    cases hm : s.makes
    · simp
    · simp [List.count_cons]
theorem kid_made {p : Pr} (h : shape p = true) {b : Int} (h0 : 0 ≤ b) (h1 : b < p.length) {k : Int} (hk : k ∈ kidsF p b) : (((p.bk b).body.filter (·.makes)).map (·.a)).count k = 1 := by
  obtain ⟨k0, k1, _⟩ := kid_up h h0 hk
  have hp := (mem_kids.1 hk).2.2
  have hh := h
  unfold shape at h
  rw [Bool.and_eq_true, Bool.and_eq_true, List.all_eq_true, List.all_eq_true] at h
  have h2 := h.2.2 k.toNat (by rw [List.mem_range]; omega)
  rw [Int.toNat_of_nonneg (by omega), Bool.or_eq_true] at h2
  rcases h2 with h2 | h2
  · rw [beq_iff_eq] at h2; omega
  · rw [beq_iff_eq] at h2
    unfold madeIn madeBy at h2
    rw [hp, filter_count_one] at h2
    exact h2
theorem asc_nodup {l : List Int} (h : l.Pairwise (· < ·)) : l.Nodup := h.imp fun hab => by omega
theorem count_one {α : Type} [BEq α] [LawfulBEq α] {a : α} : ∀ {l : List α}, l.Nodup → a ∈ l → l.count a = 1
  | x :: l, hn, hm => by
    obtain ⟨h1, h2⟩ := List.nodup_cons.1 hn
    rw [List.count_cons]
    by_cases e : x = a
    · subst e
      rw [List.count_eq_zero_of_not_mem h1]; simp
    · rw [count_one h2 ((List.mem_cons.1 hm).resolve_left (fun h => e h.symm))]
      simp [e]
/-- The statements make just the children, each once. -/
theorem kids_len {p : Pr} (h : shape p = true) {b : Int} (h0 : 0 ≤ b) (h1 : b < p.length) : mkTo (p.bk b).body (p.bk b).body.length = (kidsF p b).length := by
  unfold mkTo
  rw [List.take_length, ← List.length_map (f := (·.a))]
  have hm : ∀ x, x ∈ ((p.bk b).body.filter (·.makes)).map (·.a) → x ∈ kidsF p b := fun x hx => by
    obtain ⟨s, hs, rfl⟩ := List.mem_map.1 hx
    obtain ⟨hs1, hs2⟩ := List.mem_filter.1 hs
    exact (made_kid h h0 h1 hs1 hs2).1
  have hp : List.Perm (((p.bk b).body.filter (·.makes)).map (·.a)) (kidsF p b) := by
    rw [List.perm_iff_count]
    intro x
    by_cases hx : x ∈ kidsF p b
    · rw [kid_made h h0 h1 hx, count_one (show (kidsF p b).Nodup from asc_nodup (upto_asc _ _)) hx]
    · rw [List.count_eq_zero_of_not_mem hx, List.count_eq_zero_of_not_mem (fun hc => hx (hm x hc))]
  exact hp.length_eq
/-- The children of all blocks below n are all blocks with a parent below n. -/
def kidSum (p : Pr) (n : Nat) : Nat := (List.range n).foldl (fun a (i : Nat) => a + (rKids p (i : Int)).length) 0
theorem kidSum_succ (p : Pr) (n : Nat) : kidSum p (n + 1) = kidSum p n + (rKids p (n : Int)).length := by unfold kidSum; rw [List.range_succ, List.foldl_append]; rfl
theorem upto_len_count (f : Int → Bool) : ∀ n, (upto f n).length = (List.range n).countP fun (i : Nat) => f (i : Int)
  | 0 => rfl
  | n + 1 => by
    rw [upto_succ, List.length_append, upto_len_count f n, List.range_succ, List.countP_append]
    cases hf : f (n : Int) <;> simp [hf]
theorem countP_or {α : Type} (f g : α → Bool) (h : ∀ x, (f x && g x) = false) : ∀ l : List α, l.countP (fun x => f x || g x) = l.countP f + l.countP g
  | [] => rfl
  | x :: l => by
    rw [List.countP_cons, List.countP_cons, List.countP_cons, countP_or f g h l]
    have := h x
    cases hf : f x <;> cases hg : g x <;> simp [hf, hg] at this ⊢ <;> omega
theorem kidSum_eq {p : Pr} (h : shape p = true) : ∀ n : Nat, n ≤ p.length → kidSum p n = (List.range p.length).countP fun (i : Nat) => decide (0 ≤ (p.bk (i : Int)).parent ∧ (p.bk (i : Int)).parent < n)
  | 0, _ => by
    unfold kidSum
    rw [List.countP_eq_zero.2]
    · rfl
    · intro i _ hc; rw [decide_eq_true_eq] at hc; omega
  | n + 1, hn => by
    rw [kidSum_succ, kidSum_eq h n (by omega)]
    have e : (rKids p (n : Int)).length = (List.range p.length).countP fun (i : Nat) => (p.bk (i : Int)).parent == (n : Int) := by
      unfold rKids kidsF
      rw [if_pos (shapeAt_iff.2 ⟨h, by omega, by omega⟩), upto_len_count]
    rw [e, ← countP_or]
    · congr 1
      funext i
      rw [Bool.eq_iff_iff, Bool.or_eq_true, decide_eq_true_eq, decide_eq_true_eq, beq_iff_eq]
      omega
    · intro i
      rw [← Bool.not_eq_true, Bool.and_eq_true, decide_eq_true_eq, beq_iff_eq]
      omega
theorem kidSum_all {p : Pr} (h : shape p = true) : kidSum p p.length = p.length - 1 := by
  rw [kidSum_eq h p.length (Nat.le_refl _)]
  obtain ⟨n, hn⟩ : ∃ n, p.length = n + 1 := ⟨p.length - 1, by have := shape_len h; omega⟩
  have key : ∀ m : Nat, m < p.length → (List.range (m + 1)).countP (fun (i : Nat) => decide (0 ≤ (p.bk (i : Int)).parent ∧ (p.bk (i : Int)).parent < p.length)) = m := by
    intro m
    induction m with
    | zero =>
      intro _
      have := (shape_par0 h).1
      simp [this]
    | succ m ih =>
      intro hm
      rw [List.range_succ, List.countP_append, ih (by omega)]
      have := shape_par h ((m + 1 : Nat) : Int) (by omega) (by omega)
      have h2 : decide (0 ≤ (p.bk ((m + 1 : Nat) : Int)).parent ∧ (p.bk ((m + 1 : Nat) : Int)).parent < p.length) = true := by rw [decide_eq_true_eq]; omega
      simp only [List.countP_cons, List.countP_nil, h2, if_true]
  have := key n (by omega)
  rw [hn] at this ⊢
  rw [show n + 1 - 1 = n by omega, ← hn]
  rw [← hn] at this
  exact this
theorem children_law {p : Pr} {b : Int} (h : rKids p b ≠ []) : shape p = true ∧ (0 ≤ b ∧ b < p.length) ∧ mkTo (p.bk b).body (p.bk b).body.length = (rKids p b).length ∧ (∀ s ∈ (p.bk b).body, s.makes = true → hasF (rKids p b) s.a = true) ∧ kidSum p p.length = p.length - 1 := by
  have hs : shapeAt p b = true := by
    unfold rKids at h
    split at h
    · assumption
    · exact absurd rfl h
  obtain ⟨hsh, h0, h1⟩ := shapeAt_iff.1 hs
  have e : rKids p b = kidsF p b := by unfold rKids; rw [if_pos hs]
  refine ⟨hsh, ⟨h0, h1⟩, by rw [e]; exact kids_len hsh h0 h1, fun s hs hm => ?_, kidSum_all hsh⟩
  rw [e, hasF_iff]
  exact (made_kid hsh h0 h1 hs hm).1

/-- InsideOf a block is it and InsideOf each of its children. -/
def inSum (p : Pr) (l : List Int) (n : Nat) : Nat := 1 + ((l.take n).map fun k => (rInsides p k).length).sum
theorem inSum_zero (p : Pr) (l : List Int) : inSum p l 0 = 1 := rfl
theorem inSum_succ (p : Pr) (l : List Int) (n : Nat) (h : n < l.length) : inSum p l (n + 1) = inSum p l n + (rInsides p (l.getD n 0)).length := by
  have e : l.getD n 0 = l[n] := by simp [List.getD, h]
  rw [e]
  unfold inSum
  rw [List.take_succ_eq_append_getElem h, List.map_append, List.sum_append]
  simp; omega
theorem inside_one_kid {p : Pr} (hs : shape p = true) {b k k' c : Int} (hb : 0 ≤ b) (hk : k ∈ kidsF p b) (hk' : k' ∈ kidsF p b) (h : inside p k c = true) (h' : inside p k' c = true) : k = k' := by
  obtain ⟨k0, k1, ku⟩ := kid_up hs hb hk
  obtain ⟨k0', k1', ku'⟩ := kid_up hs hb hk'
  have hbk : b < k := by have := up_lt p k (by omega); omega
  have hbk' : b < k' := by have := up_lt p k' (by omega); omega
  rcases Int.lt_trichotomy k k' with hlt | e | hlt
  · have h1 := inside_both p c.toNat c k' k (by omega) (by omega) (by omega) h' h
    rw [inside_up hlt (by omega), ku'] at h1
    have := inside_le p b.toNat b k (by omega) (by omega) h1
    omega
  · exact e
  · have h1 := inside_both p c.toNat c k k' (by omega) (by omega) (by omega) h h'
    rw [inside_up hlt (by omega), ku] at h1
    have := inside_le p b.toNat b k' (by omega) (by omega) h1
    omega
theorem countP_sum {α : Type} (L : List α) : ∀ (l : List Int) (f : Int → α → Bool), (∀ x, ∀ i j, i ∈ l → j ∈ l → f i x = true → f j x = true → i = j) → l.Nodup → (l.map fun k => L.countP (f k)).sum = L.countP fun x => l.any fun k => f k x
  | [], f, _, _ => by simp
  | k :: l, f, h, hn => by
    rw [List.map_cons, List.sum_cons, countP_sum L l f (fun x i j hi hj => h x i j (List.mem_cons_of_mem _ hi) (List.mem_cons_of_mem _ hj)) (List.nodup_cons.1 hn).2, ← countP_or]
    · congr 1
    · intro x
      rw [← Bool.not_eq_true, Bool.and_eq_true, List.any_eq_true]
      rintro ⟨h1, j, hj, h2⟩
      have := h x k j (by simp) (List.mem_cons_of_mem _ hj) h1 h2
      subst this
      exact (List.nodup_cons.1 hn).1 hj
theorem inside_zero {p : Pr} (hs : shape p = true) (n : Nat) : ∀ c : Int, c ≤ n → 0 ≤ c → c < p.length → inside p 0 c = true := by
  induction n with
  | zero =>
    intro c hc h0 _
    rw [inside_end (by omega), beq_iff_eq]; omega
  | succ n ih =>
    intro c hc h0 hl
    by_cases e : 0 < c
    · rw [inside_up e h0]
      have h1 := up_lt p c h0
      have h2 := up_eq hs c h0 hl
      have h3 := shape_par hs c e hl
      exact ih (up p c) (by omega) (by omega) (by omega)
    · rw [inside_end e, beq_iff_eq]; omega
theorem insides_law {p : Pr} {b : Int} (h : rInsides p b ≠ []) : shape p = true ∧ (0 ≤ b ∧ b < p.length) ∧ (∀ k ∈ rKids p b, ∀ x ∈ rInsides p k, x ∈ rInsides p b) ∧ inSum p (rKids p b) (rKids p b).length = (rInsides p b).length ∧ hasF (rInsides p b) b = true ∧ (rInsides p 0).length = p.length := by
  have hs : shapeAt p b = true := by
    unfold rInsides at h
    split at h
    · assumption
    · exact absurd rfl h
  obtain ⟨hsh, h0, h1⟩ := shapeAt_iff.1 hs
  have e : ∀ c : Int, 0 ≤ c → c < p.length → rInsides p c = insidesF p c := fun c c0 c1 => by unfold rInsides; rw [if_pos (shapeAt_iff.2 ⟨hsh, c0, c1⟩)]
  have ek : rKids p b = kidsF p b := by unfold rKids; rw [if_pos hs]
  refine ⟨hsh, ⟨h0, h1⟩, fun k hk x hx => ?_, ?_, ?_, ?_⟩
  · rw [ek] at hk
    obtain ⟨k0, k1, ku⟩ := kid_up hsh h0 hk
    rw [e k (by omega) k1] at hx
    rw [e b h0 h1]
    unfold insidesF at hx ⊢
    rw [mem_upto] at hx ⊢
    refine ⟨hx.1, hx.2.1, inside_trans p x.toNat x k b (by omega) h0 hx.2.2 ?_ (by omega)⟩
    have := up_lt p k (by omega)
    rw [inside_up (by omega) (by omega), ku]
    exact inside_self p b
  · rw [ek, e b h0 h1]
    unfold inSum
    rw [List.take_length]
    have e2 : (kidsF p b).map (fun k => (rInsides p k).length) = (kidsF p b).map fun k => (List.range p.length).countP fun (i : Nat) => inside p k (i : Int) := by
      refine List.map_congr_left fun k hk => ?_
      obtain ⟨k0, k1, ku⟩ := kid_up hsh h0 hk
      rw [e k (by omega) k1]
      unfold insidesF
      exact upto_len_count _ _
    rw [e2, countP_sum (List.range p.length) (kidsF p b) (fun k (i : Nat) => inside p k (i : Int)) (fun x i j hi hj h1 h2 => inside_one_kid hsh h0 hi hj h1 h2) (asc_nodup (upto_asc _ _))]
    unfold insidesF
    rw [upto_len_count]
    have e3 : (List.range p.length).countP (fun (i : Nat) => (i : Int) == b) = 1 := by
      have h5 : (List.range p.length).countP (fun (i : Nat) => (i : Int) == b) = (List.range p.length).count b.toNat := by
        unfold List.count
        congr 1
        funext i
        rw [Bool.eq_iff_iff, beq_iff_eq, beq_iff_eq]; omega
      rw [h5, count_one List.nodup_range (by rw [List.mem_range]; omega)]
    rw [← e3, ← countP_or]
    · refine List.countP_congr fun i hi => ?_
      rw [List.mem_range] at hi
      rw [Bool.or_eq_true, List.any_eq_true, beq_iff_eq]
      constructor
      · rintro (rfl | ⟨k, hk, h3⟩)
        · exact inside_self p _
        · obtain ⟨k0, k1, ku⟩ := kid_up hsh h0 hk
          refine inside_trans p i i k b (by omega) h0 h3 ?_ (by omega)
          have := up_lt p k (by omega)
          rw [inside_up (by omega) (by omega), ku]
          exact inside_self p b
      · intro h3
        by_cases e : (i : Int) = b
        · exact .inl e
        · obtain ⟨k, hk, h4, _⟩ := inside_kid hsh b h0 i i (by omega) (by omega) h3 e
          exact .inr ⟨k, hk, h4⟩
    · intro i
      rw [← Bool.not_eq_true, Bool.and_eq_true, List.any_eq_true, beq_iff_eq]
      rintro ⟨rfl, k, hk, h3⟩
      obtain ⟨k0, k1, ku⟩ := kid_up hsh h0 hk
      have := inside_le p i i k (by omega) (by omega) h3
      have := up_lt p k (by omega)
      omega
  · rw [e b h0 h1, hasF_iff]
    unfold insidesF
    rw [mem_upto]
    exact ⟨h0, h1, inside_self p b⟩
  · have := shape_len hsh
    rw [e 0 (by omega) (by omega)]
    unfold insidesF
    rw [upto_len_count, List.countP_eq_length.2, List.length_range]
    intro i hi
    rw [List.mem_range] at hi
    exact inside_zero hsh i i (by omega) (by omega) (by omega)

end Go.Proofs.Ytklikpcfmmpocaa

namespace Go.Proofs.Ytklikpcfmmpocaa
set_option linter.unusedVariables false

/-- Is a name free in one of the first n blocks of a list? -/
def metTo (p : Pr) (l : List Int) (x : Int) (n : Nat) : Bool := (l.take n).any fun k => hasF (rFrees p k) x
theorem metTo_succ (p : Pr) (l : List Int) (x : Int) (n : Nat) (h : n < l.length) : metTo p l x (n + 1) = (metTo p l x n || hasF (rFrees p (l.getD n 0)) x) := by
  have e : l.getD n 0 = l[n] := by simp [List.getD, h]
  rw [e]
  unfold metTo
  rw [List.take_succ_eq_append_getElem h, List.any_append]
  simp
theorem metTo_all {p : Pr} {l : List Int} {x : Int} (h : ∃ k ∈ l, hasF (rFrees p k) x = true) : metTo p l x l.length = true := by
  unfold metTo
  rw [List.take_length, List.any_eq_true]
  exact h

theorem inSum_le (p : Pr) (l : List Int) : ∀ n, n ≤ l.length → inSum p l n ≤ 1 + n * 1000000
  | 0, _ => by rw [inSum_zero]; omega
  | n + 1, h => by
    rw [inSum_succ p l n (by omega)]
    have := inSum_le p l n (by omega)
    have := rInsides_len p (l.getD n 0)
    omega
theorem kidSum_le (p : Pr) : ∀ n, kidSum p n ≤ n * 1000000
  | 0 => Nat.le_refl _
  | n + 1 => by
    rw [kidSum_succ]
    have := kidSum_le p n
    have := rKids_len p (n : Int)
    omega
theorem mkTo_le (l : List St) (n : Nat) : mkTo l n ≤ n := by
  unfold mkTo
  have h1 := List.length_filter_le (fun s : St => s.makes) (l.take n)
  rw [List.length_take] at h1
  omega

end Go.Proofs.Ytklikpcfmmpocaa
namespace Go.Proofs.Ytklikpcfmmpocaa
open Go.RowKit
set_option linter.unusedVariables false

set_option maxRecDepth 100000 in
set_option maxHeartbeats 2000000 in
theorem S_usedOf (g m : Nat) (w : World) (h : Rdr w g m) (hm : m ≤ 650000) :
    Calls Try.prog 173 #[.pointer (some ⟨g, 0, none⟩)] w fun e w' => ∃ (sl : Value) (xs : List Value) (p : Pr) (b0 b1 : Int), e = .returned (.tuple #[.agg #[sl], .int .i64 b0, .int .i64 b1]) ∧ PRow w' w.heap.size sl xs p ∧ (1 ≤ p.length ∧ p.length ≤ 7) ∧ Rdr w' g (m + 1400) ∧ Only g (g + 1) w w' := by
  have hgl : g < w.heap.size := h.lt
  have hr := h.keep (al1 (o := (.cells #[.slice none 0 0] 30)))
  have hcur := Only.refl g (g + 1) (w.alloc (.cells #[.slice none 0 0] 30))
  clear h
  go_enter Try.func173, Try.ntmps173
  go_wp2_with fail
  refine (S_useOf g _ _ hr (by omega)).mono ?_
  rintro e w1 ⟨sl, xs, p, b, x, rfl, hrow, hp, hr, ho⟩
  have hcur := hcur.trans ho
  have hsz1 : w.heap.size + 1 ≤ w1.heap.size := by have := ho.size; first | (simp only [World.size_alloc] at this; omega) | omega
  try simp only [World.size_alloc] at hrow
  obtain ⟨ga, Cp, rfl, _, hCp, hga1, hga2, _, _⟩ := PRowX.rd hrow (by omega)
  have hrow := PRowX.lo_ (lo' := w.heap.size + 1) hrow (by omega)
  unfold maxLen at hCp
  obtain ⟨n0, hn0⟩ : ∃ n0 : Nat, n0 = p.length := ⟨_, rfl⟩
  have hpn : p.length = n0 := hn0.symm
  rw [← hn0] at hrow ⊢
  have hrow := PRowX.keep hrow (al1 (o := (.cells #[.slice (some ⟨ga, 0, none⟩) n0 Cp] 30)))
  have hcur := hcur.alloc (.cells #[.slice (some ⟨ga, 0, none⟩) n0 Cp] 30)
  have hr := hr.keep (al1 (o := (.cells #[.slice (some ⟨ga, 0, none⟩) n0 Cp] 30)))
  have bP : BoxP (w1.alloc (.cells #[.slice (some ⟨ga, 0, none⟩) n0 Cp] 30)) w1.heap.size (.slice (some ⟨ga, 0, none⟩) n0 Cp) := BoxP.new rfl _
  obtain ⟨PB, hPB⟩ : ∃ PB : Nat, PB = w1.heap.size := ⟨_, rfl⟩
  have hPB1 : w.heap.size + 1 ≤ PB := by omega
  have hgPB : g < PB := by rw [hPB]; have := ho.size; first | (simp only [World.size_alloc] at this; omega) | omega
  have hgaPB : ga < PB := by omega
  have hgal : w.heap.size + 1 ≤ ga := by omega
  have hgg : g + 1 ≤ w.heap.size + 1 ∨ w.heap.size + 2 ≤ ga := by omega
  rw [← hPB] at bP
  have HN := Lib.hid hn0
  clear hn0
  go_wp2_with fail
  rw [← hPB]
  clear hPB hsz1 ho hga1 hga2
  have hblk : Blks _ _ (.slice (some ⟨ga, 0, none⟩) n0 Cp) p := PRowX.blks (show PRowX _ _ _ _ _ p.length by rw [hpn]; exact hrow)
  have HP := Lib.hid hpn
  refine (S_validProgram _ p _ _ hblk).mono ?_
  rintro e w2 ⟨rfl, hb2⟩
  have hrow := PRowX.keep hrow hb2
  have bP := bP.below hb2 (lt_of_block bP)
  have hr := hr.keep hb2
  have hcur := hcur.trans (Only.of_below hb2)
  have zP := lt_of_block bP
  clear hb2 hblk
  cases hvp : validP p
  · clear hvp
    have cP := bP.cell
    have r1 := fun o => (ocell hcur).1 w.heap.size o (by omega) (by first | simp | omega)
    have m1 := fun o => (ocell hcur).2 w.heap.size o (by omega) (by first | simp | omega)
    go_wp2
    exact bodyPost_ret (v := .tuple #[.agg #[(.slice (some ⟨ga, 0, none⟩) n0 Cp)], .int .i64 b, .int .i64 x]) (by simp [results, Try.results173, go_sem, r1]) rfl
      ⟨(.slice (some ⟨ga, 0, none⟩) n0 Cp), xs, p, b, x, rfl, (show PRowX _ _ _ _ _ p.length by rw [hpn]; exact (PRowX.only hrow ((Only.refl w.heap.size (w.heap.size + 1) _).setCell (Nat.le_refl _) (Nat.lt_succ_self _) _) (by omega)).lo_ (lo' := w.heap.size) (by omega)), ⟨by omega, by omega⟩, (hr.store (p := ⟨w.heap.size, 0, none⟩) hgl _).mono (by omega), ((Only.of_below al1).trans hcur).store (Nat.le_refl _) _⟩
  have HSH := Lib.hid (validP_shape hvp)
  clear hvp
  have cP := bP.cell
  have hwr : IntKind.i64.wrap ((n0 : Int) - 1) = (n0 : Int) - 1 := IntWalk.i64_in _ (by omega)
  go_wp2_with fail
  refine (S_inRange _ _ _ _).mono ?_
  rintro e w' ⟨rfl, rfl⟩
  cases hi : inR b 0 ((n0 : Int) - 1)
  · clear hi
    have cP := bP.cell
    have r1 := fun o => (ocell hcur).1 w.heap.size o (by omega) (by first | simp | omega)
    have m1 := fun o => (ocell hcur).2 w.heap.size o (by omega) (by first | simp | omega)
    go_wp2
    exact bodyPost_ret (v := .tuple #[.agg #[(.slice (some ⟨ga, 0, none⟩) n0 Cp)], .int .i64 b, .int .i64 x]) (by simp [results, Try.results173, go_sem, r1]) rfl
      ⟨(.slice (some ⟨ga, 0, none⟩) n0 Cp), xs, p, b, x, rfl, (show PRowX _ _ _ _ _ p.length by rw [hpn]; exact (PRowX.only hrow ((Only.refl w.heap.size (w.heap.size + 1) _).setCell (Nat.le_refl _) (Nat.lt_succ_self _) _) (by omega)).lo_ (lo' := w.heap.size) (by omega)), ⟨by omega, by omega⟩, (hr.store (p := ⟨w.heap.size, 0, none⟩) hgl _).mono (by omega), ((Only.of_below al1).trans hcur).store (Nat.le_refl _) _⟩
  have hbr := inR_iff.1 hi
  clear hi
  go_wp2_with fail
  refine (S_pick g _ 6 _ hr (by omega)).mono ?_
  rintro e w3 ⟨y, rfl, y0, y1, hr, ho, hsz⟩
  have hcur := hcur.trans ho
  have bP := bP.only ho (by omega)
  have hrow := PRowX.only hrow ho (by omega)
  clear hsz ho
  by_cases hy : 0 < y
  case neg =>
    have hy0 : ¬ y > 0 := hy
    have cP := bP.cell
    have r1 := fun o => (ocell hcur).1 w.heap.size o (by omega) (by first | simp | omega)
    have m1 := fun o => (ocell hcur).2 w.heap.size o (by omega) (by first | simp | omega)
    go_wp2
    exact bodyPost_ret (v := .tuple #[.agg #[(.slice (some ⟨ga, 0, none⟩) n0 Cp)], .int .i64 b, .int .i64 x]) (by simp [results, Try.results173, go_sem, r1]) rfl
      ⟨(.slice (some ⟨ga, 0, none⟩) n0 Cp), xs, p, b, x, rfl, (show PRowX _ _ _ _ _ p.length by rw [hpn]; exact (PRowX.only hrow ((Only.refl w.heap.size (w.heap.size + 1) _).setCell (Nat.le_refl _) (Nat.lt_succ_self _) _) (by omega)).lo_ (lo' := w.heap.size) (by omega)), ⟨by omega, by omega⟩, (hr.store (p := ⟨w.heap.size, 0, none⟩) hgl _).mono (by omega), ((Only.of_below al1).trans hcur).store (Nat.le_refl _) _⟩
  have hy0 : y > 0 := hy
  have hw3 : g + 1 ≤ w3.heap.size := by have := lt_of_block bP; omega
  have cP := bP.cell
  have hblk : Blks _ _ (.slice (some ⟨ga, 0, none⟩) n0 Cp) p := PRowX.blks (show PRowX _ _ _ _ _ p.length by rw [hpn]; exact hrow)
  go_wp2_with fail
  refine (S_used _ p _ b _ hblk HSH.out (by omega) (by omega)).mono ?_
  rintro e w4 ⟨lv, rfl, hlv, hb4⟩
  have hrow := PRowX.keep hrow hb4
  have bP := bP.below hb4 (lt_of_block bP)
  have hr := hr.keep hb4
  have hcur := hcur.trans (Only.of_below hb4)
  clear hb4 hblk
  obtain ⟨l, hl⟩ : ∃ l : List Int, l = usedF p b := ⟨_, rfl⟩
  have hll : l.length ≤ 8 := by rw [hl]; exact nms_len _
  rw [← hl] at hlv
  clear hl
  obtain ⟨LA, LC, rfl⟩ := hlv.form
  by_cases hl0 : l.length = 0
  · have hq : ¬ ((l.length : Int) > 0) := by omega
    have cP := bP.cell
    have r1 := fun o => (ocell hcur).1 w.heap.size o (by omega) (by first | simp | omega)
    have m1 := fun o => (ocell hcur).2 w.heap.size o (by omega) (by first | simp | omega)
    go_wp2
    exact bodyPost_ret (v := .tuple #[.agg #[(.slice (some ⟨ga, 0, none⟩) n0 Cp)], .int .i64 b, .int .i64 x]) (by simp [results, Try.results173, go_sem, r1]) rfl
      ⟨(.slice (some ⟨ga, 0, none⟩) n0 Cp), xs, p, b, x, rfl, (show PRowX _ _ _ _ _ p.length by rw [hpn]; exact (PRowX.only hrow ((Only.refl w.heap.size (w.heap.size + 1) _).setCell (Nat.le_refl _) (Nat.lt_succ_self _) _) (by omega)).lo_ (lo' := w.heap.size) (by omega)), ⟨by omega, by omega⟩, (hr.store (p := ⟨w.heap.size, 0, none⟩) hgl _).mono (by omega), ((Only.of_below al1).trans hcur).store (Nat.le_refl _) _⟩
  have hq : (l.length : Int) > 0 := by omega
  go_wp2_with fail
  refine (S_pick g _ l.length _ hr (by omega)).mono ?_
  rintro e w5 ⟨i, rfl, i0, i1, hr, ho, hsz⟩
  have hcur := hcur.trans ho
  have bP := bP.only ho (by omega)
  have hrow := PRowX.only hrow ho (by omega)
  have hlv := Ints.only hlv ho hw3
  have i1 := i1 (by omega)
  clear hsz ho
  obtain ⟨I, rfl⟩ := Int.eq_ofNat_of_zero_le i0
  obtain ⟨A', C', g', e', hn', hc', hA', hg', hcell', hf'⟩ := hlv.rd
  obtain rfl := hA' (by omega)
  simp only [Value.slice.injEq] at e'
  obtain ⟨rfl, _, rfl⟩ := e'
  have c1 := hcell' I (by omega)
  generalize l.getD I 0 = u at *
  clear hcell' hf' hA' hg'
  have cP := bP.cell
  have r1 := fun o => (ocell hcur).1 w.heap.size o (by omega) (by first | simp | omega)
  have m1 := fun o => (ocell hcur).2 w.heap.size o (by omega) (by first | simp | omega)
  go_wp2
  exact bodyPost_ret (v := .tuple #[.agg #[(.slice (some ⟨ga, 0, none⟩) n0 Cp)], .int .i64 b, .int .i64 u]) (by simp [results, Try.results173, go_sem, r1]) rfl
    ⟨(.slice (some ⟨ga, 0, none⟩) n0 Cp), xs, p, b, u, rfl, (show PRowX _ _ _ _ _ p.length by rw [hpn]; exact (PRowX.only hrow ((Only.refl w.heap.size (w.heap.size + 1) _).setCell (Nat.le_refl _) (Nat.lt_succ_self _) _) (by omega)).lo_ (lo' := w.heap.size) (by omega)), ⟨by omega, by omega⟩, (hr.store (p := ⟨w.heap.size, 0, none⟩) hgl _).mono (by omega), ((Only.of_below al1).trans hcur).store (Nat.le_refl _) _⟩

set_option maxRecDepth 100000 in
set_option maxHeartbeats 2000000 in
theorem S_DrawSharesCell (v : Value) (l : List Int) (w : World) (hv : OBytes w v l) (hl : l.length ≤ 1048576) :
    Calls Try.prog 92 #[v] w fun e w' => ∃ (sl : Value) (xs : List Value) (p : Pr) (b0 b1 b2 : Int), e = .returned (.tuple #[.agg #[sl], .int .i64 b0, .int .i64 b1, .int .i64 b2]) ∧ PRow w' w.heap.size sl xs p ∧ (1 ≤ p.length ∧ p.length ≤ 7) ∧ Below w.heap.size w w' := by
  have hv1 := hv.keep (al1 (o := (.cells #[.slice none 0 0] 30)))
  clear hv
  go_enter Try.func92, Try.ntmps92
  go_wp2_with fail
  refine (S_newReader v l _ hv1 hl).mono ?_
  rintro e w0 ⟨rfl, hr, hb, hz⟩
  have hb1 := bthen al1 hb
  have r0 := fun o => (bcell hb).1 w.heap.size o (by simp)
  have m0 := fun o => (bcell hb).2 w.heap.size o (by simp)
  rw [World.size_alloc] at hr hz
  have hz0 : w.heap.size + 1 < w0.heap.size := by omega
  have hcur := Only.refl (w.heap.size + 1) (w.heap.size + 1 + 1) w0
  clear hz hb hv1
  go_wp2_with fail
  refine (S_usedOf (w.heap.size + 1) _ _ hr (by omega)).mono ?_
  rintro e w1 ⟨sl, xs, p, b, x, rfl, hrow, hp, hr, ho⟩
  have hcur := hcur.trans ho
  have hsz1 : w.heap.size + 1 ≤ w1.heap.size := by have := ho.size; first | (simp only [World.size_alloc] at this; omega) | omega
  try simp only [World.size_alloc] at hrow
  obtain ⟨ga, Cp, rfl, _, hCp, hga1, hga2, _, _⟩ := PRowX.rd hrow (by omega)
  have hrow := PRowX.lo_ (lo' := w.heap.size + 1 + 1) hrow (by omega)
  unfold maxLen at hCp
  obtain ⟨n0, hn0⟩ : ∃ n0 : Nat, n0 = p.length := ⟨_, rfl⟩
  have hpn : p.length = n0 := hn0.symm
  rw [← hn0] at hrow ⊢
  have hrow := PRowX.keep hrow (al1 (o := (.cells #[.slice (some ⟨ga, 0, none⟩) n0 Cp] 30)))
  have hcur := hcur.alloc (.cells #[.slice (some ⟨ga, 0, none⟩) n0 Cp] 30)
  have hr := hr.keep (al1 (o := (.cells #[.slice (some ⟨ga, 0, none⟩) n0 Cp] 30)))
  have bP : BoxP (w1.alloc (.cells #[.slice (some ⟨ga, 0, none⟩) n0 Cp] 30)) w1.heap.size (.slice (some ⟨ga, 0, none⟩) n0 Cp) := BoxP.new rfl _
  obtain ⟨PB, hPB⟩ : ∃ PB : Nat, PB = w1.heap.size := ⟨_, rfl⟩
  have hPB1 : w.heap.size + 1 ≤ PB := by omega
  have hgPB : w.heap.size + 1 < PB := by rw [hPB]; have := ho.size; first | (simp only [World.size_alloc] at this; omega) | omega
  have hgaPB : ga < PB := by omega
  have hgal : w.heap.size + 1 ≤ ga := by omega
  have hgg : w.heap.size + 1 + 1 ≤ w.heap.size + 1 ∨ w.heap.size + 2 ≤ ga := by omega
  rw [← hPB] at bP
  have HN := Lib.hid hn0
  clear hn0
  obtain ⟨W2, hW2⟩ : ∃ W2 : World, W2 = w1.alloc (.cells #[.slice (some ⟨ga, 0, none⟩) n0 Cp] 30) := ⟨_, rfl⟩
  go_wp2_with fail
  rw [← hPB, ← hW2]
  rw [← hW2] at hrow hcur hr bP
  clear hPB hsz1 ho hga1 hga2 hW2
  have r1 := fun o => ((ocell hcur).1 w.heap.size o (by omega) (by omega)).trans (r0 o)
  have m1 := fun o => ((ocell hcur).2 w.heap.size o (by omega) (by omega)).trans (m0 o)
  have hrow := PRowX.keep hrow (below0 W2).drew
  have hr := hr.drew
  have hcur := hcur.drew
  have zP := lt_of_block bP
  have cP : W2.cell? ⟨PB, 0, none⟩ = some (.slice (some ⟨ga, 0, none⟩) n0 Cp) := bP.cell
  have bP : BoxP W2.drew PB (.slice (some ⟨ga, 0, none⟩) n0 Cp) := bP
  go_wp2
  go_region_held3 (fun w' => w'.cell? ⟨PB, 0, none⟩ = some (.slice (some ⟨ga, 0, none⟩) n0 Cp))
    (first | go_keep | exact cP | exact (bP.other _ _ (show PB ≠ w.heap.size by omega)).cell)
    (first
      | (go_at_call 174
         refine (S_pick (w.heap.size + 1) _ n0 _ hr (by omega)).mono ?_
         rintro e wz ⟨z, rfl, z0, z1, hr, ho, hsz⟩
         have hcur := hcur.trans ho
         have bP := bP.only ho (by omega)
         have hrow := PRowX.only hrow ho (by omega)
         have cP := bP.cell
         have zP := lt_of_block bP
         have r1 := fun o => ((ocell hcur).1 w.heap.size o (by omega) (by omega)).trans (r0 o)
         have m1 := fun o => ((ocell hcur).2 w.heap.size o (by omega) (by omega)).trans (m0 o)
         clear ho hsz)
    )
  all_goals
    have cP := bP.cell
    have r1 := fun o => ((ocell hcur).1 w.heap.size o (by omega) (by omega)).trans (r0 o)
    have m1 := fun o => ((ocell hcur).2 w.heap.size o (by omega) (by omega)).trans (m0 o)
    go_wp2
    exact bodyPost_ret (v := .tuple #[.agg #[(.slice (some ⟨ga, 0, none⟩) n0 Cp)], .int .i64 b, .int .i64 z, .int .i64 x]) (by simp [results, Try.results92, go_sem, r1]) rfl
      ⟨(.slice (some ⟨ga, 0, none⟩) n0 Cp), xs, p, b, z, x, rfl, (show PRowX _ _ _ _ _ p.length by rw [hpn]; exact (PRowX.only hrow ((Only.refl w.heap.size (w.heap.size + 1) _).setCell (Nat.le_refl _) (Nat.lt_succ_self _) _) (by omega)).lo_ (lo' := w.heap.size) (by omega)), ⟨by omega, by omega⟩, ((hb1.trans ((hcur.below (by omega)).mono (by omega))).setCell (Nat.le_refl _) _)⟩

end Go.Proofs.Ytklikpcfmmpocaa
namespace Go.Proofs.Ytklikpcfmmpocaa.sharesCell
open Go.ChangeShapes Go.WideShapes Go.ChangeAt Go.RowKit
set_option linter.unusedVariables false

set_option maxRecDepth 100000 in
set_option maxHeartbeats 1000000 in
theorem walk (v : Value) (l : List Int) (w : World) (hv : OBytes w v l) :
    Calls Try.prog 21 #[v] w fun e w' => e = .returned (.bool true) ∧ Below w.heap.size w w' := by
  have HV := Lib.hid hv
  obtain ⟨⟨A, C, b', o, rfl, hn, hc, _, _⟩, _⟩ := hv
  unfold maxLen at hc
  by_cases hbig : 1048576 < l.length
  · go_enter Try.func21, Try.ntmps21
    go_wp2
    go_ret
    exact ⟨rfl, Below.refl _ _⟩
  have hl : l.length ≤ 1048576 := by omega
  go_enter Try.func21, Try.ntmps21
  go_wp2_with fail
  refine (S_DrawSharesCell _ l _ HV.out hl).mono ?_
  rintro e w1 ⟨sl, xs, p, b, c, x, rfl, hrow, hp, hB⟩
  clear HV hbig hl hc hn
  obtain ⟨ga, Cp, rfl, _, hCp, _, _, _, _⟩ := PRowX.rd hrow (by omega)
  unfold maxLen at hCp
  obtain ⟨PB, hPB⟩ : ∃ PB : Nat, PB = w1.heap.size := ⟨_, rfl⟩
  obtain ⟨W, hW⟩ : ∃ W : World, W = w1.alloc (.cells #[.slice (some ⟨ga, 0, none⟩) p.length Cp] 30) := ⟨_, rfl⟩
  have hB : Below w.heap.size w W := by rw [hW]; exact bal hB _
  have hP : Blks W w.heap.size (.slice (some ⟨ga, 0, none⟩) p.length Cp) p := by rw [hW]; exact (PRowX.blks hrow).keep al1
  have cP : W.cell? ⟨PB, 0, none⟩ = some (.slice (some ⟨ga, 0, none⟩) p.length Cp) := by rw [hW, hPB]; simp [go_sem]
  have HPB := Lib.hid hPB
  have HW := Lib.hid hW
  clear hPB hW hrow
  obtain ⟨R, hR⟩ : ∃ R : Bool, R = rShares p b c x := ⟨_, rfl⟩
  have HR := Lib.hid hR
  clear hR
  have hne : (R != R) = false := by simp
  go_wp2_with fail
  rw [← HPB.out, ← HW.out]
  clear HPB HW
  refine (I_SharesCell _ p _ b c x _ ⟨_, rfl, hP⟩).mono ?_
  rintro e w2 ⟨rfl, hb⟩
  rw [← HR.out]
  replace cP := cell_later hb cP
  replace hP := hP.keep hb
  replace hB := bthen hB hb
  clear hb
  go_wp2_with fail
  refine (S_SharesCell _ p _ b c x _ ⟨_, rfl, hP⟩).mono ?_
  rintro e w3 ⟨rfl, hb⟩
  rw [← HR.out]
  replace cP := cell_later hb cP
  replace hP := hP.keep hb
  replace hB := bthen hB hb
  clear hb
  cases R
  · skip
    go_wp2_with fail
    refine (S_SharesCell _ p _ b c x _ ⟨_, rfl, hP⟩).mono ?_
    rintro e w4 ⟨rfl, hb⟩
    rw [← HR.out]
    replace cP := cell_later hb cP
    replace hP := hP.keep hb
    replace hB := bthen hB hb
    clear hb
    go_wp2
    go_ret
    exact ⟨rfl, hB⟩
  obtain ⟨e1, e2, e3, e4⟩ := share_law HR.out.symm
  have E1 := Lib.hid e1
  have E2 := Lib.hid e2
  have E3 := Lib.hid e3
  have E4 := Lib.hid e4
  clear e1 e2 e3 e4
  go_wp2_with fail
  refine (I_OwnerOf _ p _ b x _ ⟨_, rfl, hP⟩).mono ?_
  rintro e w5 ⟨rfl, hb⟩
  replace cP := cell_later hb cP
  replace hP := hP.keep hb
  replace hB := bthen hB hb
  clear hb
  go_wp2_with fail
  refine (I_SharesCell _ p _ c b x _ ⟨_, rfl, hP⟩).mono ?_
  rintro e w6 ⟨rfl, hb⟩
  rw [E1.out]
  replace cP := cell_later hb cP
  replace hP := hP.keep hb
  replace hB := bthen hB hb
  clear hb
  go_wp2_with fail
  refine (I_CellsOf _ p _ (rOwner p b x) _ ⟨_, rfl, hP⟩).mono ?_
  rintro e w7 ⟨y, rfl, hy, hb⟩
  replace cP := cell_later hb cP
  replace hP := hP.keep hb
  replace hB := bthen hB hb
  clear hb
  go_wp2_with fail
  refine (L_isIn _ _ _ x _ hy).mono ?_
  rintro e w' ⟨rfl, rfl⟩
  rw [E2.out]
  go_wp2_with fail
  refine (I_TouchedBy _ p _ (rOwner p b x) x _ ⟨_, rfl, hP⟩).mono ?_
  rintro e w8 ⟨z, rfl, hz, hb⟩
  replace cP := cell_later hb cP
  replace hP := hP.keep hb
  replace hy := hy.keep hb
  replace hB := bthen hB hb
  clear hb
  go_wp2_with fail
  refine (L_isIn _ _ _ b _ hz).mono ?_
  rintro e w' ⟨rfl, rfl⟩
  rw [E3.out]
  go_wp2_with fail
  refine (I_TouchedBy _ p _ (rOwner p b x) x _ ⟨_, rfl, hP⟩).mono ?_
  rintro e w9 ⟨z2, rfl, hz2, hb⟩
  replace cP := cell_later hb cP
  replace hP := hP.keep hb
  replace hy := hy.keep hb
  replace hz := hz.keep hb
  replace hB := bthen hB hb
  clear hb
  go_wp2_with fail
  refine (L_isIn _ _ _ c _ hz2).mono ?_
  rintro e w' ⟨rfl, rfl⟩
  rw [E4.out]
  go_wp2
  go_ret
  exact ⟨rfl, hB⟩

theorem own : ownKnob Try.prog.godebug = none := by kernel_rfl
theorem laidOut : laidOutB Try.prog = true := by kernel_rfl

set_option maxRecDepth 100000 in
theorem lifted (os : Os) (started : os.Started) (H : Type) (enc : TypeId × Value → H) :
    ReturnsInHanded {} Try.checked os 21 .any (Rows.fnSharesCellSpec.pre6 enc Try.prog Try.f21 Rows.fnSharesCellRow.domain false) (Rows.fnSharesCellSpec.post enc Try.prog Try.f21 false true false false) := by
  refine returnsInHanded_of_change (C := Try.checked) own started (by kernel_rfl) Try.func21
    (ChangeSpec.witness6 (enc := enc) (C := Try.checked) false ⟨#[], #[.slice none 0 0], []⟩ 8 (by kernel_rfl) (by kernel_rfl) (by kernel_rfl) (by kernel_rfl)) ?_
  intro W base args ds gs before hval0 hW hcnd _
  have hval : ∀ (j : Nat) t v, Try.f21.params[j]? = some t → args[j]? = some v → Value.okWide Try.prog W .any base t v := hval0
  have hW' := hW
  obtain ⟨p, q, hA0, hV, rfl, hfz, hnd⟩ := hW
  have hA : DataW.TrodAll enc Try.prog W 0 (fun _ => true) true Try.f21.params.toList args.toList ds p := hA0
  rw [Try.params21] at hA hval
  obtain ⟨v0, d0, rfl, rfl, h0⟩ := trodAll_one hA
  obtain ⟨rfl, rfl⟩ := trodVars_none hV
  clear hA0 hval0
  simp only [List.append_nil] at hW'
  have hlt : ∀ x ∈ p, x.block < W.heap.size := fun x hx => hW'.lt x hx
  obtain ⟨q0, hq0⟩ := open_obytes (hval 0 22 v0 rfl rfl) h0
  refine (walk v0 q0 W hq0).mono fun e W' ⟨he, hb⟩ => ?_
  subst he
  exact ⟨_, rfl, post_of_below (pa := _) (pv := []) hW' (fun _ _ _ => (trodAll_cons_mk (shut_bool Try.underlying4 _) trodAll_mk0)) (fun sp hsp => (trodAll_cons_mk (WideElems.Trod_stays laidOut (by kernel_rfl) (of_decide_eq_true (by kernel_rfl)) h0 (fun x hx => hb.same (hlt x (hx))) (fun x hx => hsp x (hx))) trodAll_mk0)) (fun _ _ => rfl) (by simp)
    hb (ok_one (by kernel_rfl) rfl (okWide_bool_mk Try.underlying4 _))⟩

theorem closed : joinedFacts Try.pinned.checked.prog 21 Try.f21 Rows.fnSharesCellSpec Rows.fnSharesCellRow = true := by
  show joinedFacts Try.prog 21 Try.f21 Rows.fnSharesCellSpec Rows.fnSharesCellRow = true
  unfold joinedFacts
  rw [may_enter, lifts_not, make_cut]
  kernel_rfl

theorem over : Rows.fnSharesCellRow.holds Try.pinned (OpenSpec.ofChange Rows.fnSharesCellSpec) :=
  OpenClaim.holds_of_wide 21 Try.f21 rfl rfl rfl rfl rfl rfl rfl ⟨rfl, rfl, rfl, rfl, rfl⟩ rfl rfl rfl rfl rfl (by kernel_rfl) Try.func21 closed
    (of_decide_eq_true (by kernel_rfl)) (by unfold Func.isWrapper; first | (rw [if_pos (by decide +kernel)]; kernel_rfl) | (rw [if_neg (by decide +kernel)]; exact ⟨rfl, rfl⟩))
    (fun os started H enc _ => lifted os started H enc)

theorem proved : Rows.FnSharesCellSaid := over
#print axioms proved
end Go.Proofs.Ytklikpcfmmpocaa.sharesCell
