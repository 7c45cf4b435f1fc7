/-
  Walks: the reference's draws of one statement. Condition: the reader stands in memory.
-/
import Derived.Test.YtiemhadpepbcjaaDraw1
namespace Go.Proofs.Ytiemhadpepbcjaa
open Go.RowKit
set_option linter.unusedVariables false

theorem Ints.litB {w : World} {B lo : Nat} (hB : w.heap.size = B) (hl : lo ≤ B) (l : List Int) (hn : l.length ≤ 1048576) : Ints (w.alloc (.cells (l.map (Value.int .i64)).toArray 3)) lo (.slice (some ⟨B, 0, none⟩) l.length l.length) l := by
  subst hB
  exact Ints.lit w lo l hl hn
theorem ocell {a b : Nat} {w w' : World} (ho : Only a b w w') : (∀ B o, (B < a ∨ b ≤ B) → B < w.heap.size → w'.cell? ⟨B, o, none⟩ = w.cell? ⟨B, o, none⟩) ∧ (∀ B o, (B < a ∨ b ≤ B) → B < w.heap.size → w'.frozen? ⟨B, o, none⟩ = w.frozen? ⟨B, o, none⟩) :=
  ⟨fun B o h1 h2 => World.cell?_of_block (a := ⟨B, o, none⟩) (ho.block B h2 h1), fun B o h1 h2 => World.frozen?_of_block (a := ⟨B, o, none⟩) (ho.block B h2 h1)⟩
theorem Only.store {a b : Nat} {w w1 : World} (h : Only a b w w1) {p : Addr} (hp : w.heap.size ≤ p.block) (u : Value) : Only a b w (w1.setCell p u) :=
  ⟨h.os, h.tape, h.output, by simpa [World.setCell] using h.size, fun k hk hx => (Below.heap_setCell _ _ _ _ (by omega)).trans (h.block k hk hx)⟩
theorem Rdr.store {w : World} {g m : Nat} (h : Rdr w g m) {p : Addr} (hp : g < p.block) (u : Value) : Rdr (w.setCell p u) g m :=
  h.other (a := p.block) (b := p.block + 1) ((Only.refl _ _ _).setCell (Nat.le_refl _) (Nat.lt_succ_self _) u) hp

set_option maxRecDepth 100000 in
theorem S_oneL (g m : Nat) (l : List Int) (w : World) (B : Nat) (hB : w.heap.size = B) (h : Rdr w g m) (hm : m ≤ 1000000) (hl : 0 < l.length) (hl2 : l.length ≤ 1000) :
    Calls Try.prog 69 #[.pointer (some ⟨g, 0, none⟩), .slice (some ⟨B, 0, none⟩) l.length l.length] (w.alloc (.cells (l.map (Value.int .i64)).toArray 3)) fun e w' => ∃ y : Int, e = .returned (.int .i64 y) ∧ y ∈ l ∧ Rdr w' g (m + 1) ∧ Only g (g + 1) w w' := by
  have hg := h.lt
  refine (S_one g m _ l B _ (h.keep al1) hm (Ints.litB hB (Nat.le_refl _) l (by omega)) hl hl2 (by omega)).mono ?_
  rintro e w1 ⟨y, rfl, hy, hr, ho, _⟩
  exact ⟨y, rfl, hy, hr, (Only.of_below al1).trans ho⟩


set_option maxRecDepth 100000 in
set_option maxHeartbeats 8000000 in
theorem S_someStmt (g m : Nat) (kind : Int) (w : World) (h : Rdr w g m) (hm : m ≤ 900000) :
    Calls Try.prog 100 #[.pointer (some ⟨g, 0, none⟩), .int .i64 kind] w fun e w' => ∃ s : St, e = .returned s.val ∧ (0 ≤ s.to ∧ s.to ≤ 7) ∧ Rdr w' g (m + 6) ∧ Only g (g + 1) w w' := by
  have hgl : g < w.heap.size := h.lt
  have hr := h.keep (al1 (o := (.cells #[.int .i64 0, .int .i64 0, .int .i64 0, .int .i64 0] 60)))
  have hcur := Only.refl g (g + 1) (w.alloc (.cells #[.int .i64 0, .int .i64 0, .int .i64 0, .int .i64 0] 60))
  clear h
  go_enter Try.func100, Try.ntmps100
  go_wp2_with fail
  refine (S_oneL g _ [0, 1, 2, 0, 1, 3] _ _ (by first | rfl | simp only [World.size_alloc]) hr (by omega) (by simp) (by simp)).mono ?_
  rintro e w1 ⟨t, rfl, tm, hr, ho⟩
  have hcur := hcur.trans ho
  try clear r1 m1
  have r1 := fun o => (ocell hcur).1 (w.heap.size) o (by omega) (by first | omega | (simp only [World.size_alloc]; omega))
  have m1 := fun o => (ocell hcur).2 (w.heap.size) o (by omega) (by first | omega | (simp only [World.size_alloc]; omega))
  have tm : 0 ≤ t ∧ t ≤ 7 := by simp at tm; omega
  go_wp2_with fail
  refine (S_pick g _ 12 _ hr (by omega)).mono ?_
  rintro e w2 ⟨c, rfl, c0, c1, hr, ho, hsz⟩
  clear hsz
  have hcur := hcur.trans ho
  try clear r1 m1
  have r1 := fun o => (ocell hcur).1 (w.heap.size) o (by omega) (by first | omega | (simp only [World.size_alloc]; omega))
  have m1 := fun o => (ocell hcur).2 (w.heap.size) o (by omega) (by first | omega | (simp only [World.size_alloc]; omega))
  have hc : c = 0 ∨ c = 1 ∨ c = 2 ∨ c = 3 ∨ c = 4 ∨ c = 5 ∨ c = 6 ∨ c = 7 ∨ c = 8 ∨ c = 9 ∨ c = 10 ∨ c = 11 := by omega
  rcases hc with rfl | rfl | rfl | rfl | rfl | rfl | rfl | rfl | rfl | rfl | rfl | rfl
  · skip
    go_wp2_with fail
    refine (S_pick g _ 20 _ hr (by omega)).mono ?_
    rintro e w3 ⟨y, rfl, y0, y1, hr, ho, hsz⟩
    clear hsz
    have hcur := hcur.trans ho
    try clear r1 m1
    have r1 := fun o => (ocell hcur).1 (w.heap.size) o (by omega) (by first | omega | (simp only [World.size_alloc]; omega))
    have m1 := fun o => (ocell hcur).2 (w.heap.size) o (by omega) (by first | omega | (simp only [World.size_alloc]; omega))
    go_wp2_with fail
    refine (S_oneL g _ [y, 99, 5] _ _ (by first | rfl | simp only [World.size_alloc]) hr (by omega) (by simp) (by simp)).mono ?_
    rintro e w4 ⟨z, rfl, zm, hr, ho⟩
    have hcur := hcur.trans ho
    try clear r1 m1
    have r1 := fun o => (ocell hcur).1 (w.heap.size) o (by omega) (by first | omega | (simp only [World.size_alloc]; omega))
    have m1 := fun o => (ocell hcur).2 (w.heap.size) o (by omega) (by first | omega | (simp only [World.size_alloc]; omega))
    go_wp2
    exact bodyPost_ret (v := St.val ⟨0, t, z, 0⟩) (by simp [results, Try.results100, go_sem, r1]) rfl ⟨⟨0, t, z, 0⟩, rfl, by first | exact tm | simp, ((((hr.store hgl _).store hgl _).store hgl _).store hgl _).mono (by omega), ((((((Only.of_below al1).trans hcur)).store (Nat.le_refl _) _).store (Nat.le_refl _) _).store (Nat.le_refl _) _).store (Nat.le_refl _) _⟩
  · skip
    go_wp2_with fail
    refine (S_pick g _ 20 _ hr (by omega)).mono ?_
    rintro e w3 ⟨y, rfl, y0, y1, hr, ho, hsz⟩
    clear hsz
    have hcur := hcur.trans ho
    try clear r1 m1
    have r1 := fun o => (ocell hcur).1 (w.heap.size) o (by omega) (by first | omega | (simp only [World.size_alloc]; omega))
    have m1 := fun o => (ocell hcur).2 (w.heap.size) o (by omega) (by first | omega | (simp only [World.size_alloc]; omega))
    go_wp2_with fail
    refine (S_oneL g _ [y, 99, 5] _ _ (by first | rfl | simp only [World.size_alloc]) hr (by omega) (by simp) (by simp)).mono ?_
    rintro e w4 ⟨z, rfl, zm, hr, ho⟩
    have hcur := hcur.trans ho
    try clear r1 m1
    have r1 := fun o => (ocell hcur).1 (w.heap.size) o (by omega) (by first | omega | (simp only [World.size_alloc]; omega))
    have m1 := fun o => (ocell hcur).2 (w.heap.size) o (by omega) (by first | omega | (simp only [World.size_alloc]; omega))
    go_wp2
    exact bodyPost_ret (v := St.val ⟨0, t, z, 0⟩) (by simp [results, Try.results100, go_sem, r1]) rfl ⟨⟨0, t, z, 0⟩, rfl, by first | exact tm | simp, ((((hr.store hgl _).store hgl _).store hgl _).store hgl _).mono (by omega), ((((((Only.of_below al1).trans hcur)).store (Nat.le_refl _) _).store (Nat.le_refl _) _).store (Nat.le_refl _) _).store (Nat.le_refl _) _⟩
  · skip
    go_wp2_with fail
    refine (S_pick g _ 20 _ hr (by omega)).mono ?_
    rintro e w3 ⟨y, rfl, y0, y1, hr, ho, hsz⟩
    clear hsz
    have hcur := hcur.trans ho
    try clear r1 m1
    have r1 := fun o => (ocell hcur).1 (w.heap.size) o (by omega) (by first | omega | (simp only [World.size_alloc]; omega))
    have m1 := fun o => (ocell hcur).2 (w.heap.size) o (by omega) (by first | omega | (simp only [World.size_alloc]; omega))
    go_wp2_with fail
    refine (S_oneL g _ [y, 99, 5] _ _ (by first | rfl | simp only [World.size_alloc]) hr (by omega) (by simp) (by simp)).mono ?_
    rintro e w4 ⟨z, rfl, zm, hr, ho⟩
    have hcur := hcur.trans ho
    try clear r1 m1
    have r1 := fun o => (ocell hcur).1 (w.heap.size) o (by omega) (by first | omega | (simp only [World.size_alloc]; omega))
    have m1 := fun o => (ocell hcur).2 (w.heap.size) o (by omega) (by first | omega | (simp only [World.size_alloc]; omega))
    go_wp2
    exact bodyPost_ret (v := St.val ⟨0, t, z, 0⟩) (by simp [results, Try.results100, go_sem, r1]) rfl ⟨⟨0, t, z, 0⟩, rfl, by first | exact tm | simp, ((((hr.store hgl _).store hgl _).store hgl _).store hgl _).mono (by omega), ((((((Only.of_below al1).trans hcur)).store (Nat.le_refl _) _).store (Nat.le_refl _) _).store (Nat.le_refl _) _).store (Nat.le_refl _) _⟩
  · skip
    go_wp2_with fail
    refine (S_aName g _ _ hr (by omega)).mono ?_
    rintro e w3 ⟨ya, rfl, yam, hr, ho⟩
    have hcur := hcur.trans ho
    try clear r1 m1
    have r1 := fun o => (ocell hcur).1 (w.heap.size) o (by omega) (by first | omega | (simp only [World.size_alloc]; omega))
    have m1 := fun o => (ocell hcur).2 (w.heap.size) o (by omega) (by first | omega | (simp only [World.size_alloc]; omega))
    go_wp2
    exact bodyPost_ret (v := St.val ⟨1, t, ya, 0⟩) (by simp [results, Try.results100, go_sem, r1]) rfl ⟨⟨1, t, ya, 0⟩, rfl, by first | exact tm | simp, ((((hr.store hgl _).store hgl _).store hgl _).store hgl _).mono (by omega), ((((((Only.of_below al1).trans hcur)).store (Nat.le_refl _) _).store (Nat.le_refl _) _).store (Nat.le_refl _) _).store (Nat.le_refl _) _⟩
  · skip
    go_wp2_with fail
    refine (S_aName g _ _ hr (by omega)).mono ?_
    rintro e w3 ⟨ya, rfl, yam, hr, ho⟩
    have hcur := hcur.trans ho
    try clear r1 m1
    have r1 := fun o => (ocell hcur).1 (w.heap.size) o (by omega) (by first | omega | (simp only [World.size_alloc]; omega))
    have m1 := fun o => (ocell hcur).2 (w.heap.size) o (by omega) (by first | omega | (simp only [World.size_alloc]; omega))
    go_wp2_with fail
    refine (S_aName g _ _ hr (by omega)).mono ?_
    rintro e w4 ⟨yb, rfl, ybm, hr, ho⟩
    have hcur := hcur.trans ho
    try clear r1 m1
    have r1 := fun o => (ocell hcur).1 (w.heap.size) o (by omega) (by first | omega | (simp only [World.size_alloc]; omega))
    have m1 := fun o => (ocell hcur).2 (w.heap.size) o (by omega) (by first | omega | (simp only [World.size_alloc]; omega))
    go_wp2
    exact bodyPost_ret (v := St.val ⟨2, t, ya, yb⟩) (by simp [results, Try.results100, go_sem, r1]) rfl ⟨⟨2, t, ya, yb⟩, rfl, by first | exact tm | simp, ((((hr.store hgl _).store hgl _).store hgl _).store hgl _).mono (by omega), ((((((Only.of_below al1).trans hcur)).store (Nat.le_refl _) _).store (Nat.le_refl _) _).store (Nat.le_refl _) _).store (Nat.le_refl _) _⟩
  · skip
    go_wp2_with fail
    refine (S_aName g _ _ hr (by omega)).mono ?_
    rintro e w3 ⟨ya, rfl, yam, hr, ho⟩
    have hcur := hcur.trans ho
    try clear r1 m1
    have r1 := fun o => (ocell hcur).1 (w.heap.size) o (by omega) (by first | omega | (simp only [World.size_alloc]; omega))
    have m1 := fun o => (ocell hcur).2 (w.heap.size) o (by omega) (by first | omega | (simp only [World.size_alloc]; omega))
    go_wp2
    exact bodyPost_ret (v := St.val ⟨7, 0, ya, 0⟩) (by simp [results, Try.results100, go_sem, r1]) rfl ⟨⟨7, 0, ya, 0⟩, rfl, by first | exact tm | simp, ((((hr.store hgl _).store hgl _).store hgl _).store hgl _).mono (by omega), ((((((Only.of_below al1).trans hcur)).store (Nat.le_refl _) _).store (Nat.le_refl _) _).store (Nat.le_refl _) _).store (Nat.le_refl _) _⟩
  · skip
    go_wp2_with fail
    refine (S_aName g _ _ hr (by omega)).mono ?_
    rintro e w3 ⟨ya, rfl, yam, hr, ho⟩
    have hcur := hcur.trans ho
    try clear r1 m1
    have r1 := fun o => (ocell hcur).1 (w.heap.size) o (by omega) (by first | omega | (simp only [World.size_alloc]; omega))
    have m1 := fun o => (ocell hcur).2 (w.heap.size) o (by omega) (by first | omega | (simp only [World.size_alloc]; omega))
    go_wp2
    exact bodyPost_ret (v := St.val ⟨7, 0, ya, 0⟩) (by simp [results, Try.results100, go_sem, r1]) rfl ⟨⟨7, 0, ya, 0⟩, rfl, by first | exact tm | simp, ((((hr.store hgl _).store hgl _).store hgl _).store hgl _).mono (by omega), ((((((Only.of_below al1).trans hcur)).store (Nat.le_refl _) _).store (Nat.le_refl _) _).store (Nat.le_refl _) _).store (Nat.le_refl _) _⟩
  · skip
    go_wp2_with fail
    refine (S_aName g _ _ hr (by omega)).mono ?_
    rintro e w3 ⟨ya, rfl, yam, hr, ho⟩
    have hcur := hcur.trans ho
    try clear r1 m1
    have r1 := fun o => (ocell hcur).1 (w.heap.size) o (by omega) (by first | omega | (simp only [World.size_alloc]; omega))
    have m1 := fun o => (ocell hcur).2 (w.heap.size) o (by omega) (by first | omega | (simp only [World.size_alloc]; omega))
    go_wp2_with fail
    refine (S_oneL g _ [4, 5, ya] _ _ (by first | rfl | simp only [World.size_alloc]) hr (by omega) (by simp) (by simp)).mono ?_
    rintro e w4 ⟨z, rfl, zm, hr, ho⟩
    have hcur := hcur.trans ho
    try clear r1 m1
    have r1 := fun o => (ocell hcur).1 (w.heap.size) o (by omega) (by first | omega | (simp only [World.size_alloc]; omega))
    have m1 := fun o => (ocell hcur).2 (w.heap.size) o (by omega) (by first | omega | (simp only [World.size_alloc]; omega))
    go_wp2_with fail
    refine (S_aName g _ _ hr (by omega)).mono ?_
    rintro e w5 ⟨yb, rfl, ybm, hr, ho⟩
    have hcur := hcur.trans ho
    try clear r1 m1
    have r1 := fun o => (ocell hcur).1 (w.heap.size) o (by omega) (by first | omega | (simp only [World.size_alloc]; omega))
    have m1 := fun o => (ocell hcur).2 (w.heap.size) o (by omega) (by first | omega | (simp only [World.size_alloc]; omega))
    go_wp2_with fail
    refine (S_oneL g _ [-1, -1, yb] _ _ (by first | rfl | simp only [World.size_alloc]) hr (by omega) (by simp) (by simp)).mono ?_
    rintro e w6 ⟨u, rfl, um, hr, ho⟩
    have hcur := hcur.trans ho
    try clear r1 m1
    have r1 := fun o => (ocell hcur).1 (w.heap.size) o (by omega) (by first | omega | (simp only [World.size_alloc]; omega))
    have m1 := fun o => (ocell hcur).2 (w.heap.size) o (by omega) (by first | omega | (simp only [World.size_alloc]; omega))
    go_wp2
    exact bodyPost_ret (v := St.val ⟨5, t, z, u⟩) (by simp [results, Try.results100, go_sem, r1]) rfl ⟨⟨5, t, z, u⟩, rfl, by first | exact tm | simp, ((((hr.store hgl _).store hgl _).store hgl _).store hgl _).mono (by omega), ((((((Only.of_below al1).trans hcur)).store (Nat.le_refl _) _).store (Nat.le_refl _) _).store (Nat.le_refl _) _).store (Nat.le_refl _) _⟩
  · skip
    go_wp2_with fail
    refine (S_aName g _ _ hr (by omega)).mono ?_
    rintro e w3 ⟨ya, rfl, yam, hr, ho⟩
    have hcur := hcur.trans ho
    try clear r1 m1
    have r1 := fun o => (ocell hcur).1 (w.heap.size) o (by omega) (by first | omega | (simp only [World.size_alloc]; omega))
    have m1 := fun o => (ocell hcur).2 (w.heap.size) o (by omega) (by first | omega | (simp only [World.size_alloc]; omega))
    go_wp2
    exact bodyPost_ret (v := St.val ⟨6, t, 6, ya⟩) (by simp [results, Try.results100, go_sem, r1]) rfl ⟨⟨6, t, 6, ya⟩, rfl, by first | exact tm | simp, ((((hr.store hgl _).store hgl _).store hgl _).store hgl _).mono (by omega), ((((((Only.of_below al1).trans hcur)).store (Nat.le_refl _) _).store (Nat.le_refl _) _).store (Nat.le_refl _) _).store (Nat.le_refl _) _⟩
  · skip
    by_cases hk : kind = 0
    · have hkb : (kind != 0) = false := by rw [hk]; rfl
      go_wp2_with fail
      refine (S_aName g _ _ hr (by omega)).mono ?_
      rintro e w3 ⟨ya, rfl, yam, hr, ho⟩
      have hcur := hcur.trans ho
      try clear r1 m1
      have r1 := fun o => (ocell hcur).1 (w.heap.size) o (by omega) (by first | omega | (simp only [World.size_alloc]; omega))
      have m1 := fun o => (ocell hcur).2 (w.heap.size) o (by omega) (by first | omega | (simp only [World.size_alloc]; omega))
      go_wp2
      exact bodyPost_ret (v := St.val ⟨7, 0, ya, 0⟩) (by simp [results, Try.results100, go_sem, r1]) rfl ⟨⟨7, 0, ya, 0⟩, rfl, by first | exact tm | simp, ((((hr.store hgl _).store hgl _).store hgl _).store hgl _).mono (by omega), ((((((Only.of_below al1).trans hcur)).store (Nat.le_refl _) _).store (Nat.le_refl _) _).store (Nat.le_refl _) _).store (Nat.le_refl _) _⟩
    · have hkb : (kind != 0) = true := by rw [bne_iff_ne]; exact hk
      go_wp2_with fail
      refine (S_oneL g _ [9, 10, 10] _ _ (by first | rfl | simp only [World.size_alloc]) hr (by omega) (by simp) (by simp)).mono ?_
      rintro e w3 ⟨z, rfl, zm, hr, ho⟩
      have hcur := hcur.trans ho
      try clear r1 m1
      have r1 := fun o => (ocell hcur).1 (w.heap.size) o (by omega) (by first | omega | (simp only [World.size_alloc]; omega))
      have m1 := fun o => (ocell hcur).2 (w.heap.size) o (by omega) (by first | omega | (simp only [World.size_alloc]; omega))
      go_wp2
      exact bodyPost_ret (v := St.val ⟨z, t, 0, 0⟩) (by simp [results, Try.results100, go_sem, r1]) rfl ⟨⟨z, t, 0, 0⟩, rfl, by first | exact tm | simp, ((((hr.store hgl _).store hgl _).store hgl _).store hgl _).mono (by omega), ((((((Only.of_below al1).trans hcur)).store (Nat.le_refl _) _).store (Nat.le_refl _) _).store (Nat.le_refl _) _).store (Nat.le_refl _) _⟩
  · skip
    go_wp2_with fail
    refine (S_pick g _ 3 _ hr (by omega)).mono ?_
    rintro e w3 ⟨y, rfl, y0, y1, hr, ho, hsz⟩
    clear hsz
    have hcur := hcur.trans ho
    try clear r1 m1
    have r1 := fun o => (ocell hcur).1 (w.heap.size) o (by omega) (by first | omega | (simp only [World.size_alloc]; omega))
    have m1 := fun o => (ocell hcur).2 (w.heap.size) o (by omega) (by first | omega | (simp only [World.size_alloc]; omega))
    by_cases hk : y = 0
    · subst hk
      go_wp2
      exact bodyPost_ret (v := St.val ⟨11, t, 0, 0⟩) (by simp [results, Try.results100, go_sem, r1]) rfl ⟨⟨11, t, 0, 0⟩, rfl, by first | exact tm | simp, ((((hr.store hgl _).store hgl _).store hgl _).store hgl _).mono (by omega), ((((((Only.of_below al1).trans hcur)).store (Nat.le_refl _) _).store (Nat.le_refl _) _).store (Nat.le_refl _) _).store (Nat.le_refl _) _⟩
    · have hkb : (y == 0) = false := by rw [beq_eq_false_iff_ne]; exact hk
      go_wp2_with fail
      refine (S_aName g _ _ hr (by omega)).mono ?_
      rintro e w3 ⟨ya, rfl, yam, hr, ho⟩
      have hcur := hcur.trans ho
      try clear r1 m1
      have r1 := fun o => (ocell hcur).1 (w.heap.size) o (by omega) (by first | omega | (simp only [World.size_alloc]; omega))
      have m1 := fun o => (ocell hcur).2 (w.heap.size) o (by omega) (by first | omega | (simp only [World.size_alloc]; omega))
      go_wp2
      exact bodyPost_ret (v := St.val ⟨7, 0, ya, 0⟩) (by simp [results, Try.results100, go_sem, r1]) rfl ⟨⟨7, 0, ya, 0⟩, rfl, by first | exact tm | simp, ((((hr.store hgl _).store hgl _).store hgl _).store hgl _).mono (by omega), ((((((Only.of_below al1).trans hcur)).store (Nat.le_refl _) _).store (Nat.le_refl _) _).store (Nat.le_refl _) _).store (Nat.le_refl _) _⟩
  · skip
    go_wp2_with fail
    refine (S_aName g _ _ hr (by omega)).mono ?_
    rintro e w3 ⟨ya, rfl, yam, hr, ho⟩
    have hcur := hcur.trans ho
    try clear r1 m1
    have r1 := fun o => (ocell hcur).1 (w.heap.size) o (by omega) (by first | omega | (simp only [World.size_alloc]; omega))
    have m1 := fun o => (ocell hcur).2 (w.heap.size) o (by omega) (by first | omega | (simp only [World.size_alloc]; omega))
    go_wp2
    exact bodyPost_ret (v := St.val ⟨7, 0, ya, 0⟩) (by simp [results, Try.results100, go_sem, r1]) rfl ⟨⟨7, 0, ya, 0⟩, rfl, by first | exact tm | simp, ((((hr.store hgl _).store hgl _).store hgl _).store hgl _).mono (by omega), ((((((Only.of_below al1).trans hcur)).store (Nat.le_refl _) _).store (Nat.le_refl _) _).store (Nat.le_refl _) _).store (Nat.le_refl _) _⟩

end Go.Proofs.Ytiemhadpepbcjaa
