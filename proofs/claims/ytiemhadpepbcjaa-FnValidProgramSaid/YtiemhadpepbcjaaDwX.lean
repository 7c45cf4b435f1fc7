/-
  Walks: the reference's draws of programs. Condition: what the arguments name stands in memory.
-/
import Derived.Test.YtiemhadpepbcjaaDwW
import Derived.Test.YtiemhadpepbcjaaDwP
import Derived.Test.YtiemhadpepbcjaaSpec9
import Derived.Test.YtiemhadpepbcjaaFrame
import Derived.Test.YtiemhadpepbcjaaDwA
namespace Go.Proofs.Ytiemhadpepbcjaa
open Go.RowKit
set_option linter.unusedVariables false

theorem BoxP.cellx {w : World} {B g j : Nat} {u V : Value} {o : Obj} (h : BoxP w B u) (hne : B ≠ g) (hlt : B < w.heap.size) : ((w.setCell ⟨g, j, none⟩ V).alloc o).cell? ⟨B, 0, none⟩ = some u := by
  have h1 := (h.other ⟨g, j, none⟩ V hne).cell
  exact cell_later al1 h1
theorem Apart.from_ {w0 : World} {lo n : Nat} {V B U : Value} {l : List St} (hA : Apart V B) (hV : Stmts w0 lo V l) (hf : RowFrom B U n) (hn : w0.heap.size ≤ n) : Apart V U := by
  intro r h1 h2
  rcases hf with e | ⟨gg, e, e'⟩
  · exact hA r h1 (e.symm.trans h2)
  · rw [h2] at e
    have := Option.some.inj e
    have := own_block_lt hV r h1
    omega

set_option maxRecDepth 100000 in
set_option maxHeartbeats 16000000 in
theorem S_anyProgram (g m : Nat) (w : World) (h : Rdr w g m) (hm : m ≤ 680000) :
    Calls Try.prog 32 #[.pointer (some ⟨g, 0, none⟩)] w fun e w' => ∃ (sl : Value) (xs : List Value) (p : Pr), e = .returned (.agg #[sl]) ∧ PRow w' w.heap.size sl xs p ∧ (1 ≤ p.length ∧ p.length ≤ 7) ∧ Rdr w' g (m + 1100) ∧ Only g (g + 1) w w' := by
  have hgl : g < w.heap.size := h.lt
  have hr := h.keep (al1 (o := (.cells #[.slice none 0 0] 25)))
  have hcur := Only.refl g (g + 1) (w.alloc (.cells #[.slice none 0 0] 25))
  clear h
  go_enter Try.func32, Try.ntmps32
  go_wp2_with fail
  refine (S_goodProgram g _ _ hr (by omega)).mono ?_
  rintro e w1 ⟨sl, xs, p, rfl, hrow, hwk, hr, ho⟩
  have hcur := hcur.trans ho
  have hsz1 : w.heap.size + 1 ≤ w1.heap.size := by have := ho.size; simpa using this
  have hp := hwk.len
  simp only [World.size_alloc] at hrow
  obtain ⟨ga, Cp, rfl, _, hCp, hga1, hga2, _, _⟩ := PRowX.rd hrow (by omega)
  unfold maxLen at hCp
  obtain ⟨n0, hn0⟩ : ∃ n0 : Nat, n0 = p.length := ⟨_, rfl⟩
  have hpn : p.length = n0 := hn0.symm
  rw [← hn0] at hrow ⊢
  have hrow := PRowX.keep hrow (al1 (o := (.cells #[.slice (some ⟨ga, 0, none⟩) n0 Cp] 25)))
  have hcur := hcur.alloc (.cells #[.slice (some ⟨ga, 0, none⟩) n0 Cp] 25)
  have hr := hr.keep (al1 (o := (.cells #[.slice (some ⟨ga, 0, none⟩) n0 Cp] 25)))
  have bP : BoxP (w1.alloc (.cells #[.slice (some ⟨ga, 0, none⟩) n0 Cp] 25)) w1.heap.size (.slice (some ⟨ga, 0, none⟩) n0 Cp) := BoxP.new rfl _
  obtain ⟨PB, hPB⟩ : ∃ PB : Nat, PB = w1.heap.size := ⟨_, rfl⟩
  have hPB1 : w.heap.size + 1 ≤ PB := by omega
  have hgaPB : ga < PB := by omega
  have hgal : w.heap.size + 1 ≤ ga := hga1
  rw [← hPB] at bP
  have HN := Lib.hid hn0
  clear hn0
  go_wp2_with fail
  rw [← hPB]
  clear hPB hsz1 ho hga1 hga2
  refine (S_pick g _ n0 _ hr (by omega)).mono ?_
  rintro e w2 ⟨y, rfl, y0, y1, hr, ho, hsz⟩
  have hcur := hcur.trans ho
  have bP := bP.only ho (by omega)
  have hrow := PRowX.only hrow ho (by omega)
  have y1 := y1 (by omega)
  obtain ⟨k, rfl⟩ := Int.eq_ofNat_of_zero_le y0
  clear ho hsz y0
  go_wp2_with fail
  refine (S_pick g _ 24 _ hr (by omega)).mono ?_
  rintro e w3 ⟨c, rfl, c0, c1, hr, ho, hsz⟩
  have hcur := hcur.trans ho
  have bP := bP.only ho (by omega)
  have hrow := PRowX.only hrow ho (by omega)
  have zP := lt_of_block bP
  have hkn : k < n0 := by omega
  clear ho hsz c1 y1
  by_cases h0 : c = 0
  · subst h0
    go_wp2_with fail
    refine (S_shapedProgram g _ _ hr (by omega)).mono ?_
    rintro e w4 ⟨sl', xs', p', rfl, hrow', hT', hpl', hr, ho⟩
    have hcur := hcur.trans ho
    obtain ⟨A', C', rfl⟩ := PRowX.form hrow'
    have r1 := fun o => (ocell hcur).1 w.heap.size o (by omega) (by simp)
    have m1 := fun o => (ocell hcur).2 w.heap.size o (by omega) (by simp)
    go_wp2
    exact bodyPost_ret (v := .agg #[.slice A' p'.length C']) (by simp [results, Try.results32, go_sem, r1]) rfl
      ⟨_, xs', p', rfl, (PRowX.only hrow' ((Only.refl w.heap.size (w.heap.size + 1) _).setCell (Nat.le_refl _) (Nat.lt_succ_self _) _) (by omega)).lo_ (by omega), ⟨hT'.len, by omega⟩, (hr.store (p := ⟨w.heap.size, 0, none⟩) hgl _).mono (by omega), ((Only.of_below al1).trans hcur).store (Nat.le_refl _) _⟩
  have q0 : (c == 0) = false := by rw [beq_eq_false_iff_ne]; exact h0
  by_cases h1 : c = 1
  · subst h1
    have hrow := PRowX.keep hrow (below0 w3).drew
    have hr := hr.drew
    have hcur := hcur.drew
    have cP : w3.cell? ⟨PB, 0, none⟩ = some (.slice (some ⟨ga, 0, none⟩) n0 Cp) := bP.cell
    have bP : BoxP w3.drew PB (.slice (some ⟨ga, 0, none⟩) n0 Cp) := bP
    go_wp2
    go_region_held3 (fun w' => w'.cell? ⟨PB, 0, none⟩ = some (.slice (some ⟨ga, 0, none⟩) n0 Cp))
      (first | go_keep | exact cP | exact (bP.other _ _ (show PB ≠ ga by omega)).cell | exact (bP.cellx (show PB ≠ ga by omega) zP))
      (first
        | (go_at_call 69
           refine (S_oneL g _ [-2, (k : Int), 7] _ _ rfl hr (by omega) (by simp) (by simp)).mono ?_
           rintro e wu ⟨z, rfl, hz, hr, ho⟩
           have hcur := hcur.trans ho
           have bP := bP.only ho (by omega)
           have hrow := PRowX.only hrow ho (by omega)
           have cP := bP.cell
           have zP := lt_of_block bP
           obtain ⟨ga2, Cp2, ea, _, _, _, _, hcell2, hfz2⟩ := PRowX.rd hrow (by omega)
           obtain ⟨rfl, -, -⟩ : ga = ga2 ∧ n0 = p.length ∧ Cp = Cp2 := by simpa using ea
           have f3 := hfz2 (k * 4 + 1)
           have d3 := hcell2 (k * 4 + 1) (by omega)
           have zga : ga < wu.heap.size := by omega
           clear ho hz hcell2 hfz2 ea))
    all_goals
      have hrow := PRowX.setParent (x := z) hrow (by omega : k < p.length)
      have hpl2 : (p.set k { p.getD k default with parent := z }).length = n0 := by rw [List.length_set]; exact hpn
      generalize xs.set (k * 4 + 1) (.int .i64 z) = xs2 at hrow
      generalize p.set k { p.getD k default with parent := z } = p2 at hrow hpl2
      have bP := bP.other ⟨ga, k * 4 + 1, none⟩ (.int .i64 z) (by show PB ≠ ga; omega)
      have hr := hr.store (p := ⟨ga, k * 4 + 1, none⟩) (by show g < ga; omega) (.int .i64 z)
      have hcur := hcur.store (p := ⟨ga, k * 4 + 1, none⟩) (by show _ ≤ ga; simp only [World.size_alloc]; omega) (.int .i64 z)
      obtain ⟨wv, hwv⟩ : ∃ wv : World, wv = wu.setCell ⟨ga, k * 4 + 1, none⟩ (.int .i64 z) := ⟨_, rfl⟩
      rw [← hwv] at hrow bP hr hcur ⊢
      clear hwv cP
      have cP := bP.cell
      have r1 := fun o => (ocell hcur).1 w.heap.size o (by omega) (by simp)
      have m1 := fun o => (ocell hcur).2 w.heap.size o (by omega) (by simp)
      go_wp2
      exact bodyPost_ret (v := .agg #[.slice (some ⟨ga, 0, none⟩) n0 Cp]) (by simp [results, Try.results32, go_sem, r1]) rfl
        ⟨_, xs2, p2, rfl, (PRowX.only hrow ((Only.refl w.heap.size (w.heap.size + 1) _).setCell (Nat.le_refl _) (Nat.lt_succ_self _) _) (Nat.le_refl _)).lo_ (by omega), ⟨by omega, by omega⟩, (hr.store (p := ⟨w.heap.size, 0, none⟩) hgl _).mono (by omega), ((Only.of_below al1).trans hcur).store (Nat.le_refl _) _⟩
  have q1 : (c == 1) = false := by rw [beq_eq_false_iff_ne]; exact h1
  by_cases h2 : c = 2
  · subst h2
    have HCELL : Hid (∀ j, j < n0 * 4 → w3.cell? ⟨ga, j, none⟩ = some (xs.getD j undef)) := Lib.hid (by
      obtain ⟨ga2, Cp2, ea, _, _, _, _, hcell, _⟩ := PRowX.rd hrow (by omega)
      obtain ⟨rfl, -, -⟩ : ga = ga2 ∧ n0 = p.length ∧ Cp = Cp2 := by simpa using ea
      rw [HN.out]; exact hcell)
    have hkp : k < p.length := by omega
    have hbv := PRowX.full hrow hkp
    obtain ⟨BV, hBV⟩ : ∃ BV : Value, BV = xs.getD (k * 4 + 3) undef := ⟨_, rfl⟩
    have b3 : w3.cell? ⟨ga, k * 4 + 3, none⟩ = some BV := by rw [hBV]; exact HCELL.out _ (by omega)
    obtain ⟨body, hbody⟩ : ∃ body : List St, body = (p.getD k default).body := ⟨_, rfl⟩
    have hbl : body.length ≤ 12 := by
      have h1 := hwk.body k (by omega) (by omega)
      have e : p.bk (k : Int) = p.getD k default := by show p.getD (k : Int).toNat default = _; rw [Int.toNat_natCast]
      rw [e] at h1; rw [hbody]; exact h1
    have hap := fun i (hi : i < p.length) (hik : i ≠ k) => hrow.apart i k hi hkp (by omega) (by omega) hik
    rw [← hBV, ← hbody] at hbv
    rw [← hBV] at hap
    have HBV := Lib.hid hBV
    have HBODY := Lib.hid hbody
    have HAP := Lib.hid hap
    obtain ⟨Ab, Cb, rfl⟩ := hbv.form
    clear hap hBV hbody
    have hk0 : (0 : Int) ≤ (k : Int) := by omega
    have hk1 : (k : Int) < (n0 : Int) := by omega
    go_wp2
    obtain ⟨W1, hW1⟩ : ∃ W1 : World, W1 = w3.drew := ⟨_, rfl⟩
    have k0 : W1.cell? ⟨PB, 0, none⟩ = some (.slice (some ⟨ga, 0, none⟩) n0 Cp) := by rw [hW1]; exact bP.cell
    have k1 : W1.cell? ⟨ga, k * 4 + 3, none⟩ = some (.slice Ab body.length Cb) := by rw [hW1]; exact b3
    have hrow : PRow W1 (w.heap.size + 1) (.slice (some ⟨ga, 0, none⟩) n0 Cp) xs p := by rw [hW1]; exact PRowX.keep hrow (below0 w3).drew
    have hbv : Stmts W1 (w.heap.size + 1) (.slice Ab body.length Cb) body := by rw [hW1]; exact hbv.keep (below0 w3).drew
    have hr := hr.drew
    rw [← hW1] at hr
    have hcur := hcur.drew
    rw [← hW1] at hcur
    have bP : BoxP W1 PB (.slice (some ⟨ga, 0, none⟩) n0 Cp) := by rw [hW1]; exact bP
    refine wp_region_T 16 (by kernel_rfl) (fun w' => w'.cell? ⟨PB, 0, none⟩ = some (.slice (some ⟨ga, 0, none⟩) n0 Cp) ∧ w'.cell? ⟨ga, k * 4 + 3, none⟩ = some (.slice Ab body.length Cb)) ?_
    rw [← hW1]
    have hS := And.intro k0 k1
    clear hW1 b3
    refine wpAnyT_take (i := 0) (oi := ⟨_, _, _, _, _, _⟩) (v := ?v1_0) (by kernel_rfl) (by decide) rfl (by kernel_rfl) (by kernel_rfl) (by kernel_rfl) (fun _ _ _ h => h) (Or.inl ⟨by rfl, ?hy1_0⟩) hS ?rest1_0
    case hy1_0 =>
      intro w' hSw
      obtain ⟨s0, s1⟩ := hSw
      go_simp
      try with_reducible rfl
    try simp only [Act.put, List.setIfInBounds_toArray, List.set_cons_zero, List.set_cons_succ]
    refine wpAnyT_take (i := 1) (oi := ⟨_, _, _, _, _, _⟩) (v := ?v1_1) (by kernel_rfl) (by decide) rfl (by kernel_rfl) (by kernel_rfl) (by kernel_rfl) (fun _ _ _ h => h) (Or.inl ⟨by rfl, ?hy1_1⟩) hS ?rest1_1
    case hy1_1 =>
      intro w' hSw
      obtain ⟨s0, s1⟩ := hSw
      go_simp
      try with_reducible rfl
    try simp only [Act.put, List.setIfInBounds_toArray, List.set_cons_zero, List.set_cons_succ]
    refine wpAnyT_take (i := 2) (oi := ⟨_, _, _, _, _, _⟩) (v := ?v1_2) (by kernel_rfl) (by decide) rfl (by kernel_rfl) (by kernel_rfl) (by kernel_rfl) (fun _ _ _ h => h) (Or.inl ⟨by rfl, ?hy1_2⟩) hS ?rest1_2
    case hy1_2 =>
      intro w' hSw
      obtain ⟨s0, s1⟩ := hSw
      go_simp
      try with_reducible rfl
    try simp only [Act.put, List.setIfInBounds_toArray, List.set_cons_zero, List.set_cons_succ]
    refine wpAnyT_take (i := 3) (oi := ⟨_, _, _, _, _, _⟩) (v := ?v1_3) (by kernel_rfl) (by decide) rfl (by kernel_rfl) (by kernel_rfl) (by kernel_rfl) (fun _ _ _ h => h) (Or.inl ⟨by rfl, ?hy1_3⟩) hS ?rest1_3
    case hy1_3 =>
      intro w' hSw
      obtain ⟨s0, s1⟩ := hSw
      go_simp
      try with_reducible rfl
    try simp only [Act.put, List.setIfInBounds_toArray, List.set_cons_zero, List.set_cons_succ]
    refine wpAnyT_take (i := 4) (oi := ⟨_, _, _, _, _, _⟩) (v := ?v1_4) (by kernel_rfl) (by decide) rfl (by kernel_rfl) (by kernel_rfl) (by kernel_rfl) (fun _ _ _ h => h) (Or.inl ⟨by rfl, ?hy1_4⟩) hS ?rest1_4
    case hy1_4 =>
      intro w' hSw
      obtain ⟨s0, s1⟩ := hSw
      go_simp
      try with_reducible rfl
    try simp only [Act.put, List.setIfInBounds_toArray, List.set_cons_zero, List.set_cons_succ]
    refine wpAnyT_take (i := 5) (oi := ⟨_, _, _, _, _, _⟩) (v := ?v1_5) (by kernel_rfl) (by decide) rfl (by kernel_rfl) (by kernel_rfl) (by kernel_rfl) (fun _ _ _ h => h) (Or.inl ⟨by rfl, ?hy1_5⟩) hS ?rest1_5
    case hy1_5 =>
      intro w' hSw
      obtain ⟨s0, s1⟩ := hSw
      go_simp
      try with_reducible rfl
    try simp only [Act.put, List.setIfInBounds_toArray, List.set_cons_zero, List.set_cons_succ]
    refine wpAnyT_take (i := 6) (oi := ⟨_, _, _, _, _, _⟩) (v := ?v1_6) (by kernel_rfl) (by decide) rfl (by kernel_rfl) (by kernel_rfl) (by kernel_rfl) (fun _ _ _ h => h) (Or.inl ⟨by rfl, ?hy1_6⟩) hS ?rest1_6
    case hy1_6 =>
      intro w' hSw
      obtain ⟨s0, s1⟩ := hSw
      go_simp
      try with_reducible rfl
    try simp only [Act.put, List.setIfInBounds_toArray, List.set_cons_zero, List.set_cons_succ]
    refine wpAnyT_take (i := 7) (oi := ⟨_, _, _, _, _, _⟩) (v := ?v1_7) (by kernel_rfl) (by decide) rfl (by kernel_rfl) (by kernel_rfl) (by kernel_rfl) (fun _ _ _ h => h) (Or.inl ⟨by rfl, ?hy1_7⟩) hS ?rest1_7
    case hy1_7 =>
      intro w' hSw
      obtain ⟨s0, s1⟩ := hSw
      go_simp
      try with_reducible rfl
    try simp only [Act.put, List.setIfInBounds_toArray, List.set_cons_zero, List.set_cons_succ]
    refine wpAnyT_take (i := 8) (oi := ⟨_, _, _, _, _, _⟩) (v := ?v1_8) (by kernel_rfl) (by decide) rfl (by kernel_rfl) (by kernel_rfl) (by kernel_rfl) (fun _ _ _ h => h) (Or.inl ⟨by rfl, ?hy1_8⟩) hS ?rest1_8
    case hy1_8 =>
      intro w' hSw
      obtain ⟨s0, s1⟩ := hSw
      go_simp
      try with_reducible rfl
    try simp only [Act.put, List.setIfInBounds_toArray, List.set_cons_zero, List.set_cons_succ]
    refine wpAnyT_take (i := 9) (oi := ⟨_, _, _, _, _, _⟩) (v := ?v1_9) (by kernel_rfl) (by decide) rfl (by kernel_rfl) (by kernel_rfl) (by kernel_rfl) (fun _ _ _ h => h) (Or.inl ⟨by rfl, ?hy1_9⟩) hS ?rest1_9
    case hy1_9 =>
      intro w' hSw
      obtain ⟨s0, s1⟩ := hSw
      go_simp
      try with_reducible rfl
    try simp only [Act.put, List.setIfInBounds_toArray, List.set_cons_zero, List.set_cons_succ]
    refine wpAnyT_take (i := 12) (oi := ⟨_, _, _, _, _, _⟩) (v := ?v1_12) (by kernel_rfl) (by decide) rfl (by kernel_rfl) (by kernel_rfl) (by kernel_rfl) (fun _ _ _ h => h) (Or.inl ⟨by rfl, ?hy1_12⟩) hS ?rest1_12
    case hy1_12 =>
      intro w' hSw
      obtain ⟨s0, s1⟩ := hSw
      go_simp
      try with_reducible rfl
    try simp only [Act.put, List.setIfInBounds_toArray, List.set_cons_zero, List.set_cons_succ]
    refine wpAnyT_ready1 (i := 10) (o := ⟨_, _, _, _, _, _⟩) (by kernel_rfl) rfl (fun K hK => ?_)
    go_simp
    have K1 := Lib.hid k1
    have hx := al1 (w := W1) (o := .cells (([-1, 12, 3] : List Int).map (Value.int .i64)).toArray 3)
    have k0 := cell_later hx k0
    have k1 := cell_later hx k1
    have hS := And.intro k0 k1
    refine hK _ _ (fun _ => hS) ?_
    try simp only [Act.put, List.setIfInBounds_toArray, List.set_cons_zero, List.set_cons_succ]
    refine wpAnyT_ready1 (i := 11) (o := ⟨_, _, _, _, _, _⟩) (by kernel_rfl) rfl (fun K hK => ?_)
    go_simp
    go_at_call 69
    refine (S_oneL g _ [-1, 12, 3] W1 _ rfl hr (by omega) (by simp) (by simp)).mono ?_
    rintro e w2 ⟨z, rfl, hz, hr, ho⟩
    have hcur := hcur.trans ho
    have bP := bP.only ho (by omega)
    have hrow := PRowX.only hrow ho (by omega)
    have hbv := Stmts.only hbv ho (by omega)
    have k0 := bP.cell
    have k1 := cell_only ho K1.out (by omega)
    have hS := And.intro k0 k1
    clear hz ho
    refine hK _ _ (fun _ => hS) ?_
    try simp only [Act.put, List.setIfInBounds_toArray, List.set_cons_zero, List.set_cons_succ]
    refine wpAnyT_take (i := 13) (oi := ⟨_, _, _, _, _, _⟩) (v := ?v1_13) (by kernel_rfl) (by decide) rfl (by kernel_rfl) (by kernel_rfl) (by kernel_rfl) (fun _ _ _ h => h) (Or.inl ⟨by rfl, ?hy1_13⟩) hS ?rest1_13
    case hy1_13 =>
      intro w' hSw
      obtain ⟨s0, s1⟩ := hSw
      go_simp
      try with_reducible rfl
    try simp only [Act.put, List.setIfInBounds_toArray, List.set_cons_zero, List.set_cons_succ]
    refine wpAnyT_ready1 (i := 14) (o := ⟨_, _, _, _, _, _⟩) (by kernel_rfl) rfl (fun K hK => ?_)
    go_simp
    have hx := al1 (w := w2) (o := .cells #[.int .i64 z, .int .i64 0, .int .i64 k, .int .i64 0] 60)
    have hone := Stmts.one (w := w2) (B := w2.heap.size) (lo := 0) rfl (Nat.zero_le _) z 0 k 0
    have hrow := PRowX.keep hrow hx
    have hbv := hbv.keep hx
    have hr := hr.keep hx
    have hcur := hcur.trans (Only.of_below hx)
    have bP := bP.below hx (lt_of_block bP)
    have k0 := cell_later hx k0
    have k1 := cell_later hx k1
    have hS := And.intro k0 k1
    refine hK _ _ (fun _ => hS) ?_
    try simp only [Act.put, List.setIfInBounds_toArray, List.set_cons_zero, List.set_cons_succ]
    refine wpAnyT_ready1 (i := 15) (o := ⟨_, _, _, _, _, _⟩) (by kernel_rfl) rfl (fun K hK => ?_)
    refine step_append_stmts rfl _ _ rfl _ _ body [⟨z, 0, k, 0⟩] (w.heap.size + 1) rfl rfl hbv hone.feed (by simp; omega) (by have := lt_of_block bP; omega) ?_
    intro bv w5 hbo hg5 hb5 hf5
    have hneP := bP.ne hbv (by decide)
    have hneR := own_types hrow.own hbv (by decide)
    have hge := own_block_ge hbv
    have hPne : some PB ≠ (Value.slice Ab body.length Cb).ownBlock := fun hc => by
      rcases hneP with h | h
      · rw [h] at hc; cases hc
      · exact h hc.symm
    have hgne : some ga ≠ (Value.slice Ab body.length Cb).ownBlock := fun hc => by
      rcases hneR with h | h
      · cases h
      · exact h hc
    have k0 := hg5.cell k0 hPne
    have k1 := hg5.cell k1 hgne
    have hS := And.intro k0 k1
    have bP := bP.grown hg5 hPne
    have hap5 : ∀ i, i < p.length → i ≠ k → Apart (xs.getD (i * 4 + 3) undef) bv := fun i hi hik => Apart.from_ (HAP.out i hi hik) (PRowX.full hrow hi) hf5 (Nat.le_refl _)
    have hrow5 : PRowX w5 (w.heap.size + 1) (.slice (some ⟨ga, 0, none⟩) n0 Cp) xs p k := PRowX.grown hrow hkp (by rw [← HBV.out]; exact hg5)
    have hr := hr.grown hg5 (fun r hc => by have := hge r hc; omega)
    have hcur := hcur.grow hg5 (fun r hc => by have := hge r hc; simp only [World.size_alloc]; omega)
    have f3 : w5.frozen? ⟨ga, k * 4 + 3, none⟩ = false := by
      obtain ⟨ga2, Cp2, ea, _, _, _, _, _, hfz⟩ := PRowX.rd hrow5 (by omega)
      obtain ⟨rfl, -, -⟩ : ga = ga2 ∧ n0 = p.length ∧ Cp = Cp2 := by simpa using ea
      exact hfz _
    obtain ⟨A5, C5, rfl⟩ := hbo.form
    rw [show (body ++ [(⟨z, 0, k, 0⟩ : St)]).length = body.length + 1 by simp] at hbo hap5
    clear hrow
    refine hK _ _ (fun _ => hS) ?_
    try simp only [Act.put, List.setIfInBounds_toArray, List.set_cons_zero, List.set_cons_succ]
    refine wpAnyT_ready1 (i := 16) (o := ⟨_, _, _, _, _, _⟩) (by kernel_rfl) rfl (fun K hK => ?_)
    go_simp
    refine hK _ _ (fun h => absurd h (by decide)) ?_
    try simp only [Act.put, List.setIfInBounds_toArray, List.set_cons_zero, List.set_cons_succ]
    refine wpAnyT_ready1 (i := 17) (o := ⟨_, _, _, _, _, _⟩) (by kernel_rfl) rfl (fun K hK => ?_)
    go_simp
    refine hK _ _ (fun h => absurd h (by decide)) ?_
    try simp only [Act.put, List.setIfInBounds_toArray, List.set_cons_zero, List.set_cons_succ]
    refine wpAnyT_ready1 (i := 18) (o := ⟨_, _, _, _, _, _⟩) (by kernel_rfl) rfl (fun K hK => ?_)
    go_simp
    refine hK _ _ (fun h => absurd h (by decide)) ?_
    try simp only [Act.put, List.setIfInBounds_toArray, List.set_cons_zero, List.set_cons_succ]
    refine wpAnyT_done (by kernel_rfl) ?_ _
    have hrow := PRowX.setBody (l := body ++ [(⟨z, 0, k, 0⟩ : St)]) hrow5 hkp hbo hap5
    have hpl2 : (p.set k { p.getD k default with body := body ++ [(⟨z, 0, k, 0⟩ : St)] }).length = n0 := by rw [List.length_set]; exact hpn
    generalize xs.set (k * 4 + 3) (.slice A5 (body.length + 1) C5) = xs2 at hrow
    generalize p.set k { p.getD k default with body := body ++ [(⟨z, 0, k, 0⟩ : St)] } = p2 at hrow hpl2
    have bP := bP.other ⟨ga, k * 4 + 3, none⟩ (.slice A5 (body.length + 1) C5) (by show PB ≠ ga; omega)
    have hr := hr.store (p := ⟨ga, k * 4 + 3, none⟩) (by show g < ga; omega) (.slice A5 (body.length + 1) C5)
    have hcur := hcur.store (p := ⟨ga, k * 4 + 3, none⟩) (by show _ ≤ ga; simp only [World.size_alloc]; omega) (.slice A5 (body.length + 1) C5)
    obtain ⟨wv, hwv⟩ : ∃ wv : World, wv = w5.setCell ⟨ga, k * 4 + 3, none⟩ (.slice A5 (body.length + 1) C5) := ⟨_, rfl⟩
    rw [← hwv] at hrow bP hr hcur ⊢
    clear hwv k0 k1 hS f3 hrow5 hbo
    have cP := bP.cell
    have r1 := fun o => (ocell hcur).1 w.heap.size o (by omega) (by simp)
    have m1 := fun o => (ocell hcur).2 w.heap.size o (by omega) (by simp)
    go_wp2
    exact bodyPost_ret (v := .agg #[.slice (some ⟨ga, 0, none⟩) n0 Cp]) (by simp [results, Try.results32, go_sem, r1]) rfl
      ⟨_, xs2, p2, rfl, (PRowX.only hrow ((Only.refl w.heap.size (w.heap.size + 1) _).setCell (Nat.le_refl _) (Nat.lt_succ_self _) _) (Nat.le_refl _)).lo_ (by omega), ⟨by omega, by omega⟩, (hr.store (p := ⟨w.heap.size, 0, none⟩) hgl _).mono (by omega), ((Only.of_below al1).trans hcur).store (Nat.le_refl _) _⟩
  have q2 : (c == 2) = false := by rw [beq_eq_false_iff_ne]; exact h2
  by_cases h3 : c = 3
  · subst h3
    have HCELL : Hid (∀ j, j < n0 * 4 → w3.cell? ⟨ga, j, none⟩ = some (xs.getD j undef)) := Lib.hid (by
      obtain ⟨ga2, Cp2, ea, _, _, _, _, hcell, _⟩ := PRowX.rd hrow (by omega)
      obtain ⟨rfl, -, -⟩ : ga = ga2 ∧ n0 = p.length ∧ Cp = Cp2 := by simpa using ea
      rw [HN.out]; exact hcell)
    have hkp : k < p.length := by omega
    have hbv := PRowX.full hrow hkp
    obtain ⟨BV, hBV⟩ : ∃ BV : Value, BV = xs.getD (k * 4 + 3) undef := ⟨_, rfl⟩
    have b3 : w3.cell? ⟨ga, k * 4 + 3, none⟩ = some BV := by rw [hBV]; exact HCELL.out _ (by omega)
    obtain ⟨body, hbody⟩ : ∃ body : List St, body = (p.getD k default).body := ⟨_, rfl⟩
    have hbl : body.length ≤ 12 := by
      have h1 := hwk.body k (by omega) (by omega)
      have e : p.bk (k : Int) = p.getD k default := by show p.getD (k : Int).toNat default = _; rw [Int.toNat_natCast]
      rw [e] at h1; rw [hbody]; exact h1
    have hap := fun i (hi : i < p.length) (hik : i ≠ k) => hrow.apart i k hi hkp (by omega) (by omega) hik
    rw [← hBV, ← hbody] at hbv
    rw [← hBV] at hap
    have HBV := Lib.hid hBV
    have HBODY := Lib.hid hbody
    have HAP := Lib.hid hap
    obtain ⟨Ab, Cb, rfl⟩ := hbv.form
    clear hap hBV hbody
    have hk0 : (0 : Int) ≤ (k : Int) := by omega
    have hk1 : (k : Int) < (n0 : Int) := by omega
    go_wp2
    obtain ⟨W1, hW1⟩ : ∃ W1 : World, W1 = w3.drew := ⟨_, rfl⟩
    have k0 : W1.cell? ⟨PB, 0, none⟩ = some (.slice (some ⟨ga, 0, none⟩) n0 Cp) := by rw [hW1]; exact bP.cell
    have k1 : W1.cell? ⟨ga, k * 4 + 3, none⟩ = some (.slice Ab body.length Cb) := by rw [hW1]; exact b3
    have hrow : PRow W1 (w.heap.size + 1) (.slice (some ⟨ga, 0, none⟩) n0 Cp) xs p := by rw [hW1]; exact PRowX.keep hrow (below0 w3).drew
    have hbv : Stmts W1 (w.heap.size + 1) (.slice Ab body.length Cb) body := by rw [hW1]; exact hbv.keep (below0 w3).drew
    have hr := hr.drew
    rw [← hW1] at hr
    have hcur := hcur.drew
    rw [← hW1] at hcur
    have bP : BoxP W1 PB (.slice (some ⟨ga, 0, none⟩) n0 Cp) := by rw [hW1]; exact bP
    refine wp_region_T 15 (by kernel_rfl) (fun w' => w'.cell? ⟨PB, 0, none⟩ = some (.slice (some ⟨ga, 0, none⟩) n0 Cp) ∧ w'.cell? ⟨ga, k * 4 + 3, none⟩ = some (.slice Ab body.length Cb)) ?_
    rw [← hW1]
    have hS := And.intro k0 k1
    clear hW1 b3
    refine wpAnyT_take (i := 0) (oi := ⟨_, _, _, _, _, _⟩) (v := ?v2_0) (by kernel_rfl) (by decide) rfl (by kernel_rfl) (by kernel_rfl) (by kernel_rfl) (fun _ _ _ h => h) (Or.inl ⟨by rfl, ?hy2_0⟩) hS ?rest2_0
    case hy2_0 =>
      intro w' hSw
      obtain ⟨s0, s1⟩ := hSw
      go_simp
      try with_reducible rfl
    try simp only [Act.put, List.setIfInBounds_toArray, List.set_cons_zero, List.set_cons_succ]
    refine wpAnyT_take (i := 1) (oi := ⟨_, _, _, _, _, _⟩) (v := ?v2_1) (by kernel_rfl) (by decide) rfl (by kernel_rfl) (by kernel_rfl) (by kernel_rfl) (fun _ _ _ h => h) (Or.inl ⟨by rfl, ?hy2_1⟩) hS ?rest2_1
    case hy2_1 =>
      intro w' hSw
      obtain ⟨s0, s1⟩ := hSw
      go_simp
      try with_reducible rfl
    try simp only [Act.put, List.setIfInBounds_toArray, List.set_cons_zero, List.set_cons_succ]
    refine wpAnyT_take (i := 2) (oi := ⟨_, _, _, _, _, _⟩) (v := ?v2_2) (by kernel_rfl) (by decide) rfl (by kernel_rfl) (by kernel_rfl) (by kernel_rfl) (fun _ _ _ h => h) (Or.inl ⟨by rfl, ?hy2_2⟩) hS ?rest2_2
    case hy2_2 =>
      intro w' hSw
      obtain ⟨s0, s1⟩ := hSw
      go_simp
      try with_reducible rfl
    try simp only [Act.put, List.setIfInBounds_toArray, List.set_cons_zero, List.set_cons_succ]
    refine wpAnyT_take (i := 3) (oi := ⟨_, _, _, _, _, _⟩) (v := ?v2_3) (by kernel_rfl) (by decide) rfl (by kernel_rfl) (by kernel_rfl) (by kernel_rfl) (fun _ _ _ h => h) (Or.inl ⟨by rfl, ?hy2_3⟩) hS ?rest2_3
    case hy2_3 =>
      intro w' hSw
      obtain ⟨s0, s1⟩ := hSw
      go_simp
      try with_reducible rfl
    try simp only [Act.put, List.setIfInBounds_toArray, List.set_cons_zero, List.set_cons_succ]
    refine wpAnyT_take (i := 4) (oi := ⟨_, _, _, _, _, _⟩) (v := ?v2_4) (by kernel_rfl) (by decide) rfl (by kernel_rfl) (by kernel_rfl) (by kernel_rfl) (fun _ _ _ h => h) (Or.inl ⟨by rfl, ?hy2_4⟩) hS ?rest2_4
    case hy2_4 =>
      intro w' hSw
      obtain ⟨s0, s1⟩ := hSw
      go_simp
      try with_reducible rfl
    try simp only [Act.put, List.setIfInBounds_toArray, List.set_cons_zero, List.set_cons_succ]
    refine wpAnyT_take (i := 5) (oi := ⟨_, _, _, _, _, _⟩) (v := ?v2_5) (by kernel_rfl) (by decide) rfl (by kernel_rfl) (by kernel_rfl) (by kernel_rfl) (fun _ _ _ h => h) (Or.inl ⟨by rfl, ?hy2_5⟩) hS ?rest2_5
    case hy2_5 =>
      intro w' hSw
      obtain ⟨s0, s1⟩ := hSw
      go_simp
      try with_reducible rfl
    try simp only [Act.put, List.setIfInBounds_toArray, List.set_cons_zero, List.set_cons_succ]
    refine wpAnyT_take (i := 6) (oi := ⟨_, _, _, _, _, _⟩) (v := ?v2_6) (by kernel_rfl) (by decide) rfl (by kernel_rfl) (by kernel_rfl) (by kernel_rfl) (fun _ _ _ h => h) (Or.inl ⟨by rfl, ?hy2_6⟩) hS ?rest2_6
    case hy2_6 =>
      intro w' hSw
      obtain ⟨s0, s1⟩ := hSw
      go_simp
      try with_reducible rfl
    try simp only [Act.put, List.setIfInBounds_toArray, List.set_cons_zero, List.set_cons_succ]
    refine wpAnyT_take (i := 7) (oi := ⟨_, _, _, _, _, _⟩) (v := ?v2_7) (by kernel_rfl) (by decide) rfl (by kernel_rfl) (by kernel_rfl) (by kernel_rfl) (fun _ _ _ h => h) (Or.inl ⟨by rfl, ?hy2_7⟩) hS ?rest2_7
    case hy2_7 =>
      intro w' hSw
      obtain ⟨s0, s1⟩ := hSw
      go_simp
      try with_reducible rfl
    try simp only [Act.put, List.setIfInBounds_toArray, List.set_cons_zero, List.set_cons_succ]
    refine wpAnyT_take (i := 8) (oi := ⟨_, _, _, _, _, _⟩) (v := ?v2_8) (by kernel_rfl) (by decide) rfl (by kernel_rfl) (by kernel_rfl) (by kernel_rfl) (fun _ _ _ h => h) (Or.inl ⟨by rfl, ?hy2_8⟩) hS ?rest2_8
    case hy2_8 =>
      intro w' hSw
      obtain ⟨s0, s1⟩ := hSw
      go_simp
      try with_reducible rfl
    try simp only [Act.put, List.setIfInBounds_toArray, List.set_cons_zero, List.set_cons_succ]
    refine wpAnyT_take (i := 9) (oi := ⟨_, _, _, _, _, _⟩) (v := ?v2_9) (by kernel_rfl) (by decide) rfl (by kernel_rfl) (by kernel_rfl) (by kernel_rfl) (fun _ _ _ h => h) (Or.inl ⟨by rfl, ?hy2_9⟩) hS ?rest2_9
    case hy2_9 =>
      intro w' hSw
      obtain ⟨s0, s1⟩ := hSw
      go_simp
      try with_reducible rfl
    try simp only [Act.put, List.setIfInBounds_toArray, List.set_cons_zero, List.set_cons_succ]
    refine wpAnyT_ready1 (i := 10) (o := ⟨_, _, _, _, _, _⟩) (by kernel_rfl) rfl (fun K hK => ?_)
    go_simp
    have K1 := Lib.hid k1
    have hx := al1 (w := W1) (o := .cells (([8, -1] : List Int).map (Value.int .i64)).toArray 3)
    have k0 := cell_later hx k0
    have k1 := cell_later hx k1
    have hS := And.intro k0 k1
    refine hK _ _ (fun _ => hS) ?_
    try simp only [Act.put, List.setIfInBounds_toArray, List.set_cons_zero, List.set_cons_succ]
    refine wpAnyT_ready1 (i := 11) (o := ⟨_, _, _, _, _, _⟩) (by kernel_rfl) rfl (fun K hK => ?_)
    go_simp
    go_at_call 69
    refine (S_oneL g _ [8, -1] W1 _ rfl hr (by omega) (by simp) (by simp)).mono ?_
    rintro e w2 ⟨z, rfl, hz, hr, ho⟩
    have hcur := hcur.trans ho
    have bP := bP.only ho (by omega)
    have hrow := PRowX.only hrow ho (by omega)
    have hbv := Stmts.only hbv ho (by omega)
    have k0 := bP.cell
    have k1 := cell_only ho K1.out (by omega)
    have hS := And.intro k0 k1
    clear hz ho
    refine hK _ _ (fun _ => hS) ?_
    try simp only [Act.put, List.setIfInBounds_toArray, List.set_cons_zero, List.set_cons_succ]
    refine wpAnyT_take (i := 12) (oi := ⟨_, _, _, _, _, _⟩) (v := ?v2_12) (by kernel_rfl) (by decide) rfl (by kernel_rfl) (by kernel_rfl) (by kernel_rfl) (fun _ _ _ h => h) (Or.inl ⟨by rfl, ?hy2_12⟩) hS ?rest2_12
    case hy2_12 =>
      intro w' hSw
      obtain ⟨s0, s1⟩ := hSw
      go_simp
      try with_reducible rfl
    try simp only [Act.put, List.setIfInBounds_toArray, List.set_cons_zero, List.set_cons_succ]
    refine wpAnyT_ready1 (i := 13) (o := ⟨_, _, _, _, _, _⟩) (by kernel_rfl) rfl (fun K hK => ?_)
    go_simp
    have hx := al1 (w := w2) (o := .cells #[.int .i64 1, .int .i64 z, .int .i64 0, .int .i64 0] 60)
    have hone := Stmts.one (w := w2) (B := w2.heap.size) (lo := 0) rfl (Nat.zero_le _) 1 z 0 0
    have hrow := PRowX.keep hrow hx
    have hbv := hbv.keep hx
    have hr := hr.keep hx
    have hcur := hcur.trans (Only.of_below hx)
    have bP := bP.below hx (lt_of_block bP)
    have k0 := cell_later hx k0
    have k1 := cell_later hx k1
    have hS := And.intro k0 k1
    refine hK _ _ (fun _ => hS) ?_
    try simp only [Act.put, List.setIfInBounds_toArray, List.set_cons_zero, List.set_cons_succ]
    refine wpAnyT_ready1 (i := 14) (o := ⟨_, _, _, _, _, _⟩) (by kernel_rfl) rfl (fun K hK => ?_)
    refine step_append_stmts rfl _ _ rfl _ _ body [⟨1, z, 0, 0⟩] (w.heap.size + 1) rfl rfl hbv hone.feed (by simp; omega) (by have := lt_of_block bP; omega) ?_
    intro bv w5 hbo hg5 hb5 hf5
    have hneP := bP.ne hbv (by decide)
    have hneR := own_types hrow.own hbv (by decide)
    have hge := own_block_ge hbv
    have hPne : some PB ≠ (Value.slice Ab body.length Cb).ownBlock := fun hc => by
      rcases hneP with h | h
      · rw [h] at hc; cases hc
      · exact h hc.symm
    have hgne : some ga ≠ (Value.slice Ab body.length Cb).ownBlock := fun hc => by
      rcases hneR with h | h
      · cases h
      · exact h hc
    have k0 := hg5.cell k0 hPne
    have k1 := hg5.cell k1 hgne
    have hS := And.intro k0 k1
    have bP := bP.grown hg5 hPne
    have hap5 : ∀ i, i < p.length → i ≠ k → Apart (xs.getD (i * 4 + 3) undef) bv := fun i hi hik => Apart.from_ (HAP.out i hi hik) (PRowX.full hrow hi) hf5 (Nat.le_refl _)
    have hrow5 : PRowX w5 (w.heap.size + 1) (.slice (some ⟨ga, 0, none⟩) n0 Cp) xs p k := PRowX.grown hrow hkp (by rw [← HBV.out]; exact hg5)
    have hr := hr.grown hg5 (fun r hc => by have := hge r hc; omega)
    have hcur := hcur.grow hg5 (fun r hc => by have := hge r hc; simp only [World.size_alloc]; omega)
    have f3 : w5.frozen? ⟨ga, k * 4 + 3, none⟩ = false := by
      obtain ⟨ga2, Cp2, ea, _, _, _, _, _, hfz⟩ := PRowX.rd hrow5 (by omega)
      obtain ⟨rfl, -, -⟩ : ga = ga2 ∧ n0 = p.length ∧ Cp = Cp2 := by simpa using ea
      exact hfz _
    obtain ⟨A5, C5, rfl⟩ := hbo.form
    rw [show (body ++ [(⟨1, z, 0, 0⟩ : St)]).length = body.length + 1 by simp] at hbo hap5
    clear hrow
    refine hK _ _ (fun _ => hS) ?_
    try simp only [Act.put, List.setIfInBounds_toArray, List.set_cons_zero, List.set_cons_succ]
    refine wpAnyT_ready1 (i := 15) (o := ⟨_, _, _, _, _, _⟩) (by kernel_rfl) rfl (fun K hK => ?_)
    go_simp
    refine hK _ _ (fun h => absurd h (by decide)) ?_
    try simp only [Act.put, List.setIfInBounds_toArray, List.set_cons_zero, List.set_cons_succ]
    refine wpAnyT_ready1 (i := 16) (o := ⟨_, _, _, _, _, _⟩) (by kernel_rfl) rfl (fun K hK => ?_)
    go_simp
    refine hK _ _ (fun h => absurd h (by decide)) ?_
    try simp only [Act.put, List.setIfInBounds_toArray, List.set_cons_zero, List.set_cons_succ]
    refine wpAnyT_ready1 (i := 17) (o := ⟨_, _, _, _, _, _⟩) (by kernel_rfl) rfl (fun K hK => ?_)
    go_simp
    refine hK _ _ (fun h => absurd h (by decide)) ?_
    try simp only [Act.put, List.setIfInBounds_toArray, List.set_cons_zero, List.set_cons_succ]
    refine wpAnyT_done (by kernel_rfl) ?_ _
    have hrow := PRowX.setBody (l := body ++ [(⟨1, z, 0, 0⟩ : St)]) hrow5 hkp hbo hap5
    have hpl2 : (p.set k { p.getD k default with body := body ++ [(⟨1, z, 0, 0⟩ : St)] }).length = n0 := by rw [List.length_set]; exact hpn
    generalize xs.set (k * 4 + 3) (.slice A5 (body.length + 1) C5) = xs2 at hrow
    generalize p.set k { p.getD k default with body := body ++ [(⟨1, z, 0, 0⟩ : St)] } = p2 at hrow hpl2
    have bP := bP.other ⟨ga, k * 4 + 3, none⟩ (.slice A5 (body.length + 1) C5) (by show PB ≠ ga; omega)
    have hr := hr.store (p := ⟨ga, k * 4 + 3, none⟩) (by show g < ga; omega) (.slice A5 (body.length + 1) C5)
    have hcur := hcur.store (p := ⟨ga, k * 4 + 3, none⟩) (by show _ ≤ ga; simp only [World.size_alloc]; omega) (.slice A5 (body.length + 1) C5)
    obtain ⟨wv, hwv⟩ : ∃ wv : World, wv = w5.setCell ⟨ga, k * 4 + 3, none⟩ (.slice A5 (body.length + 1) C5) := ⟨_, rfl⟩
    rw [← hwv] at hrow bP hr hcur ⊢
    clear hwv k0 k1 hS f3 hrow5 hbo
    have cP := bP.cell
    have r1 := fun o => (ocell hcur).1 w.heap.size o (by omega) (by simp)
    have m1 := fun o => (ocell hcur).2 w.heap.size o (by omega) (by simp)
    go_wp2
    exact bodyPost_ret (v := .agg #[.slice (some ⟨ga, 0, none⟩) n0 Cp]) (by simp [results, Try.results32, go_sem, r1]) rfl
      ⟨_, xs2, p2, rfl, (PRowX.only hrow ((Only.refl w.heap.size (w.heap.size + 1) _).setCell (Nat.le_refl _) (Nat.lt_succ_self _) _) (Nat.le_refl _)).lo_ (by omega), ⟨by omega, by omega⟩, (hr.store (p := ⟨w.heap.size, 0, none⟩) hgl _).mono (by omega), ((Only.of_below al1).trans hcur).store (Nat.le_refl _) _⟩
  have q3 : (c == 3) = false := by rw [beq_eq_false_iff_ne]; exact h3
  by_cases h4 : c = 4
  · subst h4
    have hrow := PRowX.keep hrow (below0 w3).drew
    have hr := hr.drew
    have hcur := hcur.drew
    have cP : w3.cell? ⟨PB, 0, none⟩ = some (.slice (some ⟨ga, 0, none⟩) n0 Cp) := bP.cell
    have bP : BoxP w3.drew PB (.slice (some ⟨ga, 0, none⟩) n0 Cp) := bP
    go_wp2
    go_region_held3 (fun w' => w'.cell? ⟨PB, 0, none⟩ = some (.slice (some ⟨ga, 0, none⟩) n0 Cp))
      (first | go_keep | exact cP | exact (bP.other _ _ (show PB ≠ ga by omega)).cell | exact (bP.cellx (show PB ≠ ga by omega) zP))
      (first
        | (go_at_call 69
           refine (S_oneL g _ [8, 1] _ _ rfl hr (by omega) (by simp) (by simp)).mono ?_
           rintro e wu ⟨z, rfl, hz, hr, ho⟩
           have hcur := hcur.trans ho
           have bP := bP.only ho (by omega)
           have hrow := PRowX.only hrow ho (by omega)
           have cP := bP.cell
           have zP := lt_of_block bP
           obtain ⟨ga2, Cp2, ea, _, _, _, _, hcell2, hfz2⟩ := PRowX.rd hrow (by omega)
           obtain ⟨rfl, -, -⟩ : ga = ga2 ∧ n0 = p.length ∧ Cp = Cp2 := by simpa using ea
           have f3 := hfz2 (k * 4 + 2)
           have d3 := hcell2 (k * 4 + 2) (by omega)
           have zga : ga < wu.heap.size := by omega
           clear ho hz hcell2 hfz2 ea))
    all_goals
      have hpl : Ints (wu.alloc (.cells #[.int .i64 z, .int .i64 2] 3)) (w.heap.size + 1) (.slice (some ⟨wu.heap.size, 0, none⟩) 2 2) [z, 2] := by simpa using Ints.lit wu (w.heap.size + 1) [z, 2] (by omega) (by simp)
      have hrow := PRowX.setParams (PRowX.keep hrow (al1 (o := .cells #[.int .i64 z, .int .i64 2] 3))) (by omega : k < p.length) hpl
      have hpl2 : (p.set k { p.getD k default with params := [z, 2] }).length = n0 := by rw [List.length_set]; exact hpn
      generalize xs.set (k * 4 + 2) (.slice (some ⟨wu.heap.size, 0, none⟩) 2 2) = xs2 at hrow
      generalize p.set k { p.getD k default with params := [z, 2] } = p2 at hrow hpl2
      have bP := (bP.below (al1 (o := .cells #[.int .i64 z, .int .i64 2] 3)) zP).other ⟨ga, k * 4 + 2, none⟩ (.slice (some ⟨wu.heap.size, 0, none⟩) 2 2) (by show PB ≠ ga; omega)
      have hr := (hr.keep (al1 (o := .cells #[.int .i64 z, .int .i64 2] 3))).store (p := ⟨ga, k * 4 + 2, none⟩) (by show g < ga; omega) (.slice (some ⟨wu.heap.size, 0, none⟩) 2 2)
      have hcur := (hcur.alloc (.cells #[.int .i64 z, .int .i64 2] 3)).store (p := ⟨ga, k * 4 + 2, none⟩) (by show _ ≤ ga; simp only [World.size_alloc]; omega) (.slice (some ⟨wu.heap.size, 0, none⟩) 2 2)
      have ew : (wu.alloc (.cells #[.int .i64 z, .int .i64 2] 3)).setCell ⟨ga, k * 4 + 2, none⟩ (.slice (some ⟨wu.heap.size, 0, none⟩) 2 2) = (wu.setCell ⟨ga, k * 4 + 2, none⟩ (.slice (some ⟨wu.heap.size, 0, none⟩) 2 2)).alloc (.cells #[.int .i64 z, .int .i64 2] 3) := by
        simp [go_sem, zga]
      rw [ew] at hrow bP hr hcur
      obtain ⟨wv, hwv⟩ : ∃ wv : World, wv = (wu.setCell ⟨ga, k * 4 + 2, none⟩ (.slice (some ⟨wu.heap.size, 0, none⟩) 2 2)).alloc (.cells #[.int .i64 z, .int .i64 2] 3) := ⟨_, rfl⟩
      rw [← hwv] at hrow bP hr hcur ⊢
      clear ew
      clear hwv cP hpl
      have cP := bP.cell
      have r1 := fun o => (ocell hcur).1 w.heap.size o (by omega) (by simp)
      have m1 := fun o => (ocell hcur).2 w.heap.size o (by omega) (by simp)
      go_wp2
      exact bodyPost_ret (v := .agg #[.slice (some ⟨ga, 0, none⟩) n0 Cp]) (by simp [results, Try.results32, go_sem, r1]) rfl
        ⟨_, xs2, p2, rfl, (PRowX.only hrow ((Only.refl w.heap.size (w.heap.size + 1) _).setCell (Nat.le_refl _) (Nat.lt_succ_self _) _) (Nat.le_refl _)).lo_ (by omega), ⟨by omega, by omega⟩, (hr.store (p := ⟨w.heap.size, 0, none⟩) hgl _).mono (by omega), ((Only.of_below al1).trans hcur).store (Nat.le_refl _) _⟩
  have q4 : (c == 4) = false := by rw [beq_eq_false_iff_ne]; exact h4
  have cP := bP.cell
  have r1 := fun o => (ocell hcur).1 w.heap.size o (by omega) (by simp)
  have m1 := fun o => (ocell hcur).2 w.heap.size o (by omega) (by simp)
  go_wp2
  exact bodyPost_ret (v := .agg #[.slice (some ⟨ga, 0, none⟩) n0 Cp]) (by simp [results, Try.results32, go_sem, r1]) rfl
    ⟨_, _, _, rfl, (PRowX.only hrow ((Only.refl w.heap.size (w.heap.size + 1) _).setCell (Nat.le_refl _) (Nat.lt_succ_self _) _) (Nat.le_refl _)).lo_ (by omega), (by omega), (hr.store (p := ⟨w.heap.size, 0, none⟩) hgl _).mono (by omega), ((Only.of_below al1).trans hcur).store (Nat.le_refl _) _⟩

end Go.Proofs.Ytiemhadpepbcjaa

namespace Go.Proofs.Ytiemhadpepbcjaa
open Go.RowKit
set_option linter.unusedVariables false

end Go.Proofs.Ytiemhadpepbcjaa

namespace Go.Proofs.Ytiemhadpepbcjaa
open Go.RowKit
set_option linter.unusedVariables false

set_option maxRecDepth 100000 in
set_option maxHeartbeats 2000000 in
theorem S_DrawBareProgram (v : Value) (l : List Int) (w : World) (hv : OBytes w v l) (hl : l.length ≤ 1048576) :
    Calls Try.prog 13 #[v] w fun e w' => ∃ (sl : Value) (xs : List Value) (p : Pr), e = .returned (.agg #[sl]) ∧ PRow w' w.heap.size sl xs p ∧ (1 ≤ p.length ∧ p.length ≤ 7) ∧ Below w.heap.size w w' := by
  have hv1 := hv.keep (al1 (o := (.cells #[.slice none 0 0] 25)))
  clear hv
  go_enter Try.func13, Try.ntmps13
  go_wp2_with fail
  refine (S_newReader v l _ hv1 hl).mono ?_
  rintro e w0 ⟨rfl, hr, hb, hz⟩
  have hb1 := bthen al1 hb
  have r0 := fun o => (bcell hb).1 w.heap.size o (by simp)
  have m0 := fun o => (bcell hb).2 w.heap.size o (by simp)
  rw [World.size_alloc] at hr hz
  have hz0 : w.heap.size + 1 < w0.heap.size := by omega
  have hcur := Only.refl (w.heap.size + 1) (w.heap.size + 1 + 1) w0
  clear hz hb hv1
  go_wp2_with fail
  refine (S_anyProgram (w.heap.size + 1) _ _ hr (by omega)).mono ?_
  rintro e w1 ⟨sl, xs, p, rfl, hrow, hp, hr, ho⟩
  have hcur := hcur.trans ho
  obtain ⟨A, C, rfl⟩ := PRowX.form hrow
  have hw1 : w.heap.size + 1 ≤ w0.heap.size := by omega
  have r1 := fun o => ((ocell hcur).1 w.heap.size o (by omega) (by omega)).trans (r0 o)
  have m1 := fun o => ((ocell hcur).2 w.heap.size o (by omega) (by omega)).trans (m0 o)
  clear r0 m0
  go_wp2
  exact bodyPost_ret (v := .agg #[.slice A p.length C]) (by simp [results, Try.results13, go_sem, r1]) rfl
    ⟨.slice A p.length C, xs, p, rfl, (PRowX.only hrow ((Only.refl w.heap.size (w.heap.size + 1) _).setCell (Nat.le_refl _) (Nat.lt_succ_self _) _) (by omega)).lo_ (lo' := w.heap.size) (by omega), hp, ((hb1.trans ((hcur.below (by omega)).mono (by omega))).setCell (Nat.le_refl _) _)⟩

set_option maxRecDepth 100000 in
set_option maxHeartbeats 2000000 in
theorem S_DrawValidProgram (v : Value) (l : List Int) (w : World) (hv : OBytes w v l) (hl : l.length ≤ 1048576) :
    Calls Try.prog 7 #[v] w fun e w' => ∃ (sl : Value) (xs : List Value) (p : Pr), e = .returned (.agg #[sl]) ∧ PRow w' w.heap.size sl xs p ∧ (1 ≤ p.length ∧ p.length ≤ 7) ∧ Below w.heap.size w w' := by
  have hv1 := hv.keep (al1 (o := (.cells #[.slice none 0 0] 25)))
  clear hv
  go_enter Try.func7, Try.ntmps7
  go_wp2_with fail
  refine (S_newReader v l _ hv1 hl).mono ?_
  rintro e w0 ⟨rfl, hr, hb, hz⟩
  have hb1 := bthen al1 hb
  have r0 := fun o => (bcell hb).1 w.heap.size o (by simp)
  have m0 := fun o => (bcell hb).2 w.heap.size o (by simp)
  rw [World.size_alloc] at hr hz
  have hz0 : w.heap.size + 1 < w0.heap.size := by omega
  have hcur := Only.refl (w.heap.size + 1) (w.heap.size + 1 + 1) w0
  clear hz hb hv1
  go_wp2_with fail
  refine (S_pick (w.heap.size + 1) _ 3 _ hr (by omega)).mono ?_
  rintro e wq ⟨c, rfl, c0, c1, hr, ho, hsz⟩
  have hcur := hcur.trans ho
  clear ho c0 c1
  by_cases h0 : c = 0
  · subst h0
    go_wp2_with fail
    refine (S_shapedProgram (w.heap.size + 1) _ _ hr (by omega)).mono ?_
    rintro e w1 ⟨sl, xs, p, rfl, hrow, hT, hpl, hr, ho⟩
    have hcur := hcur.trans ho
    have hp : 1 ≤ p.length ∧ p.length ≤ 7 := ⟨hT.len, by omega⟩
    obtain ⟨A, C, rfl⟩ := PRowX.form hrow
    have r1 := fun o => ((ocell hcur).1 w.heap.size o (by omega) (by omega)).trans (r0 o)
    have m1 := fun o => ((ocell hcur).2 w.heap.size o (by omega) (by omega)).trans (m0 o)
    clear r0 m0
    go_wp2
    exact bodyPost_ret (v := .agg #[.slice A p.length C]) (by simp [results, Try.results7, go_sem, r1]) rfl
      ⟨.slice A p.length C, xs, p, rfl, (PRowX.only hrow ((Only.refl w.heap.size (w.heap.size + 1) _).setCell (Nat.le_refl _) (Nat.lt_succ_self _) _) (by omega)).lo_ (lo' := w.heap.size) (by omega), hp, ((hb1.trans ((hcur.below (by omega)).mono (by omega))).setCell (Nat.le_refl _) _)⟩
  have q0 : (c == 0) = false := by rw [beq_eq_false_iff_ne]; exact h0
  go_wp2_with fail
  refine (S_anyProgram (w.heap.size + 1) _ _ hr (by omega)).mono ?_
  rintro e w1 ⟨sl, xs, p, rfl, hrow, hp, hr, ho⟩
  have hcur := hcur.trans ho
  obtain ⟨A, C, rfl⟩ := PRowX.form hrow
  have r1 := fun o => ((ocell hcur).1 w.heap.size o (by omega) (by omega)).trans (r0 o)
  have m1 := fun o => ((ocell hcur).2 w.heap.size o (by omega) (by omega)).trans (m0 o)
  clear r0 m0
  go_wp2
  exact bodyPost_ret (v := .agg #[.slice A p.length C]) (by simp [results, Try.results7, go_sem, r1]) rfl
    ⟨.slice A p.length C, xs, p, rfl, (PRowX.only hrow ((Only.refl w.heap.size (w.heap.size + 1) _).setCell (Nat.le_refl _) (Nat.lt_succ_self _) _) (by omega)).lo_ (lo' := w.heap.size) (by omega), hp, ((hb1.trans ((hcur.below (by omega)).mono (by omega))).setCell (Nat.le_refl _) _)⟩

end Go.Proofs.Ytiemhadpepbcjaa

namespace Go.Proofs.Ytiemhadpepbcjaa
open Go.ChangeShapes Go.WideShapes Go.ChangeAt Go.RowKit Go.Deep
set_option linter.unusedVariables false


set_option maxRecDepth 100000 in
theorem open_obytes {H : Type} {enc : TypeId × Value → H} {w : World} {base : Nat} {spare : Nat → Bool} {held : Bool} {v : Value} {d : DataW H} {ps : List MemPlace} {r : Reach} {b0 : Nat} (hv : Value.okWide Try.prog w r b0 22 v) (h : DataW.Trod enc Try.prog w base spare held 22 v d ps) : ∃ l, OBytes w v l := by
  obtain ⟨fuel, hf⟩ := h
  obtain ⟨v', n, f, hcs, ho, hel⟩ := old_slice Try.underlying22 (show Try.prog.cellsOf 5 = 1 by kernel_rfl) (by omega) hf
  obtain ⟨a0, l0, c0, rfl⟩ := okWide_slice Try.underlying22 hv
  have hvv : Value.slice a0 l0 c0 = v' := by simpa [Value.cells] using hcs
  subst hvv
  have hw : ∀ j, j < n → ∃ q : Int, f j = .int .u8 q ∧ 0 ≤ q ∧ q ≤ 255 := fun j hj => by
    obtain ⟨m, y, ht⟩ := hel j hj
    obtain ⟨q, hq, _, hwf⟩ := DataW.trod_int Try.underlying5 ht
    simp only [Nat.mul_one, List.range_one, List.map_cons, List.map_nil, Nat.add_zero, List.cons.injEq, and_true] at hq
    have := bounds_u8 hwf
    exact ⟨q, hq, this.1, this.2⟩
  refine ⟨(List.range n).map fun i => intOf (f i), ?_, ?_⟩
  · obtain ⟨A, C, b, o, h1, h2, h3, h4, h5⟩ := ho
    refine ⟨A, C, b, o, by simpa using h1, by simpa using h2, h3, by simpa using h4, fun j hj => ?_⟩
    have hj' : j < n := by simpa using hj
    obtain ⟨q, hq, _⟩ := hw j hj'
    rw [h5 j (by omega)]
    simp [List.getD, hj', hq, intOf]
  · intro x hx
    obtain ⟨i, hi, rfl⟩ := List.mem_map.1 hx
    obtain ⟨q, hq, h0, h1⟩ := hw i (by simpa using hi)
    rw [hq]
    exact ⟨h0, h1⟩

end Go.Proofs.Ytiemhadpepbcjaa
