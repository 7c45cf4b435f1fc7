/-
  Walks: the reference's copyProgram, bare, shapedProgram. Condition: what the arguments name stands in memory.
-/
import Derived.Test.YtelhemhbgpfokaaDwA
import Derived.Deep.RegionHeld3
namespace Go.Proofs.Ytelhemhbgpfokaa
open Go.RowKit
set_option linter.unusedVariables false

/-- Rows that stood in an elder world stay behind an append to a row that is younger. -/
theorem PRowX.past {w0 w w' : World} {lo k : Nat} {v : Value} {xs : List Value} {p : Pr} {row : Option Nat} (h0 : PRowX w0 lo v xs p k) (h : PRowX w lo v xs p k) (hg : w.grownBy w' row) (hr : ∀ r, row = some r → w0.heap.size ≤ r) : PRowX w' lo v xs p k := by
  have ne : ∀ {V : Value} {e size n : Nat} {ys : List Value}, w0.ownsRow lo e size V n ys → V.ownBlock = none ∨ V.ownBlock ≠ row := fun {V} {e} {size} {n} {ys} hV => by
    rcases hq : V.ownBlock with _ | r
    · exact .inl rfl
    · right
      intro hc
      have h1 := own_block_lt hV r hq
      have h2 := hr r hc.symm
      omega
  exact ⟨World.ownsRow.kept h.own hg (ne h0.own), h.head, fun i hi => Ints.kept (h.pars i hi) hg (ne (h0.pars i hi)), fun i hi hk => Stmts.kept (h.body i hi hk) hg (ne (h0.body i hi hk)), h.apart⟩
theorem Apart.of_lt {w0 : World} {lo : Nat} {V U : Value} {l : List St} (h : Stmts w0 lo V l) (hU : ∀ r, U.ownBlock = some r → w0.heap.size ≤ r) : Apart V U := by
  intro r h1 h2
  have := own_block_lt h r h1
  have := hU r h2
  omega
theorem PRowX.form {w : World} {lo k : Nat} {v : Value} {xs : List Value} {p : Pr} (h : PRowX w lo v xs p k) : ∃ A C, v = .slice A p.length C := by
  obtain ⟨A, C, _, hv, _⟩ := own_rd h.own
  exact ⟨A, C, hv⟩

set_option maxRecDepth 100000 in
set_option maxHeartbeats 8000000 in
theorem S_copyProgram (v : Value) (p : Pr) (lo : Nat) (w : World) (hv : Prog w lo v p) (hl : p.length ≤ 1000) (hbl : ∀ b, b < p.length → (p.getD b default).body.length ≤ 1000 ∧ (p.getD b default).params.length ≤ 1000) :
    Calls Try.prog 105 #[v] w fun e w' => ∃ sl xs, e = .returned (.agg #[sl]) ∧ PRow w' w.heap.size sl xs p ∧ Below w.heap.size w w' := by
  obtain ⟨sl, rfl, hv⟩ := hv
  obtain ⟨A, C, g, rfl, hn, hc, hA, hg, hcell, hf⟩ := hv.rd
  have HV := Lib.hid hv
  have HCELL := Lib.hid hcell
  have HBL := Lib.hid hbl
  unfold maxLen at hc
  clear hv hcell hf hbl
  go_enter Try.func105, Try.ntmps105
  go_wp2
  obtain ⟨W0, hW0⟩ : ∃ W0 : World, W0 = ((w.alloc (.cells #[.slice A p.length C] 25)).alloc (.cells #[.slice none 0 0] 25)) := ⟨_, rfl⟩
  have hb0 : Below w.heap.size w W0 := by rw [hW0]; exact al2
  have z0 : W0.heap.size = w.heap.size + 2 := by rw [hW0]; simp
  have c0 : W0.cell? ⟨w.heap.size, 0, none⟩ = some (.slice A p.length C) := by rw [hW0]; simp [go_sem]
  rw [← hW0]
  have HW0 := Lib.hid hW0
  have HB0 := Lib.hid hb0
  clear hb0 hW0
  go_loopw [4] (fun i wr => ∃ (k : Nat) (ov : Value) (xs : List Value), k ≤ p.length ∧ i = .int .i64 k ∧ PRow wr (w.heap.size + 3) ov xs (p.take k) ∧ wr.cell? ⟨w.heap.size + 2, 0, none⟩ = some ov ∧ (∀ j, wr.frozen? ⟨w.heap.size + 2, j, none⟩ = false) ∧ Below W0.heap.size W0 wr ∧ w.heap.size + 3 ≤ wr.heap.size) (fun i _ => p.length - (intOf i).toNat)
  case atStart => exact ⟨0, _, _, Nat.zero_le _, rfl, PRowX.nil _ _, by simp [go_sem, z0], fun j => by simp [go_sem, z0], al1, by simp [z0]⟩
  case round =>
    obtain ⟨k, ov, xs, hk, rfl, hrow, hov, hfz, hB, hz⟩ := hrel
    by_cases hlt : k < p.length
    · obtain ⟨pv, bv, d0, d1, d2, d3, hp, hb⟩ := HCELL.out k hlt
      obtain ⟨hgl, hgw⟩ := hg (by omega)
      have hBw : Below w.heap.size w wr := HB0.out.trans (hB.mono (by omega))
      have e0 := (hBw.cell (p := ⟨g, k * 4, none⟩) hgw).trans d0
      have e1 := (hBw.cell (p := ⟨g, k * 4 + 1, none⟩) hgw).trans d1
      have e2 := (hBw.cell (p := ⟨g, k * 4 + 2, none⟩) hgw).trans d2
      have e3 := (hBw.cell (p := ⟨g, k * 4 + 3, none⟩) hgw).trans d3
      have hp2 := hp.keep hBw
      have hb2 := hb.keep hBw
      clear d0 d1 d2 d3 hp hb
      obtain ⟨hbl1, hbl2⟩ := HBL.out k hlt
      have cb : wr.cell? ⟨w.heap.size, 0, none⟩ = some (.slice A p.length C) := (hB.cell (p := ⟨w.heap.size, 0, none⟩) (by show w.heap.size < _; omega)).trans c0
      obtain rfl := hA (by omega)
      obtain ⟨A2, C2, rfl⟩ := hp2.form
      obtain ⟨A3, C3, rfl⟩ := hb2.form
      obtain ⟨K, hK⟩ : ∃ K : Bk, K = p.getD k default := ⟨_, rfl⟩
      rw [← hK] at e0 e1 e2 e3 hp2 hb2 hbl1 hbl2
      have HK := Lib.hid hK
      obtain ⟨kind, parent, ps, body⟩ := K
      simp only at e0 e1 e2 e3 hp2 hb2 hbl1 hbl2
      have hi : (k : Int) < (p.length : Int) := by omega
      have hi0 : (0 : Int) ≤ (k : Int) := by omega
      clear hK hA hg HCELL HBL
      go_wp2
      obtain ⟨W1, hW1⟩ : ∃ W1 : World, W1 = (wr.alloc (.cells #[.int .i64 kind, .int .i64 parent, .slice A2 ps.length C2, .slice A3 body.length C3] 59)).drew := ⟨_, rfl⟩
      have hb1 : Below wr.heap.size wr W1 := by rw [hW1]; exact al1.drew
      have z1 : W1.heap.size = wr.heap.size + 1 := by rw [hW1]; show (wr.alloc _).heap.size = _; simp
      have k0 : W1.cell? ⟨wr.heap.size, 0, none⟩ = some (.int .i64 kind) := by rw [hW1]; simp [go_sem]
      have k1 : W1.cell? ⟨wr.heap.size, 1, none⟩ = some (.int .i64 parent) := by rw [hW1]; simp [go_sem]
      have k2 : W1.cell? ⟨wr.heap.size, 2, none⟩ = some (.slice A2 ps.length C2) := by rw [hW1]; simp [go_sem]
      have k3 : W1.cell? ⟨wr.heap.size, 3, none⟩ = some (.slice A3 body.length C3) := by rw [hW1]; simp [go_sem]
      have k4 : W1.cell? ⟨w.heap.size + 2, 0, none⟩ = some ov := (hb1.cell (p := ⟨w.heap.size + 2, 0, none⟩) (by show w.heap.size + 2 < _; omega)).trans hov
      refine wp_region_T 16 (by kernel_rfl) (fun w' => w'.cell? ⟨wr.heap.size, 0, none⟩ = some (.int .i64 kind) ∧ w'.cell? ⟨wr.heap.size, 1, none⟩ = some (.int .i64 parent) ∧ w'.cell? ⟨wr.heap.size, 2, none⟩ = some (.slice A2 ps.length C2) ∧ w'.cell? ⟨wr.heap.size, 3, none⟩ = some (.slice A3 body.length C3) ∧ w'.cell? ⟨w.heap.size + 2, 0, none⟩ = some ov) ?_
      rw [← hW1]
      have hS := And.intro k0 (And.intro k1 (And.intro k2 (And.intro k3 k4)))
      refine wpAnyT_take (i := 0) (oi := ⟨_, _, _, _, _, _⟩) (v := ?v0) (by kernel_rfl) (by decide) rfl (by kernel_rfl) (by kernel_rfl) (by kernel_rfl) (fun _ _ _ h => h) (Or.inl ⟨by rfl, ?hy0⟩) hS ?rest0
      case hy0 =>
        intro w' hSw
        obtain ⟨s0, s1, s2, s3, s4⟩ := hSw
        go_simp
        try with_reducible rfl
      try simp only [Act.put, List.setIfInBounds_toArray, List.set_cons_zero, List.set_cons_succ]
      refine wpAnyT_take (i := 1) (oi := ⟨_, _, _, _, _, _⟩) (v := ?v1) (by kernel_rfl) (by decide) rfl (by kernel_rfl) (by kernel_rfl) (by kernel_rfl) (fun _ _ _ h => h) (Or.inl ⟨by rfl, ?hy1⟩) hS ?rest1
      case hy1 =>
        intro w' hSw
        obtain ⟨s0, s1, s2, s3, s4⟩ := hSw
        go_simp
        try with_reducible rfl
      try simp only [Act.put, List.setIfInBounds_toArray, List.set_cons_zero, List.set_cons_succ]
      refine wpAnyT_take (i := 2) (oi := ⟨_, _, _, _, _, _⟩) (v := ?v2) (by kernel_rfl) (by decide) rfl (by kernel_rfl) (by kernel_rfl) (by kernel_rfl) (fun _ _ _ h => h) (Or.inl ⟨by rfl, ?hy2⟩) hS ?rest2
      case hy2 =>
        intro w' hSw
        obtain ⟨s0, s1, s2, s3, s4⟩ := hSw
        go_simp
        try with_reducible rfl
      try simp only [Act.put, List.setIfInBounds_toArray, List.set_cons_zero, List.set_cons_succ]
      refine wpAnyT_take (i := 3) (oi := ⟨_, _, _, _, _, _⟩) (v := ?v3) (by kernel_rfl) (by decide) rfl (by kernel_rfl) (by kernel_rfl) (by kernel_rfl) (fun _ _ _ h => h) (Or.inl ⟨by rfl, ?hy3⟩) hS ?rest3
      case hy3 =>
        intro w' hSw
        obtain ⟨s0, s1, s2, s3, s4⟩ := hSw
        go_simp
        try with_reducible rfl
      try simp only [Act.put, List.setIfInBounds_toArray, List.set_cons_zero, List.set_cons_succ]
      refine wpAnyT_take (i := 4) (oi := ⟨_, _, _, _, _, _⟩) (v := ?v4) (by kernel_rfl) (by decide) rfl (by kernel_rfl) (by kernel_rfl) (by kernel_rfl) (fun _ _ _ h => h) (Or.inl ⟨by rfl, ?hy4⟩) hS ?rest4
      case hy4 =>
        intro w' hSw
        obtain ⟨s0, s1, s2, s3, s4⟩ := hSw
        go_simp
        try with_reducible rfl
      try simp only [Act.put, List.setIfInBounds_toArray, List.set_cons_zero, List.set_cons_succ]
      refine wpAnyT_take (i := 5) (oi := ⟨_, _, _, _, _, _⟩) (v := ?v5) (by kernel_rfl) (by decide) rfl (by kernel_rfl) (by kernel_rfl) (by kernel_rfl) (fun _ _ _ h => h) (Or.inl ⟨by rfl, ?hy5⟩) hS ?rest5
      case hy5 =>
        intro w' hSw
        obtain ⟨s0, s1, s2, s3, s4⟩ := hSw
        go_simp
        try with_reducible rfl
      try simp only [Act.put, List.setIfInBounds_toArray, List.set_cons_zero, List.set_cons_succ]
      refine wpAnyT_take (i := 6) (oi := ⟨_, _, _, _, _, _⟩) (v := ?v6) (by kernel_rfl) (by decide) rfl (by kernel_rfl) (by kernel_rfl) (by kernel_rfl) (fun _ _ _ h => h) (Or.inl ⟨by rfl, ?hy6⟩) hS ?rest6
      case hy6 =>
        intro w' hSw
        obtain ⟨s0, s1, s2, s3, s4⟩ := hSw
        go_simp
        try with_reducible rfl
      try simp only [Act.put, List.setIfInBounds_toArray, List.set_cons_zero, List.set_cons_succ]
      refine wpAnyT_take (i := 7) (oi := ⟨_, _, _, _, _, _⟩) (v := ?v7) (by kernel_rfl) (by decide) rfl (by kernel_rfl) (by kernel_rfl) (by kernel_rfl) (fun _ _ _ h => h) (Or.inl ⟨by rfl, ?hy7⟩) hS ?rest7
      case hy7 =>
        intro w' hSw
        obtain ⟨s0, s1, s2, s3, s4⟩ := hSw
        go_simp
        try with_reducible rfl
      try simp only [Act.put, List.setIfInBounds_toArray, List.set_cons_zero, List.set_cons_succ]

      refine wpAnyT_take (i := 10) (oi := ⟨_, _, _, _, _, _⟩) (v := ?v10) (by kernel_rfl) (by decide) rfl (by kernel_rfl) (by kernel_rfl) (by kernel_rfl) (fun _ _ _ h => h) (Or.inl ⟨by rfl, ?hy10⟩) hS ?rest10
      case hy10 =>
        intro w' hSw
        obtain ⟨s0, s1, s2, s3, s4⟩ := hSw
        go_simp
        try with_reducible rfl
      try simp only [Act.put, List.setIfInBounds_toArray, List.set_cons_zero, List.set_cons_succ]
      refine wpAnyT_take (i := 11) (oi := ⟨_, _, _, _, _, _⟩) (v := ?v11) (by kernel_rfl) (by decide) rfl (by kernel_rfl) (by kernel_rfl) (by kernel_rfl) (fun _ _ _ h => h) (Or.inl ⟨by rfl, ?hy11⟩) hS ?rest11
      case hy11 =>
        intro w' hSw
        obtain ⟨s0, s1, s2, s3, s4⟩ := hSw
        go_simp
        try with_reducible rfl
      try simp only [Act.put, List.setIfInBounds_toArray, List.set_cons_zero, List.set_cons_succ]
      have HZ1 := Lib.hid z1
      have hz1 : wr.heap.size + 1 ≤ W1.heap.size := by omega
      have hrow0 := hrow
      have hrow1 := PRowX.keep hrow hb1
      have hp3 := hp2.keep hb1
      have hb3 := hb2.keep hb1
      have hB1 := hB.trans (hb1.mono hB.size)
      have HOV := Lib.hid hov
      have HFZ := Lib.hid hfz
      clear z1 hW1 hrow hov hfz e0 e1 e2 e3 hp2 hb2
      refine wpAnyT_ready2 (i := 8) (j := 9) (o := ⟨_, _, _, _, _, _⟩) (o' := ⟨_, _, _, _, _, _⟩) (by kernel_rfl) rfl rfl (fun K hK => ?_) (fun K hK => ?_)
      · go_simp
        go_at_call 116
        refine (S_copyInts _ ps lo _ hp3 (by omega)).mono ?_
        rintro e w2 ⟨pv, rfl, hpc, hx⟩
        have zz := hx.size
        have k0 := cell_later hx k0
        have k1 := cell_later hx k1
        have k2 := cell_later hx k2
        have k3 := cell_later hx k3
        have k4 := cell_later hx k4
        have hS := And.intro k0 (And.intro k1 (And.intro k2 (And.intro k3 k4)))
        refine hK _ _ (fun _ => hS) ?_
        try simp only [Act.put, List.setIfInBounds_toArray, List.set_cons_zero, List.set_cons_succ]
        refine wpAnyT_ready1 (i := 9) (o := ⟨_, _, _, _, _, _⟩) (by kernel_rfl) rfl (fun K hK => ?_)
        go_simp
        have hx2 := al1 (w := w2) (o := .cells #[] 75)
        have k0 := cell_later hx2 k0
        have k1 := cell_later hx2 k1
        have k2 := cell_later hx2 k2
        have k3 := cell_later hx2 k3
        have k4 := cell_later hx2 k4
        have hS := And.intro k0 (And.intro k1 (And.intro k2 (And.intro k3 k4)))
        refine hK _ _ (fun _ => hS) ?_
        try simp only [Act.put, List.setIfInBounds_toArray, List.set_cons_zero, List.set_cons_succ]
        have hst := Stmts.zero (w := w2) (B := w2.heap.size) (lo := w2.heap.size) rfl (Nat.le_refl _)
        have hpc2 := hpc.keep hx2
        have hall := bthen hx hx2
        obtain ⟨E, hE⟩ : ∃ E : Nat, E = w2.heap.size := ⟨_, rfl⟩
        obtain ⟨X, hX⟩ : ∃ X : World, X = w2.alloc (.cells #[] 75) := ⟨_, rfl⟩
        have hEX : W1.heap.size ≤ E ∧ E < X.heap.size := by rw [hE, hX]; simp; omega
        rw [← hX] at k0 k1 k2 k3 k4 hS hst hpc2 hall ⊢
        rw [← hE] at hst ⊢
        clear hX hE hx hx2 hpc zz
        refine wpAnyT_ready1 (i := 12) (o := ⟨_, _, _, _, _, _⟩) (by kernel_rfl) rfl (fun K hK => ?_)
        refine step_append_stmts rfl _ _ rfl _ _ [] body (w.heap.size + 3) rfl rfl (hst.lo_ (by omega)) (hb3.keep hall).feed (by simp; omega) (by omega) ?_
        intro bv w4 hbo hg4 hb4 hf4
        have HROW := Lib.hid (show ∀ r, (Value.slice (some ⟨E, 0, none⟩) 0 0).ownBlock = some r → wr.heap.size < r from fun r hr => by simp only [Value.ownBlock, Option.some.injEq] at hr; omega)
        have k0 := hg4.cell k0 (fun hc => Nat.lt_irrefl _ (HROW.out _ hc.symm))
        have k1 := hg4.cell k1 (fun hc => Nat.lt_irrefl _ (HROW.out _ hc.symm))
        have k2 := hg4.cell k2 (fun hc => Nat.lt_irrefl _ (HROW.out _ hc.symm))
        have k3 := hg4.cell k3 (fun hc => Nat.lt_irrefl _ (HROW.out _ hc.symm))
        have k4 := hg4.cell k4 (fun hc => by have h : wr.heap.size < w.heap.size + 2 := HROW.out _ hc.symm; omega)
        have hS := And.intro k0 (And.intro k1 (And.intro k2 (And.intro k3 k4)))
        have hp4 := Ints.kept hpc2 hg4 (own_types hpc2 hst (by decide))
        have hrow4 := PRowX.past hrow0 (PRowX.keep hrow1 hall) hg4 (fun r hr => Nat.le_of_lt (HROW.out r hr))
        have hB4 := (hB1.trans (hall.mono hB1.size)).grown hg4 (by omega) (fun r hr => by have := HROW.out r hr; omega)
        have hge : ∀ r, bv.ownBlock = some r → wr.heap.size ≤ r := fun r hr => by
          rcases hf4 with e | ⟨gg, e, e'⟩
          · exact Nat.le_of_lt (HROW.out r (e.symm.trans hr))
          · rw [hr] at e; have := Option.some.inj e; omega
        have hz4 : wr.heap.size + 1 ≤ w4.heap.size := by have := hb4.size; omega
        rw [List.nil_append] at hbo
        obtain ⟨A5, C5, rfl⟩ := hbo.form
        obtain ⟨A6, C6, rfl⟩ := hp4.form
        refine hK _ _ (fun _ => hS) ?_
        try simp only [Act.put, List.setIfInBounds_toArray, List.set_cons_zero, List.set_cons_succ]
        refine wpAnyT_take (i := 13) (oi := ⟨_, _, _, _, _, _⟩) (v := ?v13) (by kernel_rfl) (by decide) rfl (by kernel_rfl) (by kernel_rfl) (by kernel_rfl) (fun _ _ _ h => h) (Or.inl ⟨by rfl, ?hy13⟩) hS ?rest13
        case hy13 =>
          intro w' hSw
          obtain ⟨s0, s1, s2, s3, s4⟩ := hSw
          go_simp
          try with_reducible rfl
        try simp only [Act.put, List.setIfInBounds_toArray, List.set_cons_zero, List.set_cons_succ]
        refine wpAnyT_ready1 (i := 14) (o := ⟨_, _, _, _, _, _⟩) (by kernel_rfl) rfl (fun K hK => ?_)
        go_simp
        have hx4 := al1 (w := w4) (o := .cells (bkCells ⟨kind, parent, ps, body⟩ (.slice A6 ps.length C6) (.slice A5 body.length C5)).toArray 59)
        have k0 := cell_later hx4 k0
        have k1 := cell_later hx4 k1
        have k2 := cell_later hx4 k2
        have k3 := cell_later hx4 k3
        have k4 := cell_later hx4 k4
        have hS := And.intro k0 (And.intro k1 (And.intro k2 (And.intro k3 k4)))
        refine hK _ _ (fun _ => hS) ?_
        try simp only [Act.put, List.setIfInBounds_toArray, List.set_cons_zero, List.set_cons_succ]
        refine wpAnyT_ready1 (i := 15) (o := ⟨_, _, _, _, _, _⟩) (by kernel_rfl) rfl (fun K hK => ?_)
        refine step_append_block rfl _ _ rfl ov _ _ _ xs (p.take k) ⟨kind, parent, ps, body⟩ (w.heap.size + 3) (w.heap.size + 3) rfl rfl (PRowX.keep hrow4 hx4) (bk_row rfl (by omega)) ((hp4.lo_ (by omega)).keep hx4) (hbo.keep hx4) (fun i hi => Apart.of_lt (PRowX.full hrow0 hi) hge) (by rw [List.length_take]; omega) (by rw [World.size_alloc]; omega) ?_
        intro nv w5 hrow5 hg5 hb5 _
        have hovb := own_block_ge hrow4.own
        obtain ⟨ovA, ovC, hov5⟩ := PRowX.form hrow4
        have hq : w5.heap[w.heap.size + 2]? = wr.heap[w.heap.size + 2]? := (hg5.block _ (by simp only [World.size_alloc]; omega) (by intro hc; have := hovb _ hc.symm; omega)).trans ((hx4.block _ (by omega)).trans
          ((hg4.block _ (by omega) (fun hc => by have h := HROW.out _ hc.symm; omega)).trans ((hall.block _ (by omega)).trans (hb1.block _ (by omega)))))
        have q1 := (World.cell?_of_block (a := ⟨w.heap.size + 2, 0, none⟩) hq).trans HOV.out
        have q2 := (World.frozen?_of_block (a := ⟨w.heap.size + 2, 0, none⟩) hq).trans (HFZ.out 0)
        have hB5 := (hB4.trans (hx4.mono hB4.size)).grown hg5 (by simp only [World.size_alloc]; omega) (fun r hr => by have := hovb r hr; omega)
        obtain ⟨nA, nC, rfl⟩ := PRowX.form hrow5
        have el : (p.take k ++ [(⟨kind, parent, ps, body⟩ : Bk)]).length = k + 1 := by simp; omega
        rw [el] at hrow5
        have et : p.take k ++ [(⟨kind, parent, ps, body⟩ : Bk)] = p.take (k + 1) := by rw [HK.out, List.take_succ_eq_append_getElem hlt]; simp [List.getD, hlt]
        have hrow6 : PRow w5 _ _ _ (p.take (k + 1)) := et ▸ hrow5
        have hne5 : ∀ hc : some wr.heap.size = ov.ownBlock, False := fun hc => Nat.lt_irrefl _ (own_block_lt hrow0.own _ hc.symm)
        refine hK _ _ (fun h => ⟨hg5.cell k0 hne5, hg5.cell k1 hne5, hg5.cell k2 hne5, hg5.cell k3 hne5, q1⟩) ?_
        try simp only [Act.put, List.setIfInBounds_toArray, List.set_cons_zero, List.set_cons_succ]
        refine wpAnyT_ready1 (i := 16) (o := ⟨_, _, _, _, _, _⟩) (by kernel_rfl) rfl (fun K hK => ?_)
        go_simp
        refine hK _ _ (fun h => absurd h (by decide)) ?_
        try simp only [Act.put, List.setIfInBounds_toArray, List.set_cons_zero, List.set_cons_succ]
        refine wpAnyT_ready1 (i := 17) (o := ⟨_, _, _, _, _, _⟩) (by kernel_rfl) rfl (fun K hK => ?_)
        go_simp
        refine hK _ _ (fun h => absurd h (by decide)) ?_
        try simp only [Act.put, List.setIfInBounds_toArray, List.set_cons_zero, List.set_cons_succ]
        refine wpAnyT_done (by kernel_rfl) ?_ _
        go_wp2
        go_roundw
        case rel => exact ⟨k + 1, _, _, by omega, by go_num, PRowX.only hrow6 ((Only.refl (w.heap.size + 2) (w.heap.size + 3) w5).setCell (Nat.le_refl _) (Nat.lt_succ_self _) _) (Nat.le_refl _), by simp [go_sem, q1]; omega, fun j => by simp [go_sem]; exact (World.frozen?_of_block (a := ⟨w.heap.size + 2, j, none⟩) hq).trans (HFZ.out j), hB5.setCell (by show W0.heap.size ≤ w.heap.size + 2; omega) _, by have h := hb5.size; simp only [World.size_alloc, World.size_setCell] at h ⊢; omega⟩
        case measure => simp [intOf]; omega
      · go_simp
        have hx := al1 (w := W1) (o := .cells #[] 75)
        have k0 := cell_later hx k0
        have k1 := cell_later hx k1
        have k2 := cell_later hx k2
        have k3 := cell_later hx k3
        have k4 := cell_later hx k4
        have hS := And.intro k0 (And.intro k1 (And.intro k2 (And.intro k3 k4)))
        refine hK _ _ (fun _ => hS) ?_
        try simp only [Act.put, List.setIfInBounds_toArray, List.set_cons_zero, List.set_cons_succ]
        refine wpAnyT_ready1 (i := 8) (o := ⟨_, _, _, _, _, _⟩) (by kernel_rfl) rfl (fun K hK => ?_)
        go_simp
        go_at_call 116
        refine (S_copyInts _ ps lo _ (hp3.keep hx) (by omega)).mono ?_
        rintro e w2 ⟨pv, rfl, hpc, hx2⟩
        have zz := hx2.size
        simp only [World.size_alloc] at zz
        have k0 := cell_later hx2 k0
        have k1 := cell_later hx2 k1
        have k2 := cell_later hx2 k2
        have k3 := cell_later hx2 k3
        have k4 := cell_later hx2 k4
        have hS := And.intro k0 (And.intro k1 (And.intro k2 (And.intro k3 k4)))
        refine hK _ _ (fun _ => hS) ?_
        try simp only [Act.put, List.setIfInBounds_toArray, List.set_cons_zero, List.set_cons_succ]
        have hst := (Stmts.zero (w := W1) (B := W1.heap.size) (lo := W1.heap.size) rfl (Nat.le_refl _)).keep hx2
        have hpc2 := hpc.lo_ (lo' := W1.heap.size) (by simp)
        have hall := bthen hx hx2
        obtain ⟨E, hE⟩ : ∃ E : Nat, E = W1.heap.size := ⟨_, rfl⟩
        obtain ⟨X, hX⟩ : ∃ X : World, X = w2 := ⟨_, rfl⟩
        have hEX : W1.heap.size ≤ E ∧ E < X.heap.size := by rw [hE, hX]; omega
        rw [← hX] at k0 k1 k2 k3 k4 hS hst hpc2 hall ⊢
        have hst : Stmts X E (.slice (some ⟨E, 0, none⟩) 0 0) [] := by rw [hE]; exact hst
        rw [← hE]
        clear hX hx hx2 hpc zz
        refine wpAnyT_ready1 (i := 12) (o := ⟨_, _, _, _, _, _⟩) (by kernel_rfl) rfl (fun K hK => ?_)
        refine step_append_stmts rfl _ _ rfl _ _ [] body (w.heap.size + 3) rfl rfl (hst.lo_ (by omega)) (hb3.keep hall).feed (by simp; omega) (by omega) ?_
        intro bv w4 hbo hg4 hb4 hf4
        have HROW := Lib.hid (show ∀ r, (Value.slice (some ⟨E, 0, none⟩) 0 0).ownBlock = some r → wr.heap.size < r from fun r hr => by simp only [Value.ownBlock, Option.some.injEq] at hr; omega)
        have k0 := hg4.cell k0 (fun hc => Nat.lt_irrefl _ (HROW.out _ hc.symm))
        have k1 := hg4.cell k1 (fun hc => Nat.lt_irrefl _ (HROW.out _ hc.symm))
        have k2 := hg4.cell k2 (fun hc => Nat.lt_irrefl _ (HROW.out _ hc.symm))
        have k3 := hg4.cell k3 (fun hc => Nat.lt_irrefl _ (HROW.out _ hc.symm))
        have k4 := hg4.cell k4 (fun hc => by have h : wr.heap.size < w.heap.size + 2 := HROW.out _ hc.symm; omega)
        have hS := And.intro k0 (And.intro k1 (And.intro k2 (And.intro k3 k4)))
        have hp4 := Ints.kept hpc2 hg4 (own_types hpc2 hst (by decide))
        have hrow4 := PRowX.past hrow0 (PRowX.keep hrow1 hall) hg4 (fun r hr => Nat.le_of_lt (HROW.out r hr))
        have hB4 := (hB1.trans (hall.mono hB1.size)).grown hg4 (by omega) (fun r hr => by have := HROW.out r hr; omega)
        have hge : ∀ r, bv.ownBlock = some r → wr.heap.size ≤ r := fun r hr => by
          rcases hf4 with e | ⟨gg, e, e'⟩
          · exact Nat.le_of_lt (HROW.out r (e.symm.trans hr))
          · rw [hr] at e; have := Option.some.inj e; omega
        have hz4 : wr.heap.size + 1 ≤ w4.heap.size := by have := hb4.size; omega
        rw [List.nil_append] at hbo
        obtain ⟨A5, C5, rfl⟩ := hbo.form
        obtain ⟨A6, C6, rfl⟩ := hp4.form
        refine hK _ _ (fun _ => hS) ?_
        try simp only [Act.put, List.setIfInBounds_toArray, List.set_cons_zero, List.set_cons_succ]
        refine wpAnyT_take (i := 13) (oi := ⟨_, _, _, _, _, _⟩) (v := ?w13) (by kernel_rfl) (by decide) rfl (by kernel_rfl) (by kernel_rfl) (by kernel_rfl) (fun _ _ _ h => h) (Or.inl ⟨by rfl, ?hz13⟩) hS ?rost13
        case hz13 =>
          intro w' hSw
          obtain ⟨s0, s1, s2, s3, s4⟩ := hSw
          go_simp
          try with_reducible rfl
        try simp only [Act.put, List.setIfInBounds_toArray, List.set_cons_zero, List.set_cons_succ]
        refine wpAnyT_ready1 (i := 14) (o := ⟨_, _, _, _, _, _⟩) (by kernel_rfl) rfl (fun K hK => ?_)
        go_simp
        have hx4 := al1 (w := w4) (o := .cells (bkCells ⟨kind, parent, ps, body⟩ (.slice A6 ps.length C6) (.slice A5 body.length C5)).toArray 59)
        have k0 := cell_later hx4 k0
        have k1 := cell_later hx4 k1
        have k2 := cell_later hx4 k2
        have k3 := cell_later hx4 k3
        have k4 := cell_later hx4 k4
        have hS := And.intro k0 (And.intro k1 (And.intro k2 (And.intro k3 k4)))
        refine hK _ _ (fun _ => hS) ?_
        try simp only [Act.put, List.setIfInBounds_toArray, List.set_cons_zero, List.set_cons_succ]
        refine wpAnyT_ready1 (i := 15) (o := ⟨_, _, _, _, _, _⟩) (by kernel_rfl) rfl (fun K hK => ?_)
        refine step_append_block rfl _ _ rfl ov _ _ _ xs (p.take k) ⟨kind, parent, ps, body⟩ (w.heap.size + 3) (w.heap.size + 3) rfl rfl (PRowX.keep hrow4 hx4) (bk_row rfl (by omega)) ((hp4.lo_ (by omega)).keep hx4) (hbo.keep hx4) (fun i hi => Apart.of_lt (PRowX.full hrow0 hi) hge) (by rw [List.length_take]; omega) (by rw [World.size_alloc]; omega) ?_
        intro nv w5 hrow5 hg5 hb5 _
        have hovb := own_block_ge hrow4.own
        obtain ⟨ovA, ovC, hov5⟩ := PRowX.form hrow4
        have hq : w5.heap[w.heap.size + 2]? = wr.heap[w.heap.size + 2]? := (hg5.block _ (by simp only [World.size_alloc]; omega) (by intro hc; have := hovb _ hc.symm; omega)).trans ((hx4.block _ (by omega)).trans
          ((hg4.block _ (by omega) (fun hc => by have h := HROW.out _ hc.symm; omega)).trans ((hall.block _ (by omega)).trans (hb1.block _ (by omega)))))
        have q1 := (World.cell?_of_block (a := ⟨w.heap.size + 2, 0, none⟩) hq).trans HOV.out
        have q2 := (World.frozen?_of_block (a := ⟨w.heap.size + 2, 0, none⟩) hq).trans (HFZ.out 0)
        have hB5 := (hB4.trans (hx4.mono hB4.size)).grown hg5 (by simp only [World.size_alloc]; omega) (fun r hr => by have := hovb r hr; omega)
        obtain ⟨nA, nC, rfl⟩ := PRowX.form hrow5
        have el : (p.take k ++ [(⟨kind, parent, ps, body⟩ : Bk)]).length = k + 1 := by simp; omega
        rw [el] at hrow5
        have et : p.take k ++ [(⟨kind, parent, ps, body⟩ : Bk)] = p.take (k + 1) := by rw [HK.out, List.take_succ_eq_append_getElem hlt]; simp [List.getD, hlt]
        have hrow6 : PRow w5 _ _ _ (p.take (k + 1)) := et ▸ hrow5
        have hne5 : ∀ hc : some wr.heap.size = ov.ownBlock, False := fun hc => Nat.lt_irrefl _ (own_block_lt hrow0.own _ hc.symm)
        refine hK _ _ (fun h => ⟨hg5.cell k0 hne5, hg5.cell k1 hne5, hg5.cell k2 hne5, hg5.cell k3 hne5, q1⟩) ?_
        try simp only [Act.put, List.setIfInBounds_toArray, List.set_cons_zero, List.set_cons_succ]
        refine wpAnyT_ready1 (i := 16) (o := ⟨_, _, _, _, _, _⟩) (by kernel_rfl) rfl (fun K hK => ?_)
        go_simp
        refine hK _ _ (fun h => absurd h (by decide)) ?_
        try simp only [Act.put, List.setIfInBounds_toArray, List.set_cons_zero, List.set_cons_succ]
        refine wpAnyT_ready1 (i := 17) (o := ⟨_, _, _, _, _, _⟩) (by kernel_rfl) rfl (fun K hK => ?_)
        go_simp
        refine hK _ _ (fun h => absurd h (by decide)) ?_
        try simp only [Act.put, List.setIfInBounds_toArray, List.set_cons_zero, List.set_cons_succ]
        refine wpAnyT_done (by kernel_rfl) ?_ _
        go_wp2
        go_roundw
        case rel => exact ⟨k + 1, _, _, by omega, by go_num, PRowX.only hrow6 ((Only.refl (w.heap.size + 2) (w.heap.size + 3) w5).setCell (Nat.le_refl _) (Nat.lt_succ_self _) _) (Nat.le_refl _), by simp [go_sem, q1]; omega, fun j => by simp [go_sem]; exact (World.frozen?_of_block (a := ⟨w.heap.size + 2, j, none⟩) hq).trans (HFZ.out j), hB5.setCell (by show W0.heap.size ≤ w.heap.size + 2; omega) _, by have h := hb5.size; simp only [World.size_alloc, World.size_setCell] at h ⊢; omega⟩
        case measure => simp [intOf]; omega
    · obtain rfl : k = p.length := by omega
      obtain ⟨nA, nC, rfl⟩ := PRowX.form hrow
      rw [List.take_length] at hrow
      rw [List.take_length] at hov
      have r1 := fun o => (bcell hB).1 (w.heap.size + 1) o (by omega)
      have m1 := fun o => (bcell hB).2 (w.heap.size + 1) o (by omega)
      rw [HW0.out] at r1 m1
      have cb : wr.cell? ⟨w.heap.size, 0, none⟩ = some (.slice A p.length C) := (hB.cell (p := ⟨w.heap.size, 0, none⟩) (by show w.heap.size < _; omega)).trans c0
      clear hA hg HCELL HBL
      go_wp2
      exact bodyPost_ret (v := .agg #[.slice nA p.length nC]) (by simp [results, Try.results105, go_sem, r1]) rfl
        ⟨_, xs, rfl, (PRowX.only hrow ((Only.refl (w.heap.size + 1) (w.heap.size + 2) wr).setCell (Nat.le_refl _) (Nat.lt_succ_self _) _) (by omega)).lo_ (by omega), (HB0.out.trans (hB.mono (by omega))).setCell (by show w.heap.size ≤ w.heap.size + 1; omega) _⟩

end Go.Proofs.Ytelhemhbgpfokaa

namespace Go.Proofs.Ytelhemhbgpfokaa
open Go.RowKit
set_option linter.unusedVariables false

/-- A block without its declarations. -/
def bareB (k : Bk) : Bk := { k with body := k.body.filter fun s => !s.decl }
def bareP (p : Pr) : Pr := p.map bareB
def outTo (p : Pr) (k : Nat) : Pr := (p.take k).map bareB ++ p.drop k
def keepTo (l : List St) (j : Nat) : List St := (l.take j).filter fun s => !s.decl
theorem keepTo_yes (l : List St) (j : Nat) (h : j < l.length) (hf : (l.getD j default).decl = false) : keepTo l (j + 1) = keepTo l j ++ [l.getD j default] := by
  have e : l.getD j default = l[j] := by simp [List.getD, h]
  rw [e] at hf ⊢
  unfold keepTo
  rw [List.take_succ_eq_append_getElem h, List.filter_append]
  simp [hf]
theorem keepTo_no (l : List St) (j : Nat) (h : j < l.length) (hf : (l.getD j default).decl = true) : keepTo l (j + 1) = keepTo l j := by
  have e : l.getD j default = l[j] := by simp [List.getD, h]
  rw [e] at hf
  unfold keepTo
  rw [List.take_succ_eq_append_getElem h, List.filter_append]
  simp [hf]
theorem keepTo_len (l : List St) (j : Nat) : (keepTo l j).length ≤ j := by
  unfold keepTo
  have h1 := List.length_filter_le (fun s : St => !s.decl) (l.take j)
  rw [List.length_take] at h1
  omega
theorem outTo_len (p : Pr) (k : Nat) : (outTo p k).length = p.length := by
  unfold outTo
  rw [List.length_append, List.length_map, List.length_take, List.length_drop]
  omega
theorem outTo_at (p : Pr) (k : Nat) (h : k < p.length) : (outTo p k).getD k default = p.getD k default := by
  unfold outTo
  have e : ((p.take k).map bareB).length = k := by rw [List.length_map, List.length_take]; omega
  rw [List.getD, List.getElem?_append_right (by omega), e, Nat.sub_self, List.getElem?_drop, Nat.add_zero]
  rfl
theorem outTo_succ (p : Pr) (k : Nat) (h : k < p.length) : (outTo p k).set k { (outTo p k).getD k default with body := keepTo (p.getD k default).body (p.getD k default).body.length } = outTo p (k + 1) := by
  rw [outTo_at p k h]
  have e1 : keepTo (p.getD k default).body (p.getD k default).body.length = (bareB (p.getD k default)).body := by unfold keepTo bareB; rw [List.take_length]
  have e0 : p.getD k default = p[k] := by simp [List.getD, h]
  have e2 : ({ p.getD k default with body := keepTo (p.getD k default).body (p.getD k default).body.length } : Bk) = bareB (p.getD k default) := by rw [e1]; rfl
  rw [e2, e0]
  unfold outTo
  have e : ((p.take k).map bareB).length = k := by rw [List.length_map, List.length_take]; omega
  rw [List.set_append, if_neg (by omega), e, Nat.sub_self, List.drop_eq_getElem_cons h, List.set_cons_zero, List.take_succ_eq_append_getElem h, List.map_append, List.append_assoc]
  rfl
theorem outTo_zero (p : Pr) : outTo p 0 = p := by simp [outTo]
theorem outTo_all (p : Pr) : outTo p p.length = bareP p := by simp [outTo, bareP]

set_option maxRecDepth 100000 in
set_option maxHeartbeats 8000000 in
theorem S_bare (v : Value) (p : Pr) (lo : Nat) (w : World) (hv : Prog w lo v p) (hl : p.length ≤ 1000) (hbl : ∀ b, b < p.length → (p.getD b default).body.length ≤ 1000 ∧ (p.getD b default).params.length ≤ 1000) :
    Calls Try.prog 72 #[v] w fun e w' => ∃ sl xs, e = .returned (.agg #[sl]) ∧ PRow w' w.heap.size sl xs (bareP p) ∧ Below w.heap.size w w' := by
  obtain ⟨sl, rfl, hv⟩ := hv
  have HV := Lib.hid hv
  have HBL := Lib.hid hbl
  obtain ⟨A, C, rfl⟩ := hv.form
  clear hv hbl
  go_enter Try.func72, Try.ntmps72
  go_wp2_with fail
  obtain ⟨W0, hW0⟩ : ∃ W0 : World, W0 = ((w.alloc (.cells #[.slice A p.length C] 25)).alloc (.cells #[.slice none 0 0] 25)) := ⟨_, rfl⟩
  have hb0 : Below w.heap.size w W0 := by rw [hW0]; exact al2
  have z0 : w.heap.size + 2 ≤ W0.heap.size := by rw [hW0]; simp
  have c0 : W0.cell? ⟨w.heap.size, 0, none⟩ = some (.slice A p.length C) := by rw [hW0]; simp [go_sem]
  rw [← hW0]
  have HW0 := Lib.hid hW0
  refine (S_copyProgram _ p lo _ ⟨_, rfl, HV.out.keep hb0⟩ hl HBL.out).mono ?_
  rintro e w1 ⟨sl1, xs1, rfl, hrow1, hb1⟩
  obtain ⟨oA, oC, rfl⟩ := PRowX.form hrow1
  have hb01 := bthen hb0 hb1
  have c1 := cell_later hb1 c0
  have z1 : w.heap.size + 2 ≤ w1.heap.size := Nat.le_trans z0 hb1.size
  have r1 : ∀ o, w1.cell? ⟨w.heap.size + 1, o, none⟩ = W0.cell? ⟨w.heap.size + 1, o, none⟩ := fun o => (bcell hb1).1 (w.heap.size + 1) o (by omega)
  have m1 : ∀ o, w1.frozen? ⟨w.heap.size + 1, o, none⟩ = W0.frozen? ⟨w.heap.size + 1, o, none⟩ := fun o => (bcell hb1).2 (w.heap.size + 1) o (by omega)
  rw [HW0.out] at r1 m1
  have R1 := Lib.hid r1
  have M1 := Lib.hid m1
  have HB01 := Lib.hid hb01
  have hrow1 := hrow1.lo_ (lo' := w.heap.size + 2) z0
  have HROW1 := Lib.hid hrow1
  clear hW0 hb1 c0 r1 m1 hb01
  go_wp2
  obtain ⟨W2, hW2⟩ : ∃ W2 : World, W2 = w1.alloc (.cells #[.slice oA p.length oC] 25) := ⟨_, rfl⟩
  have hb2 : Below w1.heap.size w1 W2 := by rw [hW2]; exact al1
  have c2 : W2.cell? ⟨w1.heap.size, 0, none⟩ = some (.slice oA p.length oC) := by rw [hW2]; simp [go_sem]
  have z2 : w1.heap.size < W2.heap.size := by rw [hW2]; simp
  have c1 := cell_later hb2 c1
  have hrow2 := PRowX.keep hrow1 hb2
  rw [← hW2]
  clear hW2 hrow1
  go_loopw [4] (fun i wr => ∃ (k : Nat) (xs : List Value), k ≤ p.length ∧ i = .int .i64 k ∧ PRow wr (w.heap.size + 2) (.slice oA p.length oC) xs (outTo p k) ∧ wr.cell? ⟨w1.heap.size, 0, none⟩ = some (.slice oA p.length oC) ∧ wr.cell? ⟨w.heap.size, 0, none⟩ = some (.slice A p.length C) ∧ Below (w.heap.size + 2) w1 wr) (fun i _ => p.length - (intOf i).toNat)
  case atStart => exact ⟨0, xs1, Nat.zero_le _, rfl, by rw [outTo_zero]; exact hrow2, c2, c1, hb2.mono z1⟩
  case round =>
    clear c1 c2 hrow2
    obtain ⟨k, xs, hk, rfl, hrow, co, cp, hB⟩ := hrel
    by_cases hlt : k < p.length
    · obtain ⟨og, oC', eo, _, _, hog1, hog2, _, _⟩ := PRowX.rd HROW1.out (by omega)
      simp only [Value.slice.injEq] at eo
      obtain ⟨rfl, _, rfl⟩ := eo
      have hBw : Below w.heap.size w wr := HB01.out.trans (hB.mono (by omega))
      obtain ⟨A', C', g, e, hn, hc, hA, hg, hcell, _⟩ := (HV.out.keep hBw).rd
      simp only [Value.slice.injEq] at e
      obtain ⟨rfl, _, rfl⟩ := e
      obtain rfl := hA (by omega)
      have hgl := (hg (by omega)).2
      have hgl0 : g < w.heap.size := by
        obtain ⟨_, _, g', e', _, _, hA', hg', _⟩ := HV.out.rd
        have h1 := hA' (by omega)
        simp only [Value.slice.injEq] at e'
        have h2 := (hg' (by omega)).2
        rw [h1] at e'
        simp only [Option.some.injEq, Addr.mk.injEq, and_true] at e'
        omega
      obtain ⟨pv, bv, d0, d1, d2, d3, hp, hb⟩ := hcell k hlt
      obtain ⟨hbl1, hbl2⟩ := HBL.out k hlt
      obtain ⟨A3, C3, g3, e3, hn3, hc3, hA3, hg3, hst, _⟩ := hb.rd
      have hto := outTo_succ p k hlt
      have HTO := Lib.hid hto
      have HST := Lib.hid hst
      generalize (p.getD k default).body = body at *
      subst e3
      unfold maxLen at hc hc3
      have hi0 : (0 : Int) ≤ (k : Int) := by omega
      have hi1 : (k : Int) < (p.length : Int) := by omega
      have HROW := Lib.hid hrow
      clear hA hg hcell hb hto hst d0 d1 d2 hp hrow
      obtain ⟨wo, hwo⟩ : ∃ wo : World, wo = wr := ⟨_, rfl⟩
      subst hwo
      go_wp2
      go_loopw [5, 6] (fun q i wi => ∃ (j : Nat), j ≤ body.length ∧ i = .int .i64 j ∧ Stmts wi wo.heap.size q (keepTo body j) ∧ Below wo.heap.size wo wi) (fun _ i _ => body.length - (intOf i).toNat)
      case atStart => exact ⟨0, Nat.zero_le _, rfl, Stmts.zero rfl (Nat.le_refl _), al1⟩
      case round =>
        obtain ⟨j, hj, rfl, hq, hBi⟩ := hrel
        have cpi := cell_later hBi cp
        have coi := cell_later hBi co
        have d3i := cell_later hBi d3
        by_cases hjl : j < body.length
        · obtain ⟨s0, s1, s2, s3⟩ := HST.out j hjl
          have hg3l := (hg3 (by omega)).2
          have s0 := cell_later hBi s0
          have s1 := cell_later hBi s1
          have s2 := cell_later hBi s2
          have s3 := cell_later hBi s3
          obtain rfl := hA3 (by omega)
          have hj0 : (0 : Int) ≤ (j : Int) := by omega
          have hj1 : (j : Int) < (body.length : Int) := by omega
          obtain ⟨s, hs⟩ : ∃ s : St, s = body.getD j default := ⟨_, rfl⟩
          have hy := keepTo_yes body j hjl
          have hno := keepTo_no body j hjl
          rw [← hs] at s0 s1 s2 s3 hy hno
          obtain ⟨sk, st, sa, sb⟩ := s
          have HQ := Lib.hid hq
          have hlen := keepTo_len body j
          clear hs hA3 hg3 hq
          cases hd : (⟨sk, st, sa, sb⟩ : St).decl
          · have hy := hy hd
            unfold St.decl at hd
            rw [decide_eq_false_iff_not] at hd
            have n9 : (sk != 9) = true := by rw [bne_iff_ne]; intro h; exact hd (.inl h)
            have n10 : (sk != 10) = true := by rw [bne_iff_ne]; intro h; exact hd (.inr h)
            have HY := Lib.hid hy
            clear hy hno hd
            go_wp2_with (at_builtin; refine wpList_append_stmts rfl _ _ rfl _ _ _ [⟨sk, st, sa, sb⟩] wo.heap.size rfl rfl ((HQ.out.keep al1).keep al1) (Stmts.feed (Stmts.one (lo := 0) (B := wr.heap.size + 1) (by simp only [World.size_alloc]) (Nat.zero_le _) sk st sa sb)) (by simp only [List.length_cons, List.length_nil]; omega) (by have := hBi.size; simp only [World.size_alloc]; omega) ?_; intro q' w5 hq5 hg5 hb5 hf5)
            go_roundw
            case rel => exact ⟨j + 1, by omega, by go_num, by rw [HY.out]; exact hq5, ((hBi.alloc hBi.size _).alloc (by have := hBi.size; simp only [World.size_alloc]; omega) _).grown hg5 (by have := hBi.size; simp only [World.size_alloc]; omega) (fun r hr => own_block_ge HQ.out r hr)⟩
            case measure => simp [intOf]; omega
          · have hno := hno hd
            unfold St.decl at hd
            rw [decide_eq_true_iff] at hd
            have HNO := Lib.hid hno
            clear hy hno
            rcases hd with hd | hd
            · have hd : sk = 9 := hd
              subst hd
              go_wp2
              go_roundw
              case rel => exact ⟨j + 1, by omega, by go_num, by rw [HNO.out]; exact HQ.out.keep al1, hBi.alloc hBi.size _⟩
              case measure => simp [intOf]; omega
            · have hd : sk = 10 := hd
              subst hd
              go_wp2
              go_roundw
              case rel => exact ⟨j + 1, by omega, by go_num, by rw [HNO.out]; exact HQ.out.keep al1, hBi.alloc hBi.size _⟩
              case measure => simp [intOf]; omega
        · obtain rfl : j = body.length := by omega
          obtain ⟨A5, C5, rfl⟩ := hq.form
          have hrowi := PRowX.keep HROW.out hBi
          obtain ⟨og2, oC2, eo, _, _, _, hog3, hoc, hof⟩ := PRowX.rd hrowi (by rw [outTo_len]; omega)
          simp only [Value.slice.injEq, Option.some.injEq, Addr.mk.injEq, and_true] at eo
          obtain ⟨rfl, _, rfl⟩ := eo
          have o3 := hoc (k * 4 + 3) (by rw [outTo_len]; omega)
          have f3 := hof (k * 4 + 3)
          have HRI := Lib.hid hrowi
          have HQ := Lib.hid hq
          have HBI := Lib.hid hBi
          have hne : og ≠ w1.heap.size := by omega
          have hne2 : og ≠ w.heap.size := by omega
          clear hoc hof hrowi hq
          go_wp2
          go_roundw
          case rel =>
            have hU := HQ.out
            refine ⟨k + 1, xs.set (k * 4 + 3) (.slice A5 (keepTo body body.length).length C5), by omega, by go_num, ?_, by simp [go_sem, coi]; try omega, by simp [go_sem, cpi]; try omega, (hB.trans (HBI.out.mono (by have := hB.size; omega))).setCell (by show w.heap.size + 2 ≤ og; omega) _⟩
            rw [← HTO.out]
            exact PRowX.setBody (PRowX.part HRI.out k) (by rw [outTo_len]; omega) (hU.lo_ (by have := hB.size; omega)) (fun i hi _ => Apart.of_lt (PRowX.full HROW.out hi) (own_block_ge hU))
          case measure => simp [intOf]; omega
    · obtain rfl : k = p.length := by omega
      rw [outTo_all] at hrow
      have r1 : ∀ o, wr.cell? ⟨w.heap.size + 1, o, none⟩ = w1.cell? ⟨w.heap.size + 1, o, none⟩ := fun o => (bcell hB).1 (w.heap.size + 1) o (by omega)
      have m1 : ∀ o, wr.frozen? ⟨w.heap.size + 1, o, none⟩ = w1.frozen? ⟨w.heap.size + 1, o, none⟩ := fun o => (bcell hB).2 (w.heap.size + 1) o (by omega)
      have r2 : ∀ o, wr.cell? ⟨w.heap.size + 1, o, none⟩ = _ := fun o => (r1 o).trans (R1.out o)
      have m2 : ∀ o, wr.frozen? ⟨w.heap.size + 1, o, none⟩ = _ := fun o => (m1 o).trans (M1.out o)
      clear r1 m1
      go_wp2
      exact bodyPost_ret (v := .agg #[.slice oA p.length oC]) (by simp [results, Try.results72, go_sem, r2]) rfl
        ⟨_, xs, rfl, (PRowX.only hrow ((Only.refl (w.heap.size + 1) (w.heap.size + 2) wr).setCell (Nat.le_refl _) (Nat.lt_succ_self _) _) (Nat.le_refl _)).lo_ (by omega), (HB01.out.trans (hB.mono (by omega))).setCell (by show w.heap.size ≤ w.heap.size + 1; omega) _⟩

end Go.Proofs.Ytelhemhbgpfokaa

namespace Go.Proofs.Ytelhemhbgpfokaa
open Go.RowKit
set_option linter.unusedVariables false

/-- What a drawn program is like ahead of its last turn. -/
structure Tame (p : Pr) : Prop where
  len : 1 ≤ p.length
  body : ∀ i, i < p.length → 1 ≤ (p.getD i default).body.length ∧ (p.getD i default).body.length ≤ 12
  params : ∀ i, i < p.length → (p.getD i default).params.length ≤ 1
  par0 : (p.getD 0 default).parent = -1
  par : ∀ i, 0 < i → i < p.length → 0 ≤ (p.getD i default).parent ∧ (p.getD i default).parent < i
  tos : ∀ i, i < p.length → ∀ s ∈ (p.getD i default).body, 0 ≤ s.to ∧ s.to ≤ 7
theorem Tame.one {K : Bk} (h1 : 1 ≤ K.body.length) (h2 : K.body.length ≤ 12) (h3 : K.params.length ≤ 1) (h4 : K.parent = -1) (h5 : ∀ s ∈ K.body, 0 ≤ s.to ∧ s.to ≤ 7) : Tame [K] := by
  refine ⟨by simp, fun i hi => ?_, fun i hi => ?_, h4, fun i h0 hi => absurd hi (by simp; omega), fun i hi => ?_⟩
  all_goals
    obtain rfl : i = 0 := by simpa using hi
    first | exact ⟨h1, h2⟩ | exact h3 | exact h5
theorem Tame.setBody {p : Pr} (h : Tame p) {k : Nat} (hk : k < p.length) {l : List St} (h1 : 1 ≤ l.length) (h2 : l.length ≤ 12) (h5 : ∀ s ∈ l, 0 ≤ s.to ∧ s.to ≤ 7) : Tame (p.set k { p.getD k default with body := l }) := by
  have e : ∀ i, i < p.length → (p.set k { p.getD k default with body := l }).getD i default = if i = k then { p.getD k default with body := l } else p.getD i default := fun i hi => by
    by_cases e : i = k
    · subst e; rw [if_pos rfl, getD_set_eq _ _ _ _ hk]
    · rw [if_neg e, getD_set_ne _ _ _ _ _ e]
  refine ⟨by rw [List.length_set]; exact h.len, fun i hi => ?_, fun i hi => ?_, ?_, fun i h0 hi => ?_, fun i hi => ?_⟩
  · rw [List.length_set] at hi; rw [e i hi]; split; exact ⟨h1, h2⟩; exact h.body i hi
  · rw [List.length_set] at hi; rw [e i hi]; split; exact h.params k hk; exact h.params i hi
  · rw [e 0 h.len]
    by_cases q : 0 = k
    · subst q; rw [if_pos rfl]; exact h.par0
    · rw [if_neg q]; exact h.par0
  · rw [List.length_set] at hi
    rw [e i hi]
    by_cases q : i = k
    · subst q; rw [if_pos rfl]; exact h.par i h0 hi
    · rw [if_neg q]; exact h.par i h0 hi
  · rw [List.length_set] at hi; rw [e i hi]; split; exact h5; exact h.tos i hi
theorem Tame.add {p : Pr} (h : Tame p) {K : Bk} (h1 : 1 ≤ K.body.length) (h2 : K.body.length ≤ 12) (h3 : K.params.length ≤ 1) (h4 : 0 ≤ K.parent) (h4' : K.parent < p.length) (h5 : ∀ s ∈ K.body, 0 ≤ s.to ∧ s.to ≤ 7) : Tame (p ++ [K]) := by
  have e : ∀ i, i < (p ++ [K]).length → (i < p.length ∧ (p ++ [K]).getD i default = p.getD i default) ∨ (i = p.length ∧ (p ++ [K]).getD i default = K) := fun i hi => by
    rw [List.length_append] at hi
    by_cases q : i < p.length
    · exact .inl ⟨q, by simp [List.getD, List.getElem?_append_left q]⟩
    · obtain rfl : i = p.length := by simp at hi; omega
      exact .inr ⟨rfl, by simp [List.getD]⟩
  have hl := h.len
  refine ⟨by rw [List.length_append]; omega, fun i hi => ?_, fun i hi => ?_, ?_, fun i h0 hi => ?_, fun i hi => ?_⟩
  · rcases e i hi with ⟨q, r⟩ | ⟨q, r⟩ <;> rw [r]; exact h.body i q; exact ⟨h1, h2⟩
  · rcases e i hi with ⟨q, r⟩ | ⟨q, r⟩ <;> rw [r]; exact h.params i q; exact h3
  · rcases e 0 (by rw [List.length_append]; omega) with ⟨q, r⟩ | ⟨q, r⟩ <;> rw [r]; exact h.par0; omega
  · rcases e i hi with ⟨q, r⟩ | ⟨q, r⟩ <;> rw [r]; exact h.par i h0 q; exact ⟨h4, by omega⟩
  · rcases e i hi with ⟨q, r⟩ | ⟨q, r⟩ <;> rw [r]; exact h.tos i q; exact h5

theorem grown_set (w : World) (B j : Nat) (u : Value) : w.grownBy (w.setCell ⟨B, j, none⟩ u) (some B) :=
  ⟨rfl, rfl, rfl, by simp [World.setCell], fun k _ hne => Below.heap_setCell _ _ _ _ (fun e => hne (by rw [e]))⟩
/-- A variable that holds a program: one cell. -/
def BoxP (w : World) (B : Nat) (u : Value) : Prop := w.heap[B]? = some (.cells #[u] 25 (0, 0))
theorem BoxP.ne {w : World} {B : Nat} {u V : Value} {lo e size n : Nat} {ys : List Value} (h : BoxP w B u) (hV : w.ownsRow lo e size V n ys) (he : e ≠ 25) : V.ownBlock = none ∨ V.ownBlock ≠ some B := by
  rcases hV.2 with ⟨rfl, _⟩ | ⟨g, cap, cur, rfl, hg, hh, _⟩
  · exact .inl rfl
  · right
    intro hc
    have e0 : g = B := by simpa [Value.ownBlock] using hc
    subst e0
    unfold BoxP at h
    rw [h] at hh
    simp at hh
    exact he hh.2.symm
theorem BoxP.set {w : World} {B : Nat} {u : Value} (h : BoxP w B u) (u' : Value) : BoxP (w.setCell ⟨B, 0, none⟩ u') B u' := by
  unfold BoxP at h ⊢
  have hlt := (Array.getElem?_eq_some_iff.1 h).1
  simp only [World.setCell, Array.getElem?_modify, if_pos, h]
  rfl
theorem BoxP.rows {w : World} {B lo k : Nat} {u v : Value} {xs : List Value} {p : Pr} (h : PRowX w lo v xs p k) (hb : BoxP w B u) (u' : Value) : PRowX (w.setCell ⟨B, 0, none⟩ u') lo v xs p k := by
  have hg := grown_set w B 0 u'
  exact ⟨World.ownsRow.kept h.own hg (hb.ne h.own (by decide)), h.head, fun i hi => Ints.kept (h.pars i hi) hg (hb.ne (h.pars i hi) (by decide)), fun i hi hk => Stmts.kept (h.body i hi hk) hg (hb.ne (h.body i hi hk) (by decide)), h.apart⟩
theorem BoxP.only {w w' : World} {B a b : Nat} {u : Value} (h : BoxP w B u) (ho : Only a b w w') (hB : B < a ∨ b ≤ B) : BoxP w' B u := (ho.block B (lt_of_block h) hB).trans h
theorem BoxP.below {w w' : World} {B C : Nat} {u : Value} (h : BoxP w B u) (hb : Below C w w') (hB : B < C) : BoxP w' B u := (hb.block B hB).trans h
theorem BoxP.grown {w w' : World} {B : Nat} {u : Value} {row : Option Nat} (h : BoxP w B u) (hg : w.grownBy w' row) (hB : some B ≠ row) : BoxP w' B u := (hg.block B (lt_of_block h) hB).trans h
theorem BoxP.other {w : World} {B : Nat} {u : Value} (h : BoxP w B u) (a : Addr) (x : Value) (hB : B ≠ a.block) : BoxP (w.setCell a x) B u := (Below.heap_setCell _ _ _ _ hB).trans h
theorem BoxP.cell {w : World} {B : Nat} {u : Value} (h : BoxP w B u) : w.cell? ⟨B, 0, none⟩ = some u := by
  unfold BoxP at h
  simp [World.cell?, h]
theorem BoxP.new {w : World} {B : Nat} (hB : w.heap.size = B) (u : Value) : BoxP (w.alloc (.cells #[u] 25)) B u := by
  subst hB
  exact heap_alloc_new w _
theorem FeedS.none {w : World} {v : Value} {l : List St} (hl : l = []) (hv : ∃ ad c, v = .slice (some ad) 0 c) : FeedS w v l := by
  subst hl
  obtain ⟨ad, c, rfl⟩ := hv
  exact ⟨rfl, .inr ⟨ad, c, rfl, fun j u hu => by simp [stCells] at hu⟩⟩
theorem lt_of_own {w : World} {lo : Nat} {e : TypeId} {size n B : Nat} {v : Value} {xs : List Value} (h : w.ownsRow lo e size v n xs) (hB : w.heap.size ≤ B) : ∀ g, v.ownBlock = some g → g < B := fun g hg => Nat.lt_of_lt_of_le (own_block_lt h g hg) hB
theorem PRowX.pastB {w0 w w' : World} {lo k B : Nat} {v : Value} {xs : List Value} {p : Pr} (h0 : PRowX w0 lo v xs p k) (h : PRowX w lo v xs p k) (hb : Below B w w') (hB : w0.heap.size ≤ B) : PRowX w' lo v xs p k :=
  ⟨own_keepB h.own hb (lt_of_own h0.own hB), h.head, fun i hi => own_keepB (h.pars i hi) hb (lt_of_own (h0.pars i hi) hB), fun i hi hk => own_keepB (h.body i hi hk) hb (lt_of_own (h0.body i hi hk) hB), h.apart⟩
theorem Stmts.pastB {w0 w w' : World} {lo B : Nat} {v : Value} {l : List St} (h0 : Stmts w0 lo v l) (h : Stmts w lo v l) (hb : Below B w w') (hB : w0.heap.size ≤ B) : Stmts w' lo v l := own_keepB h hb (lt_of_own h0 hB)
theorem Ints.pastB {w0 w w' : World} {lo B : Nat} {v : Value} {l : List Int} (h0 : Ints w0 lo v l) (h : Ints w lo v l) (hb : Below B w w') (hB : w0.heap.size ≤ B) : Ints w' lo v l := own_keepB h hb (lt_of_own h0 hB)

set_option maxRecDepth 100000 in
set_option maxHeartbeats 16000000 in
theorem S_shapedProgram (g m : Nat) (w : World) (h : Rdr w g m) (hm : m ≤ 700000) :
    Calls Try.prog 60 #[.pointer (some ⟨g, 0, none⟩)] w fun e w' => ∃ (sl : Value) (xs : List Value) (p : Pr), e = .returned (.agg #[sl]) ∧ PRow w' w.heap.size sl xs p ∧ Tame p ∧ p.length ≤ 6 ∧ Rdr w' g (m + 500) ∧ Only g (g + 1) w w' := by
  have hgl : g < w.heap.size := h.lt
  have hr := h.keep (al1 (o := (.cells #[.slice none 0 0] 25)))
  have hcur := Only.refl g (g + 1) (w.alloc (.cells #[.slice none 0 0] 25))
  clear h
  go_enter Try.func60, Try.ntmps60
  go_wp2_with fail
  refine (S_someBlock g _ 0 (-1) _ hr (by omega)).mono ?_
  rintro e w1 ⟨K0, pv0, bv0, rfl, hK1, hK2, hK3, hK4, hK5, hK6, hpv, hbv, hr, ho⟩
  have hcur := hcur.trans ho
  have hT : Tame [K0] := Tame.one hK4 (by omega) hK3 hK2 hK6
  have hsz1 : w.heap.size + 1 ≤ w1.heap.size := by have := ho.size; simpa using this
  obtain ⟨A2, C2, rfl⟩ := hpv.form
  obtain ⟨A3, C3, rfl⟩ := hbv.form
  simp only [World.size_alloc] at hpv hbv
  have hrow := PRowX.lit (w := w1) (B := w1.heap.size) (lo := w.heap.size + 1) rfl hsz1 hpv hbv
  have hrow := PRowX.keep hrow (al1 (o := .cells #[.slice (some ⟨w1.heap.size, 0, none⟩) 1 1] 25))
  have hcur := (hcur.alloc (.cells (bkCells K0 (.slice A2 K0.params.length C2) (.slice A3 K0.body.length C3)).toArray 59)).alloc (.cells #[.slice (some ⟨w1.heap.size, 0, none⟩) 1 1] 25)
  have hr := (hr.keep (al1 (o := .cells (bkCells K0 (.slice A2 K0.params.length C2) (.slice A3 K0.body.length C3)).toArray 59))).keep (al1 (o := .cells #[.slice (some ⟨w1.heap.size, 0, none⟩) 1 1] 25))
  clear ho hK1 hK2 hK3 hK4 hK5 hK6 hpv hbv
  go_wp2_with fail
  obtain ⟨W2, hW2⟩ : ∃ W2 : World, W2 = (w1.alloc (.cells #[.int .i64 K0.kind, .int .i64 K0.parent, .slice A2 K0.params.length C2, .slice A3 K0.body.length C3] 59)).alloc (.cells #[.slice (some ⟨w1.heap.size, 0, none⟩) 1 1] 25) := ⟨_, rfl⟩
  have cP : W2.cell? ⟨w1.heap.size + 1, 0, none⟩ = some (.slice (some ⟨w1.heap.size, 0, none⟩) 1 1) := by rw [hW2]; simp [go_sem]
  have bP : BoxP W2 (w1.heap.size + 1) (.slice (some ⟨w1.heap.size, 0, none⟩) 1 1) := by rw [hW2]; exact BoxP.new (by simp) _
  have fP : ∀ j, W2.frozen? ⟨w1.heap.size + 1, j, none⟩ = false := fun j => by rw [hW2]; simp [go_sem]
  have zP : w1.heap.size + 1 < W2.heap.size := by rw [hW2]; simp
  have HZ2 : Hid (W2.heap.size = w1.heap.size + 1 + 1) := Lib.hid (by rw [hW2]; simp)
  have hrow : PRow W2 (w.heap.size + 1) (.slice (some ⟨w1.heap.size, 0, none⟩) 1 1) (bkCells K0 (.slice A2 K0.params.length C2) (.slice A3 K0.body.length C3)) [K0] := by rw [hW2]; exact hrow
  have hcur : Only g (g + 1) (w.alloc (.cells #[.slice none 0 0] 25)) W2 := by rw [hW2]; exact hcur
  have hr : Rdr W2 g (m + 60) := by rw [hW2]; exact hr
  rw [← hW2]
  clear hW2
  refine (S_oneL g _ [3, 2, 4, 1, 5, 0] _ (w1.heap.size + 1 + 1) HZ2.out hr (by omega) (by simp) (by simp)).mono ?_
  rintro e w3 ⟨N, rfl, hN, hr, ho⟩
  have hN2 : 0 ≤ N ∧ N ≤ 5 := by simp at hN; omega
  have cP := cell_only ho cP (by omega)
  have bP := bP.only ho (by omega)
  have fP : ∀ j, w3.frozen? ⟨w1.heap.size + 1, j, none⟩ = false := fun j => ((ocell ho).2 _ j (by omega) zP).trans (fP j)
  have hrow := PRowX.only hrow ho (by omega)
  have hcur := hcur.trans ho
  have zP := Nat.lt_of_lt_of_le zP ho.size
  obtain ⟨PB, hPB⟩ : ∃ PB : Nat, PB = w1.heap.size + 1 := ⟨_, rfl⟩
  have hPB1 : w.heap.size + 1 < PB := by omega
  have hne : (Value.slice (some ⟨w1.heap.size, 0, none⟩) 1 1).ownBlock ≠ some PB := by simp [Value.ownBlock]; omega
  rw [← hPB] at cP bP fP zP
  clear hN ho
  go_wp2
  rw [← hPB]
  clear hPB hsz1
  go_loopw [4] (fun i wr => ∃ (r : Nat) (pv : Value) (xs : List Value) (p : Pr), i = .int .i64 r ∧ p.length + r ≤ 6 ∧ Tame p ∧ PRow wr (w.heap.size + 1) pv xs p ∧ BoxP wr PB pv ∧ (∀ j, wr.frozen? ⟨PB, j, none⟩ = false) ∧ PB < wr.heap.size ∧ pv.ownBlock ≠ some PB ∧ Rdr wr g (m + 61 + 80 * (5 - r)) ∧ Only g (g + 1) (w.alloc (.cells #[.slice none 0 0] 25)) wr) (fun i _ => (intOf i).toNat)
  case atStart => exact ⟨N.toNat, _, _, _, by rw [Int.toNat_of_nonneg hN2.1], by simp; omega, hT, hrow, bP, fP, zP, hne, hr.mono (by omega), hcur⟩
  case round =>
    clear hT hrow cP bP fP zP hne hr hcur hN2
    obtain ⟨r, pv, xs, p, rfl, hlr, hT, hrow, bP, fP, zP, hne, hr, hcur⟩ := hrel
    have cP := bP.cell
    have HBP := Lib.hid bP
    clear bP
    have hp1 := hT.len
    by_cases hlt : 0 < r
    · obtain ⟨ga, Cp, rfl, _, hCp, hga1, hga2, _, _⟩ := PRowX.rd hrow hp1
      have HT := Lib.hid hT
      have HF := Lib.hid fP
      unfold maxLen at hCp
      have hwr : IntKind.i64.wrap ((p.length : Int) - 1) = (p.length : Int) - 1 := IntWalk.i64_in _ (by omega)
      have hrow := PRowX.keep hrow (below0 wr).drew
      have hr := hr.drew
      have hcur := hcur.drew
      have hcw := Only.refl g (g + 1) wr.drew
      clear hT fP
      go_wp2
      go_region_held3 (fun w' => w'.cell? ⟨PB, 0, none⟩ = some (.slice (some ⟨ga, 0, none⟩) p.length Cp))
        (first | go_keep | exact cP)
        (first
          | (go_at_call 59
             refine (S_pick g _ _ _ hr (by omega)).mono ?_
             rintro e wa ⟨y, rfl, y0, y1, hr, ho, hsz⟩
             clear hsz
             have cP := cell_only ho cP (by omega)
             have hrow := PRowX.only hrow ho (by omega)
             have hcur := hcur.trans ho
             have hcw := hcw.trans ho
             have HO1 := Lib.hid ho)
          | (go_at_call 81
             refine (S_oneL g _ [(p.length : Int) - 1, y] _ _ rfl hr (by omega) (by simp) (by simp)).mono ?_
             rintro e wb ⟨par, rfl, hpar, hr, ho⟩
             have cP := cell_only ho cP (by omega)
             have hrow := PRowX.only hrow ho (by omega)
             have hcur := hcur.trans ho
             have hcw := hcw.trans ho
             have HO2 := Lib.hid ho))
      have hp0 : 0 ≤ par ∧ par < p.length := by
        simp only [List.mem_cons, List.not_mem_nil, or_false] at hpar
        have := y1 (by omega)
        omega
      obtain ⟨Q, rfl⟩ := Int.eq_ofNat_of_zero_le hp0.1
      have hQ : Q < p.length := by omega
      have hrowb := hrow
      have fPb : ∀ j, wb.frozen? ⟨PB, j, none⟩ = false := fun j => by
        have e1 := (ocell HO1.out).2 PB j (by omega) zP
        have e2 := (ocell HO2.out).2 PB j (by omega) (Nat.lt_of_lt_of_le zP HO1.out.size)
        rw [e2, e1]
        exact HF.out j
      have zPb : PB < wb.heap.size := Nat.lt_of_lt_of_le zP (Nat.le_trans HO1.out.size HO2.out.size)
      have HFB := Lib.hid fPb
      have hwrz : wr.heap.size ≤ wb.heap.size := Nat.le_trans HO1.out.size HO2.out.size
      have hgab : ga < wb.heap.size := own_block_lt hrowb.own ga rfl
      clear hpar y0 y1 hwr ho fPb HO1 HO2 HF
      go_wp2_with fail
      refine (S_oneL g _ [1, 1, 1, 2] _ _ rfl hr (by omega) (by simp) (by simp)).mono ?_
      rintro e wc ⟨kd, rfl, hkd, hr, ho⟩
      have cP := cell_only ho cP (by omega)
      have hrow := PRowX.only hrow ho (by omega)
      have hcur := hcur.trans ho
      have hcw := hcw.trans ho
      have HO3 := Lib.hid ho
      clear hkd ho
      go_wp2_with fail
      refine (S_someBlock g _ kd Q _ hr (by omega)).mono ?_
      rintro e wd ⟨K, Kpv, Kbv, rfl, hK1, hK2, hK3, hK4, hK5, hK6, hKp, hKb, hr, ho⟩
      have cP := cell_only ho cP (by omega)
      have hrow := PRowX.only hrow ho (by omega)
      have hcur := hcur.trans ho
      have hcw := hcw.trans ho
      have HO4 := Lib.hid ho
      have hlob : wb.heap.size ≤ wc.heap.size := HO3.out.size
      have hlod : wc.heap.size ≤ wd.heap.size := ho.size
      obtain ⟨Kk, Kp, Kps, Kbody⟩ := K
      obtain rfl : kd = Kk := hK1.symm
      obtain rfl : Kp = (Q : Int) := hK2
      have hK3 : Kps.length ≤ 1 := hK3
      have hK4 : 1 ≤ Kbody.length := hK4
      have hK5 : Kbody.length ≤ 6 := hK5
      have HK6 := Lib.hid (show ∀ s ∈ Kbody, 0 ≤ s.to ∧ s.to ≤ 7 from hK6)
      clear ho hK6
      obtain ⟨A2, C2, rfl⟩ := hKp.form
      obtain ⟨A3, C3, rfl⟩ := hKb.form
      obtain ⟨ga2, Cp2, ea, _, _, _, _, hcell, _⟩ := PRowX.rd hrow hp1
      obtain ⟨rfl, rfl⟩ : ga = ga2 ∧ Cp = Cp2 := by simpa using ea
      clear ea
      have hbv := PRowX.full hrow hQ
      have b3 := hcell (Q * 4 + 3) (by omega)
      obtain ⟨BV, hBV⟩ : ∃ BV : Value, BV = xs.getD (Q * 4 + 3) undef := ⟨_, rfl⟩
      rw [← hBV] at b3 hbv
      have HBV := Lib.hid hBV
      obtain ⟨hbl1, hbl2⟩ := HT.out.body Q hQ
      have HTOS := Lib.hid (HT.out.tos Q hQ)
      obtain ⟨body, hbody⟩ : ∃ body : List St, body = (p.getD Q default).body := ⟨_, rfl⟩
      rw [← hbody] at hbv hbl1 hbl2 HTOS
      have HBODY := Lib.hid hbody
      obtain ⟨Ab, Cb, bg, eb, hbn, hbc, hbA, hbg, hst, _⟩ := hbv.rd
      obtain rfl := hbA (by omega)
      subst eb
      have hbg2 := (hbg (by omega)).2
      have hbg1 := (hbg (by omega)).1
      have HST := Lib.hid hst
      unfold maxLen at hbc
      clear hBV hbody hcell hbA hbg hst
      have hPBd : PB < wd.heap.size := by omega
      have hgad : ga < wd.heap.size := by have := HO4.out.size; have := HO3.out.size; omega
      have hQ1 : (Q : Int) < (p.length : Int) := by omega
      have hQ0 : (0 : Int) ≤ (Q : Int) := by omega
      have k0 : (wd.alloc (.cells #[.int .i64 kd, .int .i64 Q, .slice A2 Kps.length C2, .slice A3 Kbody.length C3] 59)).cell? ⟨wd.heap.size, 0, none⟩ = some (.int .i64 kd) := by simp [go_sem]
      have k1 : (wd.alloc (.cells #[.int .i64 kd, .int .i64 Q, .slice A2 Kps.length C2, .slice A3 Kbody.length C3] 59)).cell? ⟨wd.heap.size, 1, none⟩ = some (.int .i64 Q) := by simp [go_sem]
      have k2 : (wd.alloc (.cells #[.int .i64 kd, .int .i64 Q, .slice A2 Kps.length C2, .slice A3 Kbody.length C3] 59)).cell? ⟨wd.heap.size, 2, none⟩ = some (.slice A2 Kps.length C2) := by simp [go_sem]
      have k3 : (wd.alloc (.cells #[.int .i64 kd, .int .i64 Q, .slice A2 Kps.length C2, .slice A3 Kbody.length C3] 59)).cell? ⟨wd.heap.size, 3, none⟩ = some (.slice A3 Kbody.length C3) := by simp [go_sem]
      have hx := al1 (w := wd) (o := .cells #[.int .i64 kd, .int .i64 Q, .slice A2 Kps.length C2, .slice A3 Kbody.length C3] 59)
      go_wp2_with fail
      refine (S_pick g _ _ _ (hr.keep hx) (by omega)).mono ?_
      rintro e we ⟨t, rfl, t0, t1, hr, ho, hsz⟩
      clear hsz
      have hKBg : g + 1 ≤ wd.heap.size := by have := hcur.size; simp only [World.size_alloc] at this; omega
      have k0 := cell_only ho k0 (by omega)
      have k1 := cell_only ho k1 (by omega)
      have k2 := cell_only ho k2 (by omega)
      have k3 := cell_only ho k3 (by omega)
      have cP := cell_only ho (cell_later hx cP) (by omega)
      have b3 := cell_only ho (cell_later hx b3) (by omega)
      have hrow := PRowX.only (PRowX.keep hrow hx) ho (by omega)
      have hKp := Ints.only (hKp.keep hx) ho (by omega)
      have hKb := Stmts.only (hKb.keep hx) ho (by omega)
      have hbv := Stmts.only (hbv.keep hx) ho (by omega)
      have hcur := (hcur.alloc _).trans ho
      have hcw := (hcw.alloc _).trans ho
      have ht1 : t < body.length + 1 := t1 (by omega)
      have hze : wd.heap.size < we.heap.size := by have := ho.size; simp only [World.size_alloc] at this; omega
      have HST2 : Hid (∀ j, j < body.length → we.cell? ⟨bg, j * 4, none⟩ = some (.int .i64 (body.getD j default).kind)) := Lib.hid fun j hj => cell_only ho (cell_later hx (HST.out j hj).1) (by omega)
      obtain ⟨T, rfl⟩ := Int.eq_ofNat_of_zero_le t0
      have hT : T ≤ body.length := by omega
      have hgae : ga < wd.heap.size := hgad
      clear t0 t1 ho hx ht1 HST hPBd hgad
      by_cases hT0 : T = 0
      · subst hT0
        have hT0 : (0 : Int) ≤ ((0 : Nat) : Int) := by omega
        have hTb : ((0 : Nat) : Int) ≤ (body.length : Int) := by omega
        have hTc : ((0 : Nat) : Int) ≤ (Cb : Int) := by omega
        go_wp2_with (at_builtin; refine wpList_append_stmts rfl _ _ rfl _ _ [] (body.drop (0)) we.heap.size rfl rfl (Stmts.zero rfl (Nat.le_refl _)) ((Stmts.from_ hbv (0) _ _ _ (by first | omega | (simp; done) | (simp; omega)) (by omega) (by first | omega | (simp; done) | (simp; omega))).keep al1) (by first | (simp; done) | (simp; omega)) (by simp) ?_; intro RV w7 hRV hg7 hb7 hf7; have hx7 : Below we.heap.size we w7 := al1.trans hb7; rw [List.nil_append] at hRV; obtain ⟨RA, RC, rfl⟩ := hRV.form; rw [show (body.drop (0)).length = body.length - (0) from List.length_drop] at hRV)
        have hz7 : we.heap.size ≤ w7.heap.size := hx7.size
        have cP := cell_later hx7 cP
        have k0 := cell_later hx7 k0
        have k1 := cell_later hx7 k1
        have k2 := cell_later hx7 k2
        have k3 := cell_later hx7 k3
        have b3 := cell_later hx7 b3
        have hrow7 := (PRowX.keep hrow hx7).keep (below0 w7).drew
        have hKp7 := (hKp.keep hx7).keep (below0 w7).drew
        have hKb7 := (hKb.keep hx7).keep (below0 w7).drew
        have hbv7 := (hbv.keep hx7).keep (below0 w7).drew
        have hRV7 := hRV.keep (below0 w7).drew
        have hrow := hrow7
        have hKp := hKp7
        have hKb := hKb7
        have hbv := hbv7
        have hRV := hRV7
        have hr := (hr.keep hx7).drew
        have hcur := (hcur.trans (Only.of_below hx7)).drew
        have hcw := (hcw.trans (Only.of_below hx7)).drew
        clear hx7 hb7 hg7 hf7
        go_region_held3 (fun w' => w'.cell? ⟨PB, 0, none⟩ = some (.slice (some ⟨ga, 0, none⟩) p.length Cp) ∧ w'.cell? ⟨wd.heap.size, 0, none⟩ = some (.int .i64 kd) ∧ w'.cell? ⟨wd.heap.size, 1, none⟩ = some (.int .i64 Q) ∧ w'.cell? ⟨wd.heap.size, 2, none⟩ = some (.slice A2 Kps.length C2) ∧ w'.cell? ⟨wd.heap.size, 3, none⟩ = some (.slice A3 Kbody.length C3))
          (first | go_keep | exact ⟨cP, k0, k1, k2, k3⟩)
          (first
            | (refine step_append_stmts rfl _ _ rfl V10 (.slice RA (body.length - (0)) RC) (body.take (0) ++ mk) (body.drop (0)) w7.heap.size rfl rfl h10 hRV.feed (by rw [List.length_append, List.length_take, List.length_drop]; omega) (by omega) ?_
               intro V11 w11 h11 hg11 hb11 hf11
               have cP := (hb11.cell (p := ⟨PB, _, none⟩) (show PB < w7.heap.size by omega)).trans cP
               have k0 := (hb11.cell (p := ⟨wd.heap.size, _, none⟩) (show wd.heap.size < w7.heap.size by omega)).trans k0
               have k1 := (hb11.cell (p := ⟨wd.heap.size, _, none⟩) (show wd.heap.size < w7.heap.size by omega)).trans k1
               have k2 := (hb11.cell (p := ⟨wd.heap.size, _, none⟩) (show wd.heap.size < w7.heap.size by omega)).trans k2
               have k3 := (hb11.cell (p := ⟨wd.heap.size, _, none⟩) (show wd.heap.size < w7.heap.size by omega)).trans k3
               have b3 := (hb11.cell (p := ⟨ga, _, none⟩) (show ga < w7.heap.size by omega)).trans b3
               have hrow := PRowX.pastB hrow7 hrow hb11 (Nat.le_refl _)
               have hKp := Ints.pastB hKp7 hKp hb11 (Nat.le_refl _)
               have hKb := Stmts.pastB hKb7 hKb hb11 (Nat.le_refl _)
               have hr := hr.grown hg11 (fun k hk => by have := own_block_ge h10 k hk; omega)
               have hcur := hcur.grow hg11 (fun k hk => by have := own_block_ge h10 k hk; simp only [World.size_alloc]; omega)
               have hcw := hcw.grow hg11 (fun k hk => by have := own_block_ge h10 k hk; show wr.heap.size ≤ k; omega)
               have hz11 : w7.heap.size ≤ w11.heap.size := Nat.le_trans hz10 hb11.size)
            | (refine step_append_stmts rfl _ _ rfl V8 V9 (body.take (0)) mk w7.heap.size rfl rfl h8 h9.feed (by rw [List.length_take]; omega) (by omega) ?_
               intro V10 w10 h10 hg10 hb10 hf10
               have cP := (hb10.cell (p := ⟨PB, _, none⟩) (show PB < w7.heap.size by omega)).trans cP
               have k0 := (hb10.cell (p := ⟨wd.heap.size, _, none⟩) (show wd.heap.size < w7.heap.size by omega)).trans k0
               have k1 := (hb10.cell (p := ⟨wd.heap.size, _, none⟩) (show wd.heap.size < w7.heap.size by omega)).trans k1
               have k2 := (hb10.cell (p := ⟨wd.heap.size, _, none⟩) (show wd.heap.size < w7.heap.size by omega)).trans k2
               have k3 := (hb10.cell (p := ⟨wd.heap.size, _, none⟩) (show wd.heap.size < w7.heap.size by omega)).trans k3
               have b3 := (hb10.cell (p := ⟨ga, _, none⟩) (show ga < w7.heap.size by omega)).trans b3
               have hrow := PRowX.pastB hrow7 hrow hb10 (Nat.le_refl _)
               have hKp := Ints.pastB hKp7 hKp hb10 (Nat.le_refl _)
               have hKb := Stmts.pastB hKb7 hKb hb10 (Nat.le_refl _)
               have hRV := Stmts.pastB hRV7 hRV hb10 (Nat.le_refl _)
               have hr := hr.grown hg10 (fun k hk => by have := own_block_ge h8 k hk; omega)
               have hcur := hcur.grow hg10 (fun k hk => by have := own_block_ge h8 k hk; simp only [World.size_alloc]; omega)
               have hcw := hcw.grow hg10 (fun k hk => by have := own_block_ge h8 k hk; show wr.heap.size ≤ k; omega)
               have hz10 : w7.heap.size ≤ w10.heap.size := Nat.le_trans hz9 hb10.size)
            | (go_at_call 97
               refine (S_making g _ ⟨kd, Q, Kps, Kbody⟩ _ _ p.length _ _ _ hr (by omega) hKp hKb).mono ?_
               rintro e w9 ⟨V9, mk, rfl, h9, hm1, hm2, hm3, hr, ho⟩
               have cP := cell_only ho cP (by omega)
               have k0 := cell_only ho k0 (by omega)
               have k1 := cell_only ho k1 (by omega)
               have k2 := cell_only ho k2 (by omega)
               have k3 := cell_only ho k3 (by omega)
               have b3 := cell_only ho b3 (by omega)
               have hrow := PRowX.only hrow ho (by omega)
               have hKp := Ints.only hKp ho (by omega)
               have hKb := Stmts.only hKb ho (by omega)
               have hRV := Stmts.only hRV ho (by omega)
               have h8 := Stmts.only h8 ho (by omega)
               have hcur := hcur.trans ho
               have hcw := hcw.trans ho
               have hz9 : w7.heap.size ≤ w9.heap.size := Nat.le_trans hz8 ho.size
               clear ho)
            | (refine step_append_stmts rfl _ _ rfl _ _ [] (body.take (0)) w7.heap.size rfl rfl (Stmts.zero rfl (Nat.le_refl _)) ((Stmts.upto_ hbv (0) _ (by omega)).keep al1) (by first | (simp; done) | (simp; omega)) (by simp) ?_
               intro V8 w8 h8 hg8 hb8 hf8
               have hx8 : Below w7.drew.heap.size w7.drew w8 := al1.trans hb8
               rw [List.nil_append] at h8
               have cP := cell_later hx8 cP
               have k0 := cell_later hx8 k0
               have k1 := cell_later hx8 k1
               have k2 := cell_later hx8 k2
               have k3 := cell_later hx8 k3
               have b3 := cell_later hx8 b3
               have hrow := PRowX.keep hrow hx8
               have hKp := hKp.keep hx8
               have hKb := hKb.keep hx8
               have hRV := hRV.keep hx8
               have hr := hr.keep hx8
               have hcur := hcur.trans (Only.of_below hx8)
               have hcw := hcw.trans (Only.of_below hx8)
               have hz8 : w7.heap.size ≤ w8.heap.size := hx8.size))
        obtain ⟨A11, C11, rfl⟩ := h11.form
        obtain ⟨NB, hNB⟩ : ∃ NB : List St, NB = body.take (0) ++ mk ++ body.drop (0) := ⟨_, rfl⟩
        rw [← hNB] at h11
        have hNB1 : 1 ≤ NB.length := by rw [hNB, List.length_append, List.length_append]; omega
        have hNB5 : ∀ s ∈ NB, 0 ≤ s.to ∧ s.to ≤ 7 := fun s hs => by
          rw [hNB] at hs
          rcases List.mem_append.1 hs with h | h
          · rcases List.mem_append.1 h with h | h
            · exact HTOS.out s (List.mem_of_mem_take h)
            · exact hm3 s h
          · exact HTOS.out s (List.mem_of_mem_drop h)
        have HNB5 := Lib.hid hNB5
        have hbx : BoxP w11 PB (.slice (some ⟨ga, 0, none⟩) p.length Cp) := HBP.out.only (w := wr) (Only.trans (Only.refl g (g + 1) wr).drew hcw) (by omega)
        have hgaPB : ga ≠ PB := fun e => hne (by rw [← e]; rfl)
        have hfb : ∀ j, w11.frozen? ⟨PB, j, none⟩ = false := fun j => by rw [World.frozen?, hbx]; rfl
        rw [← hNB]
        have h12i : (12 : Int) < 13 := by omega
        clear hNB5 hNB
        by_cases h12 : NB.length ≤ 12
        · obtain ⟨ga3, Cp3, ea, _, _, _, _, _, hfz⟩ := PRowX.rd hrow hp1
          obtain ⟨rfl, rfl⟩ : ga = ga3 ∧ Cp = Cp3 := by simpa using ea
          have fb3 := hfz (Q * 4 + 3)
          have hrow12 := PRowX.setBody (PRowX.part hrow Q) hQ (h11.lo_ (lo' := w.heap.size + 1) (by omega)) (fun i hi _ => Apart.of_lt (PRowX.full hrow7 hi) (own_block_ge h11))
          have hKp12 := (Ints.set hKp (a := ⟨ga, Q * 4 + 3, none⟩) (show ga < wc.heap.size by omega) (.slice A11 NB.length C11)).lo_ (lo' := w.heap.size + 1) (by omega)
          have hKb12 := (Stmts.set hKb (a := ⟨ga, Q * 4 + 3, none⟩) (show ga < wc.heap.size by omega) (.slice A11 NB.length C11)).lo_ (lo' := w.heap.size + 1) (by omega)
          have hap12 : ∀ i, i < (p.set Q { p.getD Q default with body := NB }).length → Apart ((xs.set (Q * 4 + 3) (.slice A11 NB.length C11)).getD (i * 4 + 3) undef) (.slice A3 Kbody.length C3) := fun i hi => by
            rw [List.length_set] at hi
            by_cases e : i = Q
            · subst e
              rw [getD_set_eq _ _ _ _ (by have := hrow.own.1; omega)]
              exact fun r h1 h2 => by
                have a1 := own_block_ge h11 r h1
                have a2 : r < w7.heap.size := own_block_lt hKb7 r h2
                omega
            · rw [getD_set_ne _ _ _ _ _ (by omega)]
              exact Apart.of_lt (PRowX.full hrowb hi) (fun r hr => by have := own_block_ge hKb r hr; omega)
          have hbx12 := hbx.other ⟨ga, Q * 4 + 3, none⟩ (.slice A11 NB.length C11) (fun e => hgaPB e.symm)
          have hz12 : w7.heap.size ≤ (w11.setCell ⟨ga, Q * 4 + 3, none⟩ (.slice A11 NB.length C11)).heap.size := by simpa using hz11
          have hr12 := hr.store (p := ⟨ga, Q * 4 + 3, none⟩) (show g < ga by omega) (.slice A11 NB.length C11)
          have hcur12 := hcur.store (p := ⟨ga, Q * 4 + 3, none⟩) (show _ ≤ ga by simp only [World.size_alloc]; omega) (.slice A11 NB.length C11)
          have hlen12 : (p.set Q { p.getD Q default with body := NB }).length = p.length := List.length_set
          have HNBL := Lib.hid h12
          clear hfz ea
          go_wp2_with (at_builtin; refine wpList_append_block rfl _ _ rfl (.slice (some ⟨ga, 0, none⟩) p.length Cp) (.slice A2 Kps.length C2) (.slice A3 Kbody.length C3) _ _ ⟨kd, Q, Kps, Kbody⟩ (w.heap.size + 1) w11.heap.size (by simp) rfl rfl hrow12 hKp12 hKb12 hap12 (by rw [hlen12]; omega) (by omega) ?_; intro NV w13 hrow13 hg13 hb13 hf13; obtain ⟨NA, NC, rfl⟩ := PRowX.form hrow13; have hbx13 := (hbx12.below (al1 (o := .cells (bkCells ⟨kd, Q, Kps, Kbody⟩ (.slice A2 Kps.length C2) (.slice A3 Kbody.length C3)).toArray 59)) (lt_of_block hbx12)).grown hg13 (fun e => hgaPB (Option.some.inj e).symm); have z1 := hbx13.cell; have z2 : ∀ j, w13.frozen? ⟨PB, j, none⟩ = false := fun j => by rw [World.frozen?, hbx13]; rfl)
          have el : (p.set Q { p.getD Q default with body := NB } ++ [(⟨kd, Q, Kps, Kbody⟩ : Bk)]).length = p.length + 1 := by rw [List.length_append, hlen12]; rfl
          have hV : Value.slice NA (p.set Q { p.getD Q default with body := NB } ++ [(⟨kd, Q, Kps, Kbody⟩ : Bk)]).length NC = .slice NA (p.length + 1) NC := by rw [el]
          have hrow14 : PRow w13 (w.heap.size + 1) (.slice NA (p.length + 1) NC) (xs.set (Q * 4 + 3) (.slice A11 NB.length C11) ++ bkCells ⟨kd, Q, Kps, Kbody⟩ (.slice A2 Kps.length C2) (.slice A3 Kbody.length C3)) (p.set Q { p.getD Q default with body := NB } ++ [(⟨kd, Q, Kps, Kbody⟩ : Bk)]) := by rw [← hV]; exact hrow13
          have hne14 : (Value.slice NA (p.length + 1) NC).ownBlock ≠ some PB := fun e => by
            rw [← hV] at e
            have hlt := lt_of_block hbx12
            rcases hf13 with h | ⟨gg, h, h'⟩
            · rw [e] at h
              exact hgaPB (Option.some.inj h).symm
            · rw [e] at h
              have := Option.some.inj h
              omega
          have hr14 := (hr12.keep (al1 (o := .cells (bkCells ⟨kd, Q, Kps, Kbody⟩ (.slice A2 Kps.length C2) (.slice A3 Kbody.length C3)).toArray 59))).grown hg13 (fun k hk => by have : ga = k := Option.some.inj hk; omega)
          have hcur14 := (hcur12.alloc (.cells (bkCells ⟨kd, Q, Kps, Kbody⟩ (.slice A2 Kps.length C2) (.slice A3 Kbody.length C3)).toArray 59)).grow hg13 (fun k hk => by have : ga = k := Option.some.inj hk; simp only [World.size_alloc]; omega)
          clear hrow13 hf13 hb13
          go_roundw
          case rel => exact ⟨r - 1, _, _, _, by go_num, by rw [el]; omega, Tame.add (Tame.setBody HT.out hQ hNB1 HNBL.out HNB5.out) hK4 (show Kbody.length ≤ 12 by omega) hK3 hQ0 (by rw [hlen12]; exact hQ1) HK6.out, BoxP.rows hrow14 hbx13 _, hbx13.set _, fun j => by simp [go_sem]; exact z2 j, by have := lt_of_block hbx13; simpa using this, hne14, (hr14.store (p := ⟨PB, 0, none⟩) (show g < PB by omega) _).mono (by omega), hcur14.store (p := ⟨PB, 0, none⟩) (show _ ≤ PB by simp only [World.size_alloc]; omega) _⟩
          case measure => simp [intOf]; omega
        · go_wp2
          go_roundw
          case rel => exact ⟨r - 1, _, xs, p, by go_num, by omega, HT.out, hrow, hbx, hfb, by have := lt_of_block hbx; omega, hne, hr.mono (by omega), hcur⟩
          case measure => simp [intOf]; omega
      by_cases h8 : (body.getD (T - 1) default).kind = 8
      · obtain ⟨T1, rfl⟩ : ∃ T1, T = T1 + 1 := ⟨T - 1, by omega⟩
        have hs0 := HST2.out T1 (by omega)
        have ht2 : ((T1 : Int) + 1 - 1).toNat = T1 := by omega
        have h8 : (body.getD T1 default).kind = 8 := h8
        rw [h8] at hs0
        have hT0 : (0 : Int) ≤ ((T1 : Nat) : Int) := by omega
        have hTb : ((T1 : Nat) : Int) ≤ (body.length : Int) := by omega
        have hTc : ((T1 : Nat) : Int) ≤ (Cb : Int) := by omega
        go_wp2_with (at_builtin; refine wpList_append_stmts rfl _ _ rfl _ _ [] (body.drop (T1)) we.heap.size rfl rfl (Stmts.zero rfl (Nat.le_refl _)) ((Stmts.from_ hbv (T1) _ _ _ (by first | omega | (simp; done) | (simp; omega)) (by omega) (by first | omega | (simp; done) | (simp; omega))).keep al1) (by first | (simp; done) | (simp; omega)) (by simp) ?_; intro RV w7 hRV hg7 hb7 hf7; have hx7 : Below we.heap.size we w7 := al1.trans hb7; rw [List.nil_append] at hRV; obtain ⟨RA, RC, rfl⟩ := hRV.form; rw [show (body.drop (T1)).length = body.length - (T1) from List.length_drop] at hRV)
        have hz7 : we.heap.size ≤ w7.heap.size := hx7.size
        have cP := cell_later hx7 cP
        have k0 := cell_later hx7 k0
        have k1 := cell_later hx7 k1
        have k2 := cell_later hx7 k2
        have k3 := cell_later hx7 k3
        have b3 := cell_later hx7 b3
        have hrow7 := (PRowX.keep hrow hx7).keep (below0 w7).drew
        have hKp7 := (hKp.keep hx7).keep (below0 w7).drew
        have hKb7 := (hKb.keep hx7).keep (below0 w7).drew
        have hbv7 := (hbv.keep hx7).keep (below0 w7).drew
        have hRV7 := hRV.keep (below0 w7).drew
        have hrow := hrow7
        have hKp := hKp7
        have hKb := hKb7
        have hbv := hbv7
        have hRV := hRV7
        have hr := (hr.keep hx7).drew
        have hcur := (hcur.trans (Only.of_below hx7)).drew
        have hcw := (hcw.trans (Only.of_below hx7)).drew
        clear hx7 hb7 hg7 hf7
        go_region_held3 (fun w' => w'.cell? ⟨PB, 0, none⟩ = some (.slice (some ⟨ga, 0, none⟩) p.length Cp) ∧ w'.cell? ⟨wd.heap.size, 0, none⟩ = some (.int .i64 kd) ∧ w'.cell? ⟨wd.heap.size, 1, none⟩ = some (.int .i64 Q) ∧ w'.cell? ⟨wd.heap.size, 2, none⟩ = some (.slice A2 Kps.length C2) ∧ w'.cell? ⟨wd.heap.size, 3, none⟩ = some (.slice A3 Kbody.length C3))
          (first | go_keep | exact ⟨cP, k0, k1, k2, k3⟩)
          (first
            | (refine step_append_stmts rfl _ _ rfl V10 (.slice RA (body.length - (T1)) RC) (body.take (T1) ++ mk) (body.drop (T1)) w7.heap.size rfl rfl h10 hRV.feed (by rw [List.length_append, List.length_take, List.length_drop]; omega) (by omega) ?_
               intro V11 w11 h11 hg11 hb11 hf11
               have cP := (hb11.cell (p := ⟨PB, _, none⟩) (show PB < w7.heap.size by omega)).trans cP
               have k0 := (hb11.cell (p := ⟨wd.heap.size, _, none⟩) (show wd.heap.size < w7.heap.size by omega)).trans k0
               have k1 := (hb11.cell (p := ⟨wd.heap.size, _, none⟩) (show wd.heap.size < w7.heap.size by omega)).trans k1
               have k2 := (hb11.cell (p := ⟨wd.heap.size, _, none⟩) (show wd.heap.size < w7.heap.size by omega)).trans k2
               have k3 := (hb11.cell (p := ⟨wd.heap.size, _, none⟩) (show wd.heap.size < w7.heap.size by omega)).trans k3
               have b3 := (hb11.cell (p := ⟨ga, _, none⟩) (show ga < w7.heap.size by omega)).trans b3
               have hrow := PRowX.pastB hrow7 hrow hb11 (Nat.le_refl _)
               have hKp := Ints.pastB hKp7 hKp hb11 (Nat.le_refl _)
               have hKb := Stmts.pastB hKb7 hKb hb11 (Nat.le_refl _)
               have hr := hr.grown hg11 (fun k hk => by have := own_block_ge h10 k hk; omega)
               have hcur := hcur.grow hg11 (fun k hk => by have := own_block_ge h10 k hk; simp only [World.size_alloc]; omega)
               have hcw := hcw.grow hg11 (fun k hk => by have := own_block_ge h10 k hk; show wr.heap.size ≤ k; omega)
               have hz11 : w7.heap.size ≤ w11.heap.size := Nat.le_trans hz10 hb11.size)
            | (refine step_append_stmts rfl _ _ rfl V8 V9 (body.take (T1)) mk w7.heap.size rfl rfl h8 h9.feed (by rw [List.length_take]; omega) (by omega) ?_
               intro V10 w10 h10 hg10 hb10 hf10
               have cP := (hb10.cell (p := ⟨PB, _, none⟩) (show PB < w7.heap.size by omega)).trans cP
               have k0 := (hb10.cell (p := ⟨wd.heap.size, _, none⟩) (show wd.heap.size < w7.heap.size by omega)).trans k0
               have k1 := (hb10.cell (p := ⟨wd.heap.size, _, none⟩) (show wd.heap.size < w7.heap.size by omega)).trans k1
               have k2 := (hb10.cell (p := ⟨wd.heap.size, _, none⟩) (show wd.heap.size < w7.heap.size by omega)).trans k2
               have k3 := (hb10.cell (p := ⟨wd.heap.size, _, none⟩) (show wd.heap.size < w7.heap.size by omega)).trans k3
               have b3 := (hb10.cell (p := ⟨ga, _, none⟩) (show ga < w7.heap.size by omega)).trans b3
               have hrow := PRowX.pastB hrow7 hrow hb10 (Nat.le_refl _)
               have hKp := Ints.pastB hKp7 hKp hb10 (Nat.le_refl _)
               have hKb := Stmts.pastB hKb7 hKb hb10 (Nat.le_refl _)
               have hRV := Stmts.pastB hRV7 hRV hb10 (Nat.le_refl _)
               have hr := hr.grown hg10 (fun k hk => by have := own_block_ge h8 k hk; omega)
               have hcur := hcur.grow hg10 (fun k hk => by have := own_block_ge h8 k hk; simp only [World.size_alloc]; omega)
               have hcw := hcw.grow hg10 (fun k hk => by have := own_block_ge h8 k hk; show wr.heap.size ≤ k; omega)
               have hz10 : w7.heap.size ≤ w10.heap.size := Nat.le_trans hz9 hb10.size)
            | (go_at_call 97
               refine (S_making g _ ⟨kd, Q, Kps, Kbody⟩ _ _ p.length _ _ _ hr (by omega) hKp hKb).mono ?_
               rintro e w9 ⟨V9, mk, rfl, h9, hm1, hm2, hm3, hr, ho⟩
               have cP := cell_only ho cP (by omega)
               have k0 := cell_only ho k0 (by omega)
               have k1 := cell_only ho k1 (by omega)
               have k2 := cell_only ho k2 (by omega)
               have k3 := cell_only ho k3 (by omega)
               have b3 := cell_only ho b3 (by omega)
               have hrow := PRowX.only hrow ho (by omega)
               have hKp := Ints.only hKp ho (by omega)
               have hKb := Stmts.only hKb ho (by omega)
               have hRV := Stmts.only hRV ho (by omega)
               have h8 := Stmts.only h8 ho (by omega)
               have hcur := hcur.trans ho
               have hcw := hcw.trans ho
               have hz9 : w7.heap.size ≤ w9.heap.size := Nat.le_trans hz8 ho.size
               clear ho)
            | (refine step_append_stmts rfl _ _ rfl _ _ [] (body.take (T1)) w7.heap.size rfl rfl (Stmts.zero rfl (Nat.le_refl _)) ((Stmts.upto_ hbv (T1) _ (by omega)).keep al1) (by first | (simp; done) | (simp; omega)) (by simp) ?_
               intro V8 w8 h8 hg8 hb8 hf8
               have hx8 : Below w7.drew.heap.size w7.drew w8 := al1.trans hb8
               rw [List.nil_append] at h8
               have cP := cell_later hx8 cP
               have k0 := cell_later hx8 k0
               have k1 := cell_later hx8 k1
               have k2 := cell_later hx8 k2
               have k3 := cell_later hx8 k3
               have b3 := cell_later hx8 b3
               have hrow := PRowX.keep hrow hx8
               have hKp := hKp.keep hx8
               have hKb := hKb.keep hx8
               have hRV := hRV.keep hx8
               have hr := hr.keep hx8
               have hcur := hcur.trans (Only.of_below hx8)
               have hcw := hcw.trans (Only.of_below hx8)
               have hz8 : w7.heap.size ≤ w8.heap.size := hx8.size))
        obtain ⟨A11, C11, rfl⟩ := h11.form
        obtain ⟨NB, hNB⟩ : ∃ NB : List St, NB = body.take (T1) ++ mk ++ body.drop (T1) := ⟨_, rfl⟩
        rw [← hNB] at h11
        have hNB1 : 1 ≤ NB.length := by rw [hNB, List.length_append, List.length_append]; omega
        have hNB5 : ∀ s ∈ NB, 0 ≤ s.to ∧ s.to ≤ 7 := fun s hs => by
          rw [hNB] at hs
          rcases List.mem_append.1 hs with h | h
          · rcases List.mem_append.1 h with h | h
            · exact HTOS.out s (List.mem_of_mem_take h)
            · exact hm3 s h
          · exact HTOS.out s (List.mem_of_mem_drop h)
        have HNB5 := Lib.hid hNB5
        have hbx : BoxP w11 PB (.slice (some ⟨ga, 0, none⟩) p.length Cp) := HBP.out.only (w := wr) (Only.trans (Only.refl g (g + 1) wr).drew hcw) (by omega)
        have hgaPB : ga ≠ PB := fun e => hne (by rw [← e]; rfl)
        have hfb : ∀ j, w11.frozen? ⟨PB, j, none⟩ = false := fun j => by rw [World.frozen?, hbx]; rfl
        rw [← hNB]
        have h12i : (12 : Int) < 13 := by omega
        clear hNB5 hNB
        by_cases h12 : NB.length ≤ 12
        · obtain ⟨ga3, Cp3, ea, _, _, _, _, _, hfz⟩ := PRowX.rd hrow hp1
          obtain ⟨rfl, rfl⟩ : ga = ga3 ∧ Cp = Cp3 := by simpa using ea
          have fb3 := hfz (Q * 4 + 3)
          have hrow12 := PRowX.setBody (PRowX.part hrow Q) hQ (h11.lo_ (lo' := w.heap.size + 1) (by omega)) (fun i hi _ => Apart.of_lt (PRowX.full hrow7 hi) (own_block_ge h11))
          have hKp12 := (Ints.set hKp (a := ⟨ga, Q * 4 + 3, none⟩) (show ga < wc.heap.size by omega) (.slice A11 NB.length C11)).lo_ (lo' := w.heap.size + 1) (by omega)
          have hKb12 := (Stmts.set hKb (a := ⟨ga, Q * 4 + 3, none⟩) (show ga < wc.heap.size by omega) (.slice A11 NB.length C11)).lo_ (lo' := w.heap.size + 1) (by omega)
          have hap12 : ∀ i, i < (p.set Q { p.getD Q default with body := NB }).length → Apart ((xs.set (Q * 4 + 3) (.slice A11 NB.length C11)).getD (i * 4 + 3) undef) (.slice A3 Kbody.length C3) := fun i hi => by
            rw [List.length_set] at hi
            by_cases e : i = Q
            · subst e
              rw [getD_set_eq _ _ _ _ (by have := hrow.own.1; omega)]
              exact fun r h1 h2 => by
                have a1 := own_block_ge h11 r h1
                have a2 : r < w7.heap.size := own_block_lt hKb7 r h2
                omega
            · rw [getD_set_ne _ _ _ _ _ (by omega)]
              exact Apart.of_lt (PRowX.full hrowb hi) (fun r hr => by have := own_block_ge hKb r hr; omega)
          have hbx12 := hbx.other ⟨ga, Q * 4 + 3, none⟩ (.slice A11 NB.length C11) (fun e => hgaPB e.symm)
          have hz12 : w7.heap.size ≤ (w11.setCell ⟨ga, Q * 4 + 3, none⟩ (.slice A11 NB.length C11)).heap.size := by simpa using hz11
          have hr12 := hr.store (p := ⟨ga, Q * 4 + 3, none⟩) (show g < ga by omega) (.slice A11 NB.length C11)
          have hcur12 := hcur.store (p := ⟨ga, Q * 4 + 3, none⟩) (show _ ≤ ga by simp only [World.size_alloc]; omega) (.slice A11 NB.length C11)
          have hlen12 : (p.set Q { p.getD Q default with body := NB }).length = p.length := List.length_set
          have HNBL := Lib.hid h12
          clear hfz ea
          go_wp2_with (at_builtin; refine wpList_append_block rfl _ _ rfl (.slice (some ⟨ga, 0, none⟩) p.length Cp) (.slice A2 Kps.length C2) (.slice A3 Kbody.length C3) _ _ ⟨kd, Q, Kps, Kbody⟩ (w.heap.size + 1) w11.heap.size (by simp) rfl rfl hrow12 hKp12 hKb12 hap12 (by rw [hlen12]; omega) (by omega) ?_; intro NV w13 hrow13 hg13 hb13 hf13; obtain ⟨NA, NC, rfl⟩ := PRowX.form hrow13; have hbx13 := (hbx12.below (al1 (o := .cells (bkCells ⟨kd, Q, Kps, Kbody⟩ (.slice A2 Kps.length C2) (.slice A3 Kbody.length C3)).toArray 59)) (lt_of_block hbx12)).grown hg13 (fun e => hgaPB (Option.some.inj e).symm); have z1 := hbx13.cell; have z2 : ∀ j, w13.frozen? ⟨PB, j, none⟩ = false := fun j => by rw [World.frozen?, hbx13]; rfl)
          have el : (p.set Q { p.getD Q default with body := NB } ++ [(⟨kd, Q, Kps, Kbody⟩ : Bk)]).length = p.length + 1 := by rw [List.length_append, hlen12]; rfl
          have hV : Value.slice NA (p.set Q { p.getD Q default with body := NB } ++ [(⟨kd, Q, Kps, Kbody⟩ : Bk)]).length NC = .slice NA (p.length + 1) NC := by rw [el]
          have hrow14 : PRow w13 (w.heap.size + 1) (.slice NA (p.length + 1) NC) (xs.set (Q * 4 + 3) (.slice A11 NB.length C11) ++ bkCells ⟨kd, Q, Kps, Kbody⟩ (.slice A2 Kps.length C2) (.slice A3 Kbody.length C3)) (p.set Q { p.getD Q default with body := NB } ++ [(⟨kd, Q, Kps, Kbody⟩ : Bk)]) := by rw [← hV]; exact hrow13
          have hne14 : (Value.slice NA (p.length + 1) NC).ownBlock ≠ some PB := fun e => by
            rw [← hV] at e
            have hlt := lt_of_block hbx12
            rcases hf13 with h | ⟨gg, h, h'⟩
            · rw [e] at h
              exact hgaPB (Option.some.inj h).symm
            · rw [e] at h
              have := Option.some.inj h
              omega
          have hr14 := (hr12.keep (al1 (o := .cells (bkCells ⟨kd, Q, Kps, Kbody⟩ (.slice A2 Kps.length C2) (.slice A3 Kbody.length C3)).toArray 59))).grown hg13 (fun k hk => by have : ga = k := Option.some.inj hk; omega)
          have hcur14 := (hcur12.alloc (.cells (bkCells ⟨kd, Q, Kps, Kbody⟩ (.slice A2 Kps.length C2) (.slice A3 Kbody.length C3)).toArray 59)).grow hg13 (fun k hk => by have : ga = k := Option.some.inj hk; simp only [World.size_alloc]; omega)
          clear hrow13 hf13 hb13
          go_roundw
          case rel => exact ⟨r - 1, _, _, _, by go_num, by rw [el]; omega, Tame.add (Tame.setBody HT.out hQ hNB1 HNBL.out HNB5.out) hK4 (show Kbody.length ≤ 12 by omega) hK3 hQ0 (by rw [hlen12]; exact hQ1) HK6.out, BoxP.rows hrow14 hbx13 _, hbx13.set _, fun j => by simp [go_sem]; exact z2 j, by have := lt_of_block hbx13; simpa using this, hne14, (hr14.store (p := ⟨PB, 0, none⟩) (show g < PB by omega) _).mono (by omega), hcur14.store (p := ⟨PB, 0, none⟩) (show _ ≤ PB by simp only [World.size_alloc]; omega) _⟩
          case measure => simp [intOf]; omega
        · go_wp2
          go_roundw
          case rel => exact ⟨r - 1, _, xs, p, by go_num, by omega, HT.out, hrow, hbx, hfb, by have := lt_of_block hbx; omega, hne, hr.mono (by omega), hcur⟩
          case measure => simp [intOf]; omega
      · obtain ⟨sk, hsk⟩ : ∃ sk, sk = (body.getD (T - 1) default).kind := ⟨_, rfl⟩
        have hs0 : we.cell? ⟨bg, (T - 1) * 4, none⟩ = some (.int .i64 sk) := by rw [hsk]; exact HST2.out (T - 1) (by omega)
        rw [← hsk] at h8
        have h8b : (sk == 8) = false := by rw [beq_eq_false_iff_ne]; exact h8
        have hT1i : (0 : Int) ≤ (T : Int) - 1 := by omega
        have hT1j : (T : Int) - 1 < (body.length : Int) := by omega
        clear hsk
        by_cases hCT : Cb = T
        · obtain rfl : T = body.length := by omega
          subst hCT
          have hT0 : (0 : Int) ≤ ((body.length : Nat) : Int) := by omega
          have hTb : ((body.length : Nat) : Int) ≤ (body.length : Int) := by omega
          have hTc : ((body.length : Nat) : Int) ≤ (body.length : Int) := by omega
          go_wp2_with (at_builtin; refine wpList_append_stmts rfl _ _ rfl _ _ [] (body.drop (body.length)) we.heap.size rfl rfl (Stmts.zero rfl (Nat.le_refl _)) (FeedS.none (by simp) ⟨_, _, rfl⟩) (by first | (simp; done) | (simp; omega)) (by simp) ?_; intro RV w7 hRV hg7 hb7 hf7; have hx7 : Below we.heap.size we w7 := al1.trans hb7; rw [List.nil_append] at hRV; obtain ⟨RA, RC, rfl⟩ := hRV.form; rw [show (body.drop (body.length)).length = 0 from (by simp)] at hRV)
          have hz7 : we.heap.size ≤ w7.heap.size := hx7.size
          have cP := cell_later hx7 cP
          have k0 := cell_later hx7 k0
          have k1 := cell_later hx7 k1
          have k2 := cell_later hx7 k2
          have k3 := cell_later hx7 k3
          have b3 := cell_later hx7 b3
          have hrow7 := (PRowX.keep hrow hx7).keep (below0 w7).drew
          have hKp7 := (hKp.keep hx7).keep (below0 w7).drew
          have hKb7 := (hKb.keep hx7).keep (below0 w7).drew
          have hbv7 := (hbv.keep hx7).keep (below0 w7).drew
          have hRV7 := hRV.keep (below0 w7).drew
          have hrow := hrow7
          have hKp := hKp7
          have hKb := hKb7
          have hbv := hbv7
          have hRV := hRV7
          have hr := (hr.keep hx7).drew
          have hcur := (hcur.trans (Only.of_below hx7)).drew
          have hcw := (hcw.trans (Only.of_below hx7)).drew
          clear hx7 hb7 hg7 hf7
          go_region_held3 (fun w' => w'.cell? ⟨PB, 0, none⟩ = some (.slice (some ⟨ga, 0, none⟩) p.length Cp) ∧ w'.cell? ⟨wd.heap.size, 0, none⟩ = some (.int .i64 kd) ∧ w'.cell? ⟨wd.heap.size, 1, none⟩ = some (.int .i64 Q) ∧ w'.cell? ⟨wd.heap.size, 2, none⟩ = some (.slice A2 Kps.length C2) ∧ w'.cell? ⟨wd.heap.size, 3, none⟩ = some (.slice A3 Kbody.length C3))
            (first | go_keep | exact ⟨cP, k0, k1, k2, k3⟩)
            (first
              | (refine step_append_stmts rfl _ _ rfl V10 (.slice RA (0) RC) (body.take (body.length) ++ mk) (body.drop (body.length)) w7.heap.size rfl rfl h10 hRV.feed (by rw [List.length_append, List.length_take, List.length_drop]; omega) (by omega) ?_
                 intro V11 w11 h11 hg11 hb11 hf11
                 have cP := (hb11.cell (p := ⟨PB, _, none⟩) (show PB < w7.heap.size by omega)).trans cP
                 have k0 := (hb11.cell (p := ⟨wd.heap.size, _, none⟩) (show wd.heap.size < w7.heap.size by omega)).trans k0
                 have k1 := (hb11.cell (p := ⟨wd.heap.size, _, none⟩) (show wd.heap.size < w7.heap.size by omega)).trans k1
                 have k2 := (hb11.cell (p := ⟨wd.heap.size, _, none⟩) (show wd.heap.size < w7.heap.size by omega)).trans k2
                 have k3 := (hb11.cell (p := ⟨wd.heap.size, _, none⟩) (show wd.heap.size < w7.heap.size by omega)).trans k3
                 have b3 := (hb11.cell (p := ⟨ga, _, none⟩) (show ga < w7.heap.size by omega)).trans b3
                 have hrow := PRowX.pastB hrow7 hrow hb11 (Nat.le_refl _)
                 have hKp := Ints.pastB hKp7 hKp hb11 (Nat.le_refl _)
                 have hKb := Stmts.pastB hKb7 hKb hb11 (Nat.le_refl _)
                 have hr := hr.grown hg11 (fun k hk => by have := own_block_ge h10 k hk; omega)
                 have hcur := hcur.grow hg11 (fun k hk => by have := own_block_ge h10 k hk; simp only [World.size_alloc]; omega)
                 have hcw := hcw.grow hg11 (fun k hk => by have := own_block_ge h10 k hk; show wr.heap.size ≤ k; omega)
                 have hz11 : w7.heap.size ≤ w11.heap.size := Nat.le_trans hz10 hb11.size)
              | (refine step_append_stmts rfl _ _ rfl V8 V9 (body.take (body.length)) mk w7.heap.size rfl rfl h8 h9.feed (by rw [List.length_take]; omega) (by omega) ?_
                 intro V10 w10 h10 hg10 hb10 hf10
                 have cP := (hb10.cell (p := ⟨PB, _, none⟩) (show PB < w7.heap.size by omega)).trans cP
                 have k0 := (hb10.cell (p := ⟨wd.heap.size, _, none⟩) (show wd.heap.size < w7.heap.size by omega)).trans k0
                 have k1 := (hb10.cell (p := ⟨wd.heap.size, _, none⟩) (show wd.heap.size < w7.heap.size by omega)).trans k1
                 have k2 := (hb10.cell (p := ⟨wd.heap.size, _, none⟩) (show wd.heap.size < w7.heap.size by omega)).trans k2
                 have k3 := (hb10.cell (p := ⟨wd.heap.size, _, none⟩) (show wd.heap.size < w7.heap.size by omega)).trans k3
                 have b3 := (hb10.cell (p := ⟨ga, _, none⟩) (show ga < w7.heap.size by omega)).trans b3
                 have hrow := PRowX.pastB hrow7 hrow hb10 (Nat.le_refl _)
                 have hKp := Ints.pastB hKp7 hKp hb10 (Nat.le_refl _)
                 have hKb := Stmts.pastB hKb7 hKb hb10 (Nat.le_refl _)
                 have hRV := Stmts.pastB hRV7 hRV hb10 (Nat.le_refl _)
                 have hr := hr.grown hg10 (fun k hk => by have := own_block_ge h8 k hk; omega)
                 have hcur := hcur.grow hg10 (fun k hk => by have := own_block_ge h8 k hk; simp only [World.size_alloc]; omega)
                 have hcw := hcw.grow hg10 (fun k hk => by have := own_block_ge h8 k hk; show wr.heap.size ≤ k; omega)
                 have hz10 : w7.heap.size ≤ w10.heap.size := Nat.le_trans hz9 hb10.size)
              | (go_at_call 97
                 refine (S_making g _ ⟨kd, Q, Kps, Kbody⟩ _ _ p.length _ _ _ hr (by omega) hKp hKb).mono ?_
                 rintro e w9 ⟨V9, mk, rfl, h9, hm1, hm2, hm3, hr, ho⟩
                 have cP := cell_only ho cP (by omega)
                 have k0 := cell_only ho k0 (by omega)
                 have k1 := cell_only ho k1 (by omega)
                 have k2 := cell_only ho k2 (by omega)
                 have k3 := cell_only ho k3 (by omega)
                 have b3 := cell_only ho b3 (by omega)
                 have hrow := PRowX.only hrow ho (by omega)
                 have hKp := Ints.only hKp ho (by omega)
                 have hKb := Stmts.only hKb ho (by omega)
                 have hRV := Stmts.only hRV ho (by omega)
                 have h8 := Stmts.only h8 ho (by omega)
                 have hcur := hcur.trans ho
                 have hcw := hcw.trans ho
                 have hz9 : w7.heap.size ≤ w9.heap.size := Nat.le_trans hz8 ho.size
                 clear ho)
              | (refine step_append_stmts rfl _ _ rfl _ _ [] (body.take (body.length)) w7.heap.size rfl rfl (Stmts.zero rfl (Nat.le_refl _)) ((Stmts.upto_ hbv (body.length) _ (by omega)).keep al1) (by first | (simp; done) | (simp; omega)) (by simp) ?_
                 intro V8 w8 h8 hg8 hb8 hf8
                 have hx8 : Below w7.drew.heap.size w7.drew w8 := al1.trans hb8
                 rw [List.nil_append] at h8
                 have cP := cell_later hx8 cP
                 have k0 := cell_later hx8 k0
                 have k1 := cell_later hx8 k1
                 have k2 := cell_later hx8 k2
                 have k3 := cell_later hx8 k3
                 have b3 := cell_later hx8 b3
                 have hrow := PRowX.keep hrow hx8
                 have hKp := hKp.keep hx8
                 have hKb := hKb.keep hx8
                 have hRV := hRV.keep hx8
                 have hr := hr.keep hx8
                 have hcur := hcur.trans (Only.of_below hx8)
                 have hcw := hcw.trans (Only.of_below hx8)
                 have hz8 : w7.heap.size ≤ w8.heap.size := hx8.size))
          obtain ⟨A11, C11, rfl⟩ := h11.form
          obtain ⟨NB, hNB⟩ : ∃ NB : List St, NB = body.take (body.length) ++ mk ++ body.drop (body.length) := ⟨_, rfl⟩
          rw [← hNB] at h11
          have hNB1 : 1 ≤ NB.length := by rw [hNB, List.length_append, List.length_append]; omega
          have hNB5 : ∀ s ∈ NB, 0 ≤ s.to ∧ s.to ≤ 7 := fun s hs => by
            rw [hNB] at hs
            rcases List.mem_append.1 hs with h | h
            · rcases List.mem_append.1 h with h | h
              · exact HTOS.out s (List.mem_of_mem_take h)
              · exact hm3 s h
            · exact HTOS.out s (List.mem_of_mem_drop h)
          have HNB5 := Lib.hid hNB5
          have hbx : BoxP w11 PB (.slice (some ⟨ga, 0, none⟩) p.length Cp) := HBP.out.only (w := wr) (Only.trans (Only.refl g (g + 1) wr).drew hcw) (by omega)
          have hgaPB : ga ≠ PB := fun e => hne (by rw [← e]; rfl)
          have hfb : ∀ j, w11.frozen? ⟨PB, j, none⟩ = false := fun j => by rw [World.frozen?, hbx]; rfl
          rw [← hNB]
          have h12i : (12 : Int) < 13 := by omega
          clear hNB5 hNB
          by_cases h12 : NB.length ≤ 12
          · obtain ⟨ga3, Cp3, ea, _, _, _, _, _, hfz⟩ := PRowX.rd hrow hp1
            obtain ⟨rfl, rfl⟩ : ga = ga3 ∧ Cp = Cp3 := by simpa using ea
            have fb3 := hfz (Q * 4 + 3)
            have hrow12 := PRowX.setBody (PRowX.part hrow Q) hQ (h11.lo_ (lo' := w.heap.size + 1) (by omega)) (fun i hi _ => Apart.of_lt (PRowX.full hrow7 hi) (own_block_ge h11))
            have hKp12 := (Ints.set hKp (a := ⟨ga, Q * 4 + 3, none⟩) (show ga < wc.heap.size by omega) (.slice A11 NB.length C11)).lo_ (lo' := w.heap.size + 1) (by omega)
            have hKb12 := (Stmts.set hKb (a := ⟨ga, Q * 4 + 3, none⟩) (show ga < wc.heap.size by omega) (.slice A11 NB.length C11)).lo_ (lo' := w.heap.size + 1) (by omega)
            have hap12 : ∀ i, i < (p.set Q { p.getD Q default with body := NB }).length → Apart ((xs.set (Q * 4 + 3) (.slice A11 NB.length C11)).getD (i * 4 + 3) undef) (.slice A3 Kbody.length C3) := fun i hi => by
              rw [List.length_set] at hi
              by_cases e : i = Q
              · subst e
                rw [getD_set_eq _ _ _ _ (by have := hrow.own.1; omega)]
                exact fun r h1 h2 => by
                  have a1 := own_block_ge h11 r h1
                  have a2 : r < w7.heap.size := own_block_lt hKb7 r h2
                  omega
              · rw [getD_set_ne _ _ _ _ _ (by omega)]
                exact Apart.of_lt (PRowX.full hrowb hi) (fun r hr => by have := own_block_ge hKb r hr; omega)
            have hbx12 := hbx.other ⟨ga, Q * 4 + 3, none⟩ (.slice A11 NB.length C11) (fun e => hgaPB e.symm)
            have hz12 : w7.heap.size ≤ (w11.setCell ⟨ga, Q * 4 + 3, none⟩ (.slice A11 NB.length C11)).heap.size := by simpa using hz11
            have hr12 := hr.store (p := ⟨ga, Q * 4 + 3, none⟩) (show g < ga by omega) (.slice A11 NB.length C11)
            have hcur12 := hcur.store (p := ⟨ga, Q * 4 + 3, none⟩) (show _ ≤ ga by simp only [World.size_alloc]; omega) (.slice A11 NB.length C11)
            have hlen12 : (p.set Q { p.getD Q default with body := NB }).length = p.length := List.length_set
            have HNBL := Lib.hid h12
            clear hfz ea
            go_wp2_with (at_builtin; refine wpList_append_block rfl _ _ rfl (.slice (some ⟨ga, 0, none⟩) p.length Cp) (.slice A2 Kps.length C2) (.slice A3 Kbody.length C3) _ _ ⟨kd, Q, Kps, Kbody⟩ (w.heap.size + 1) w11.heap.size (by simp) rfl rfl hrow12 hKp12 hKb12 hap12 (by rw [hlen12]; omega) (by omega) ?_; intro NV w13 hrow13 hg13 hb13 hf13; obtain ⟨NA, NC, rfl⟩ := PRowX.form hrow13; have hbx13 := (hbx12.below (al1 (o := .cells (bkCells ⟨kd, Q, Kps, Kbody⟩ (.slice A2 Kps.length C2) (.slice A3 Kbody.length C3)).toArray 59)) (lt_of_block hbx12)).grown hg13 (fun e => hgaPB (Option.some.inj e).symm); have z1 := hbx13.cell; have z2 : ∀ j, w13.frozen? ⟨PB, j, none⟩ = false := fun j => by rw [World.frozen?, hbx13]; rfl)
            have el : (p.set Q { p.getD Q default with body := NB } ++ [(⟨kd, Q, Kps, Kbody⟩ : Bk)]).length = p.length + 1 := by rw [List.length_append, hlen12]; rfl
            have hV : Value.slice NA (p.set Q { p.getD Q default with body := NB } ++ [(⟨kd, Q, Kps, Kbody⟩ : Bk)]).length NC = .slice NA (p.length + 1) NC := by rw [el]
            have hrow14 : PRow w13 (w.heap.size + 1) (.slice NA (p.length + 1) NC) (xs.set (Q * 4 + 3) (.slice A11 NB.length C11) ++ bkCells ⟨kd, Q, Kps, Kbody⟩ (.slice A2 Kps.length C2) (.slice A3 Kbody.length C3)) (p.set Q { p.getD Q default with body := NB } ++ [(⟨kd, Q, Kps, Kbody⟩ : Bk)]) := by rw [← hV]; exact hrow13
            have hne14 : (Value.slice NA (p.length + 1) NC).ownBlock ≠ some PB := fun e => by
              rw [← hV] at e
              have hlt := lt_of_block hbx12
              rcases hf13 with h | ⟨gg, h, h'⟩
              · rw [e] at h
                exact hgaPB (Option.some.inj h).symm
              · rw [e] at h
                have := Option.some.inj h
                omega
            have hr14 := (hr12.keep (al1 (o := .cells (bkCells ⟨kd, Q, Kps, Kbody⟩ (.slice A2 Kps.length C2) (.slice A3 Kbody.length C3)).toArray 59))).grown hg13 (fun k hk => by have : ga = k := Option.some.inj hk; omega)
            have hcur14 := (hcur12.alloc (.cells (bkCells ⟨kd, Q, Kps, Kbody⟩ (.slice A2 Kps.length C2) (.slice A3 Kbody.length C3)).toArray 59)).grow hg13 (fun k hk => by have : ga = k := Option.some.inj hk; simp only [World.size_alloc]; omega)
            clear hrow13 hf13 hb13
            go_roundw
            case rel => exact ⟨r - 1, _, _, _, by go_num, by rw [el]; omega, Tame.add (Tame.setBody HT.out hQ hNB1 HNBL.out HNB5.out) hK4 (show Kbody.length ≤ 12 by omega) hK3 hQ0 (by rw [hlen12]; exact hQ1) HK6.out, BoxP.rows hrow14 hbx13 _, hbx13.set _, fun j => by simp [go_sem]; exact z2 j, by have := lt_of_block hbx13; simpa using this, hne14, (hr14.store (p := ⟨PB, 0, none⟩) (show g < PB by omega) _).mono (by omega), hcur14.store (p := ⟨PB, 0, none⟩) (show _ ≤ PB by simp only [World.size_alloc]; omega) _⟩
            case measure => simp [intOf]; omega
          · go_wp2
            go_roundw
            case rel => exact ⟨r - 1, _, xs, p, by go_num, by omega, HT.out, hrow, hbx, hfb, by have := lt_of_block hbx; omega, hne, hr.mono (by omega), hcur⟩
            case measure => simp [intOf]; omega
        · have hCT2 : T < Cb := by omega
          have hT0 : (0 : Int) ≤ ((T : Nat) : Int) := by omega
          have hTb : ((T : Nat) : Int) ≤ (body.length : Int) := by omega
          have hTc : ((T : Nat) : Int) ≤ (Cb : Int) := by omega
          go_wp2_with (at_builtin; refine wpList_append_stmts rfl _ _ rfl _ _ [] (body.drop (T)) we.heap.size rfl rfl (Stmts.zero rfl (Nat.le_refl _)) ((Stmts.from_ hbv (T) _ _ _ (by first | omega | (simp; done) | (simp; omega)) (by omega) (by first | omega | (simp; done) | (simp; omega))).keep al1) (by first | (simp; done) | (simp; omega)) (by simp) ?_; intro RV w7 hRV hg7 hb7 hf7; have hx7 : Below we.heap.size we w7 := al1.trans hb7; rw [List.nil_append] at hRV; obtain ⟨RA, RC, rfl⟩ := hRV.form; rw [show (body.drop (T)).length = body.length - (T) from List.length_drop] at hRV)
          have hz7 : we.heap.size ≤ w7.heap.size := hx7.size
          have cP := cell_later hx7 cP
          have k0 := cell_later hx7 k0
          have k1 := cell_later hx7 k1
          have k2 := cell_later hx7 k2
          have k3 := cell_later hx7 k3
          have b3 := cell_later hx7 b3
          have hrow7 := (PRowX.keep hrow hx7).keep (below0 w7).drew
          have hKp7 := (hKp.keep hx7).keep (below0 w7).drew
          have hKb7 := (hKb.keep hx7).keep (below0 w7).drew
          have hbv7 := (hbv.keep hx7).keep (below0 w7).drew
          have hRV7 := hRV.keep (below0 w7).drew
          have hrow := hrow7
          have hKp := hKp7
          have hKb := hKb7
          have hbv := hbv7
          have hRV := hRV7
          have hr := (hr.keep hx7).drew
          have hcur := (hcur.trans (Only.of_below hx7)).drew
          have hcw := (hcw.trans (Only.of_below hx7)).drew
          clear hx7 hb7 hg7 hf7
          go_region_held3 (fun w' => w'.cell? ⟨PB, 0, none⟩ = some (.slice (some ⟨ga, 0, none⟩) p.length Cp) ∧ w'.cell? ⟨wd.heap.size, 0, none⟩ = some (.int .i64 kd) ∧ w'.cell? ⟨wd.heap.size, 1, none⟩ = some (.int .i64 Q) ∧ w'.cell? ⟨wd.heap.size, 2, none⟩ = some (.slice A2 Kps.length C2) ∧ w'.cell? ⟨wd.heap.size, 3, none⟩ = some (.slice A3 Kbody.length C3))
            (first | go_keep | exact ⟨cP, k0, k1, k2, k3⟩)
            (first
              | (refine step_append_stmts rfl _ _ rfl V10 (.slice RA (body.length - (T)) RC) (body.take (T) ++ mk) (body.drop (T)) w7.heap.size rfl rfl h10 hRV.feed (by rw [List.length_append, List.length_take, List.length_drop]; omega) (by omega) ?_
                 intro V11 w11 h11 hg11 hb11 hf11
                 have cP := (hb11.cell (p := ⟨PB, _, none⟩) (show PB < w7.heap.size by omega)).trans cP
                 have k0 := (hb11.cell (p := ⟨wd.heap.size, _, none⟩) (show wd.heap.size < w7.heap.size by omega)).trans k0
                 have k1 := (hb11.cell (p := ⟨wd.heap.size, _, none⟩) (show wd.heap.size < w7.heap.size by omega)).trans k1
                 have k2 := (hb11.cell (p := ⟨wd.heap.size, _, none⟩) (show wd.heap.size < w7.heap.size by omega)).trans k2
                 have k3 := (hb11.cell (p := ⟨wd.heap.size, _, none⟩) (show wd.heap.size < w7.heap.size by omega)).trans k3
                 have b3 := (hb11.cell (p := ⟨ga, _, none⟩) (show ga < w7.heap.size by omega)).trans b3
                 have hrow := PRowX.pastB hrow7 hrow hb11 (Nat.le_refl _)
                 have hKp := Ints.pastB hKp7 hKp hb11 (Nat.le_refl _)
                 have hKb := Stmts.pastB hKb7 hKb hb11 (Nat.le_refl _)
                 have hr := hr.grown hg11 (fun k hk => by have := own_block_ge h10 k hk; omega)
                 have hcur := hcur.grow hg11 (fun k hk => by have := own_block_ge h10 k hk; simp only [World.size_alloc]; omega)
                 have hcw := hcw.grow hg11 (fun k hk => by have := own_block_ge h10 k hk; show wr.heap.size ≤ k; omega)
                 have hz11 : w7.heap.size ≤ w11.heap.size := Nat.le_trans hz10 hb11.size)
              | (refine step_append_stmts rfl _ _ rfl V8 V9 (body.take (T)) mk w7.heap.size rfl rfl h8 h9.feed (by rw [List.length_take]; omega) (by omega) ?_
                 intro V10 w10 h10 hg10 hb10 hf10
                 have cP := (hb10.cell (p := ⟨PB, _, none⟩) (show PB < w7.heap.size by omega)).trans cP
                 have k0 := (hb10.cell (p := ⟨wd.heap.size, _, none⟩) (show wd.heap.size < w7.heap.size by omega)).trans k0
                 have k1 := (hb10.cell (p := ⟨wd.heap.size, _, none⟩) (show wd.heap.size < w7.heap.size by omega)).trans k1
                 have k2 := (hb10.cell (p := ⟨wd.heap.size, _, none⟩) (show wd.heap.size < w7.heap.size by omega)).trans k2
                 have k3 := (hb10.cell (p := ⟨wd.heap.size, _, none⟩) (show wd.heap.size < w7.heap.size by omega)).trans k3
                 have b3 := (hb10.cell (p := ⟨ga, _, none⟩) (show ga < w7.heap.size by omega)).trans b3
                 have hrow := PRowX.pastB hrow7 hrow hb10 (Nat.le_refl _)
                 have hKp := Ints.pastB hKp7 hKp hb10 (Nat.le_refl _)
                 have hKb := Stmts.pastB hKb7 hKb hb10 (Nat.le_refl _)
                 have hRV := Stmts.pastB hRV7 hRV hb10 (Nat.le_refl _)
                 have hr := hr.grown hg10 (fun k hk => by have := own_block_ge h8 k hk; omega)
                 have hcur := hcur.grow hg10 (fun k hk => by have := own_block_ge h8 k hk; simp only [World.size_alloc]; omega)
                 have hcw := hcw.grow hg10 (fun k hk => by have := own_block_ge h8 k hk; show wr.heap.size ≤ k; omega)
                 have hz10 : w7.heap.size ≤ w10.heap.size := Nat.le_trans hz9 hb10.size)
              | (go_at_call 97
                 refine (S_making g _ ⟨kd, Q, Kps, Kbody⟩ _ _ p.length _ _ _ hr (by omega) hKp hKb).mono ?_
                 rintro e w9 ⟨V9, mk, rfl, h9, hm1, hm2, hm3, hr, ho⟩
                 have cP := cell_only ho cP (by omega)
                 have k0 := cell_only ho k0 (by omega)
                 have k1 := cell_only ho k1 (by omega)
                 have k2 := cell_only ho k2 (by omega)
                 have k3 := cell_only ho k3 (by omega)
                 have b3 := cell_only ho b3 (by omega)
                 have hrow := PRowX.only hrow ho (by omega)
                 have hKp := Ints.only hKp ho (by omega)
                 have hKb := Stmts.only hKb ho (by omega)
                 have hRV := Stmts.only hRV ho (by omega)
                 have h8 := Stmts.only h8 ho (by omega)
                 have hcur := hcur.trans ho
                 have hcw := hcw.trans ho
                 have hz9 : w7.heap.size ≤ w9.heap.size := Nat.le_trans hz8 ho.size
                 clear ho)
              | (refine step_append_stmts rfl _ _ rfl _ _ [] (body.take (T)) w7.heap.size rfl rfl (Stmts.zero rfl (Nat.le_refl _)) ((Stmts.upto_ hbv (T) _ (by omega)).keep al1) (by first | (simp; done) | (simp; omega)) (by simp) ?_
                 intro V8 w8 h8 hg8 hb8 hf8
                 have hx8 : Below w7.drew.heap.size w7.drew w8 := al1.trans hb8
                 rw [List.nil_append] at h8
                 have cP := cell_later hx8 cP
                 have k0 := cell_later hx8 k0
                 have k1 := cell_later hx8 k1
                 have k2 := cell_later hx8 k2
                 have k3 := cell_later hx8 k3
                 have b3 := cell_later hx8 b3
                 have hrow := PRowX.keep hrow hx8
                 have hKp := hKp.keep hx8
                 have hKb := hKb.keep hx8
                 have hRV := hRV.keep hx8
                 have hr := hr.keep hx8
                 have hcur := hcur.trans (Only.of_below hx8)
                 have hcw := hcw.trans (Only.of_below hx8)
                 have hz8 : w7.heap.size ≤ w8.heap.size := hx8.size))
          obtain ⟨A11, C11, rfl⟩ := h11.form
          obtain ⟨NB, hNB⟩ : ∃ NB : List St, NB = body.take (T) ++ mk ++ body.drop (T) := ⟨_, rfl⟩
          rw [← hNB] at h11
          have hNB1 : 1 ≤ NB.length := by rw [hNB, List.length_append, List.length_append]; omega
          have hNB5 : ∀ s ∈ NB, 0 ≤ s.to ∧ s.to ≤ 7 := fun s hs => by
            rw [hNB] at hs
            rcases List.mem_append.1 hs with h | h
            · rcases List.mem_append.1 h with h | h
              · exact HTOS.out s (List.mem_of_mem_take h)
              · exact hm3 s h
            · exact HTOS.out s (List.mem_of_mem_drop h)
          have HNB5 := Lib.hid hNB5
          have hbx : BoxP w11 PB (.slice (some ⟨ga, 0, none⟩) p.length Cp) := HBP.out.only (w := wr) (Only.trans (Only.refl g (g + 1) wr).drew hcw) (by omega)
          have hgaPB : ga ≠ PB := fun e => hne (by rw [← e]; rfl)
          have hfb : ∀ j, w11.frozen? ⟨PB, j, none⟩ = false := fun j => by rw [World.frozen?, hbx]; rfl
          rw [← hNB]
          have h12i : (12 : Int) < 13 := by omega
          clear hNB5 hNB
          by_cases h12 : NB.length ≤ 12
          · obtain ⟨ga3, Cp3, ea, _, _, _, _, _, hfz⟩ := PRowX.rd hrow hp1
            obtain ⟨rfl, rfl⟩ : ga = ga3 ∧ Cp = Cp3 := by simpa using ea
            have fb3 := hfz (Q * 4 + 3)
            have hrow12 := PRowX.setBody (PRowX.part hrow Q) hQ (h11.lo_ (lo' := w.heap.size + 1) (by omega)) (fun i hi _ => Apart.of_lt (PRowX.full hrow7 hi) (own_block_ge h11))
            have hKp12 := (Ints.set hKp (a := ⟨ga, Q * 4 + 3, none⟩) (show ga < wc.heap.size by omega) (.slice A11 NB.length C11)).lo_ (lo' := w.heap.size + 1) (by omega)
            have hKb12 := (Stmts.set hKb (a := ⟨ga, Q * 4 + 3, none⟩) (show ga < wc.heap.size by omega) (.slice A11 NB.length C11)).lo_ (lo' := w.heap.size + 1) (by omega)
            have hap12 : ∀ i, i < (p.set Q { p.getD Q default with body := NB }).length → Apart ((xs.set (Q * 4 + 3) (.slice A11 NB.length C11)).getD (i * 4 + 3) undef) (.slice A3 Kbody.length C3) := fun i hi => by
              rw [List.length_set] at hi
              by_cases e : i = Q
              · subst e
                rw [getD_set_eq _ _ _ _ (by have := hrow.own.1; omega)]
                exact fun r h1 h2 => by
                  have a1 := own_block_ge h11 r h1
                  have a2 : r < w7.heap.size := own_block_lt hKb7 r h2
                  omega
              · rw [getD_set_ne _ _ _ _ _ (by omega)]
                exact Apart.of_lt (PRowX.full hrowb hi) (fun r hr => by have := own_block_ge hKb r hr; omega)
            have hbx12 := hbx.other ⟨ga, Q * 4 + 3, none⟩ (.slice A11 NB.length C11) (fun e => hgaPB e.symm)
            have hz12 : w7.heap.size ≤ (w11.setCell ⟨ga, Q * 4 + 3, none⟩ (.slice A11 NB.length C11)).heap.size := by simpa using hz11
            have hr12 := hr.store (p := ⟨ga, Q * 4 + 3, none⟩) (show g < ga by omega) (.slice A11 NB.length C11)
            have hcur12 := hcur.store (p := ⟨ga, Q * 4 + 3, none⟩) (show _ ≤ ga by simp only [World.size_alloc]; omega) (.slice A11 NB.length C11)
            have hlen12 : (p.set Q { p.getD Q default with body := NB }).length = p.length := List.length_set
            have HNBL := Lib.hid h12
            clear hfz ea
            go_wp2_with (at_builtin; refine wpList_append_block rfl _ _ rfl (.slice (some ⟨ga, 0, none⟩) p.length Cp) (.slice A2 Kps.length C2) (.slice A3 Kbody.length C3) _ _ ⟨kd, Q, Kps, Kbody⟩ (w.heap.size + 1) w11.heap.size (by simp) rfl rfl hrow12 hKp12 hKb12 hap12 (by rw [hlen12]; omega) (by omega) ?_; intro NV w13 hrow13 hg13 hb13 hf13; obtain ⟨NA, NC, rfl⟩ := PRowX.form hrow13; have hbx13 := (hbx12.below (al1 (o := .cells (bkCells ⟨kd, Q, Kps, Kbody⟩ (.slice A2 Kps.length C2) (.slice A3 Kbody.length C3)).toArray 59)) (lt_of_block hbx12)).grown hg13 (fun e => hgaPB (Option.some.inj e).symm); have z1 := hbx13.cell; have z2 : ∀ j, w13.frozen? ⟨PB, j, none⟩ = false := fun j => by rw [World.frozen?, hbx13]; rfl)
            have el : (p.set Q { p.getD Q default with body := NB } ++ [(⟨kd, Q, Kps, Kbody⟩ : Bk)]).length = p.length + 1 := by rw [List.length_append, hlen12]; rfl
            have hV : Value.slice NA (p.set Q { p.getD Q default with body := NB } ++ [(⟨kd, Q, Kps, Kbody⟩ : Bk)]).length NC = .slice NA (p.length + 1) NC := by rw [el]
            have hrow14 : PRow w13 (w.heap.size + 1) (.slice NA (p.length + 1) NC) (xs.set (Q * 4 + 3) (.slice A11 NB.length C11) ++ bkCells ⟨kd, Q, Kps, Kbody⟩ (.slice A2 Kps.length C2) (.slice A3 Kbody.length C3)) (p.set Q { p.getD Q default with body := NB } ++ [(⟨kd, Q, Kps, Kbody⟩ : Bk)]) := by rw [← hV]; exact hrow13
            have hne14 : (Value.slice NA (p.length + 1) NC).ownBlock ≠ some PB := fun e => by
              rw [← hV] at e
              have hlt := lt_of_block hbx12
              rcases hf13 with h | ⟨gg, h, h'⟩
              · rw [e] at h
                exact hgaPB (Option.some.inj h).symm
              · rw [e] at h
                have := Option.some.inj h
                omega
            have hr14 := (hr12.keep (al1 (o := .cells (bkCells ⟨kd, Q, Kps, Kbody⟩ (.slice A2 Kps.length C2) (.slice A3 Kbody.length C3)).toArray 59))).grown hg13 (fun k hk => by have : ga = k := Option.some.inj hk; omega)
            have hcur14 := (hcur12.alloc (.cells (bkCells ⟨kd, Q, Kps, Kbody⟩ (.slice A2 Kps.length C2) (.slice A3 Kbody.length C3)).toArray 59)).grow hg13 (fun k hk => by have : ga = k := Option.some.inj hk; simp only [World.size_alloc]; omega)
            clear hrow13 hf13 hb13
            go_roundw
            case rel => exact ⟨r - 1, _, _, _, by go_num, by rw [el]; omega, Tame.add (Tame.setBody HT.out hQ hNB1 HNBL.out HNB5.out) hK4 (show Kbody.length ≤ 12 by omega) hK3 hQ0 (by rw [hlen12]; exact hQ1) HK6.out, BoxP.rows hrow14 hbx13 _, hbx13.set _, fun j => by simp [go_sem]; exact z2 j, by have := lt_of_block hbx13; simpa using this, hne14, (hr14.store (p := ⟨PB, 0, none⟩) (show g < PB by omega) _).mono (by omega), hcur14.store (p := ⟨PB, 0, none⟩) (show _ ≤ PB by simp only [World.size_alloc]; omega) _⟩
            case measure => simp [intOf]; omega
          · go_wp2
            go_roundw
            case rel => exact ⟨r - 1, _, xs, p, by go_num, by omega, HT.out, hrow, hbx, hfb, by have := lt_of_block hbx; omega, hne, hr.mono (by omega), hcur⟩
            case measure => simp [intOf]; omega
    · obtain rfl : r = 0 := by omega
      have cP := cP
      have r1 := fun o => (ocell hcur).1 w.heap.size o (by omega) (by simp)
      have m1 := fun o => (ocell hcur).2 w.heap.size o (by omega) (by simp)
      obtain ⟨pA, pC, rfl⟩ := PRowX.form hrow
      go_wp2
      exact bodyPost_ret (v := .agg #[.slice pA p.length pC]) (by simp [results, Try.results60, go_sem, r1]) rfl
        ⟨_, xs, p, rfl, (PRowX.only hrow ((Only.refl w.heap.size (w.heap.size + 1) wr).setCell (Nat.le_refl _) (Nat.lt_succ_self _) _) (Nat.le_refl _)).lo_ (by omega), hT, by omega, (hr.store (p := ⟨w.heap.size, 0, none⟩) hgl _).mono (by omega), ((Only.of_below al1).trans hcur).store (Nat.le_refl _) _⟩

end Go.Proofs.Ytelhemhbgpfokaa
