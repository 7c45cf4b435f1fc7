/-
  Walks: the reference's copyProgram, bare. Condition: the argument reads as a program.
-/
import Derived.Test.YtelhemhbgpfokaaRegTail
import Derived.Test.YtelhemhbgpfokaaDraw3
namespace Go.Proofs.Ytelhemhbgpfokaa
open Go.RowKit
set_option linter.unusedVariables false

/-- Rows that stood in an elder world stay behind an append to a row that is younger. -/
theorem PRowX.past {w0 w w' : World} {lo k : Nat} {v : Value} {xs : List Value} {p : Pr} {row : Option Nat} (h0 : PRowX w0 lo v xs p k) (h : PRowX w lo v xs p k) (hg : w.grownBy w' row) (hr : ∀ r, row = some r → w0.heap.size ≤ r) : PRowX w' lo v xs p k := by
  have ne : ∀ {V : Value} {e size n : Nat} {ys : List Value}, w0.ownsRow lo e size V n ys → V.ownBlock = none ∨ V.ownBlock ≠ row := fun {V} {e} {size} {n} {ys} hV => by
    rcases hq : V.ownBlock with _ | r
    · exact .inl rfl
    · right
      intro hc
      have h1 := own_block_lt hV r hq
      have h2 := hr r hc.symm
      omega
  exact ⟨World.ownsRow.kept h.own hg (ne h0.own), h.head, fun i hi => Ints.kept (h.pars i hi) hg (ne (h0.pars i hi)), fun i hi hk => Stmts.kept (h.body i hi hk) hg (ne (h0.body i hi hk)), h.apart⟩
theorem Apart.of_lt {w0 : World} {lo : Nat} {V U : Value} {l : List St} (h : Stmts w0 lo V l) (hU : ∀ r, U.ownBlock = some r → w0.heap.size ≤ r) : Apart V U := by
  intro r h1 h2
  have := own_block_lt h r h1
  have := hU r h2
  omega
theorem PRowX.form {w : World} {lo k : Nat} {v : Value} {xs : List Value} {p : Pr} (h : PRowX w lo v xs p k) : ∃ A C, v = .slice A p.length C := by
  obtain ⟨A, C, _, hv, _⟩ := own_rd h.own
  exact ⟨A, C, hv⟩

set_option maxRecDepth 100000 in
set_option maxHeartbeats 8000000 in
theorem S_copyProgram (v : Value) (p : Pr) (lo : Nat) (w : World) (hv : Prog w lo v p) (hl : p.length ≤ 1000) (hbl : ∀ b, b < p.length → (p.getD b default).body.length ≤ 1000 ∧ (p.getD b default).params.length ≤ 1000) :
    Calls Try.prog 105 #[v] w fun e w' => ∃ sl xs, e = .returned (.agg #[sl]) ∧ PRow w' w.heap.size sl xs p ∧ Below w.heap.size w w' := by
  obtain ⟨sl, rfl, hv⟩ := hv
  obtain ⟨A, C, g, rfl, hn, hc, hA, hg, hcell, hf⟩ := hv.rd
  have HV := Lib.hid hv
  have HCELL := Lib.hid hcell
  have HBL := Lib.hid hbl
  unfold maxLen at hc
  clear hv hcell hf hbl
  go_enter Try.func105, Try.ntmps105
  go_wp2
  obtain ⟨W0, hW0⟩ : ∃ W0 : World, W0 = ((w.alloc (.cells #[.slice A p.length C] 25)).alloc (.cells #[.slice none 0 0] 25)) := ⟨_, rfl⟩
  have hb0 : Below w.heap.size w W0 := by rw [hW0]; exact al2
  have z0 : W0.heap.size = w.heap.size + 2 := by rw [hW0]; simp
  have c0 : W0.cell? ⟨w.heap.size, 0, none⟩ = some (.slice A p.length C) := by rw [hW0]; simp [go_sem]
  rw [← hW0]
  have HW0 := Lib.hid hW0
  have HB0 := Lib.hid hb0
  clear hb0 hW0
  go_loopw [4] (fun i wr => ∃ (k : Nat) (ov : Value) (xs : List Value), k ≤ p.length ∧ i = .int .i64 k ∧ PRow wr (w.heap.size + 3) ov xs (p.take k) ∧ wr.cell? ⟨w.heap.size + 2, 0, none⟩ = some ov ∧ (∀ j, wr.frozen? ⟨w.heap.size + 2, j, none⟩ = false) ∧ Below W0.heap.size W0 wr ∧ w.heap.size + 3 ≤ wr.heap.size) (fun i _ => p.length - (intOf i).toNat)
  case atStart => exact ⟨0, _, _, Nat.zero_le _, rfl, PRowX.nil _ _, by simp [go_sem, z0], fun j => by simp [go_sem, z0], al1, by simp [z0]⟩
  case round =>
    obtain ⟨k, ov, xs, hk, rfl, hrow, hov, hfz, hB, hz⟩ := hrel
    by_cases hlt : k < p.length
    · obtain ⟨pv, bv, d0, d1, d2, d3, hp, hb⟩ := HCELL.out k hlt
      obtain ⟨hgl, hgw⟩ := hg (by omega)
      have hBw : Below w.heap.size w wr := HB0.out.trans (hB.mono (by omega))
      have e0 := (hBw.cell (p := ⟨g, k * 4, none⟩) hgw).trans d0
      have e1 := (hBw.cell (p := ⟨g, k * 4 + 1, none⟩) hgw).trans d1
      have e2 := (hBw.cell (p := ⟨g, k * 4 + 2, none⟩) hgw).trans d2
      have e3 := (hBw.cell (p := ⟨g, k * 4 + 3, none⟩) hgw).trans d3
      have hp2 := hp.keep hBw
      have hb2 := hb.keep hBw
      clear d0 d1 d2 d3 hp hb
      obtain ⟨hbl1, hbl2⟩ := HBL.out k hlt
      have cb : wr.cell? ⟨w.heap.size, 0, none⟩ = some (.slice A p.length C) := (hB.cell (p := ⟨w.heap.size, 0, none⟩) (by show w.heap.size < _; omega)).trans c0
      obtain rfl := hA (by omega)
      obtain ⟨A2, C2, rfl⟩ := hp2.form
      obtain ⟨A3, C3, rfl⟩ := hb2.form
      obtain ⟨K, hK⟩ : ∃ K : Bk, K = p.getD k default := ⟨_, rfl⟩
      rw [← hK] at e0 e1 e2 e3 hp2 hb2 hbl1 hbl2
      have HK := Lib.hid hK
      obtain ⟨kind, parent, ps, body⟩ := K
      simp only at e0 e1 e2 e3 hp2 hb2 hbl1 hbl2
      have hi : (k : Int) < (p.length : Int) := by omega
      have hi0 : (0 : Int) ≤ (k : Int) := by omega
      clear hK hA hg HCELL HBL
      go_wp2
      obtain ⟨W1, hW1⟩ : ∃ W1 : World, W1 = (wr.alloc (.cells #[.int .i64 kind, .int .i64 parent, .slice A2 ps.length C2, .slice A3 body.length C3] 59)).drew := ⟨_, rfl⟩
      have hb1 : Below wr.heap.size wr W1 := by rw [hW1]; exact al1.drew
      have z1 : W1.heap.size = wr.heap.size + 1 := by rw [hW1]; show (wr.alloc _).heap.size = _; simp
      have k0 : W1.cell? ⟨wr.heap.size, 0, none⟩ = some (.int .i64 kind) := by rw [hW1]; simp [go_sem]
      have k1 : W1.cell? ⟨wr.heap.size, 1, none⟩ = some (.int .i64 parent) := by rw [hW1]; simp [go_sem]
      have k2 : W1.cell? ⟨wr.heap.size, 2, none⟩ = some (.slice A2 ps.length C2) := by rw [hW1]; simp [go_sem]
      have k3 : W1.cell? ⟨wr.heap.size, 3, none⟩ = some (.slice A3 body.length C3) := by rw [hW1]; simp [go_sem]
      have k4 : W1.cell? ⟨w.heap.size + 2, 0, none⟩ = some ov := (hb1.cell (p := ⟨w.heap.size + 2, 0, none⟩) (by show w.heap.size + 2 < _; omega)).trans hov
      refine wp_region_T 16 (by kernel_rfl) (fun w' => w'.cell? ⟨wr.heap.size, 0, none⟩ = some (.int .i64 kind) ∧ w'.cell? ⟨wr.heap.size, 1, none⟩ = some (.int .i64 parent) ∧ w'.cell? ⟨wr.heap.size, 2, none⟩ = some (.slice A2 ps.length C2) ∧ w'.cell? ⟨wr.heap.size, 3, none⟩ = some (.slice A3 body.length C3) ∧ w'.cell? ⟨w.heap.size + 2, 0, none⟩ = some ov) ?_
      rw [← hW1]
      have hS := And.intro k0 (And.intro k1 (And.intro k2 (And.intro k3 k4)))
      refine wpAnyT_take (i := 0) (oi := ⟨_, _, _, _, _, _⟩) (v := ?v0) (by kernel_rfl) (by decide) rfl (by kernel_rfl) (by kernel_rfl) (by kernel_rfl) (fun _ _ _ h => h) (Or.inl ⟨by rfl, ?hy0⟩) hS ?rest0
      case hy0 =>
        intro w' hSw
        obtain ⟨s0, s1, s2, s3, s4⟩ := hSw
        go_simp
        try with_reducible rfl
      try simp only [Act.put, List.setIfInBounds_toArray, List.set_cons_zero, List.set_cons_succ]
      refine wpAnyT_take (i := 1) (oi := ⟨_, _, _, _, _, _⟩) (v := ?v1) (by kernel_rfl) (by decide) rfl (by kernel_rfl) (by kernel_rfl) (by kernel_rfl) (fun _ _ _ h => h) (Or.inl ⟨by rfl, ?hy1⟩) hS ?rest1
      case hy1 =>
        intro w' hSw
        obtain ⟨s0, s1, s2, s3, s4⟩ := hSw
        go_simp
        try with_reducible rfl
      try simp only [Act.put, List.setIfInBounds_toArray, List.set_cons_zero, List.set_cons_succ]
      refine wpAnyT_take (i := 2) (oi := ⟨_, _, _, _, _, _⟩) (v := ?v2) (by kernel_rfl) (by decide) rfl (by kernel_rfl) (by kernel_rfl) (by kernel_rfl) (fun _ _ _ h => h) (Or.inl ⟨by rfl, ?hy2⟩) hS ?rest2
      case hy2 =>
        intro w' hSw
        obtain ⟨s0, s1, s2, s3, s4⟩ := hSw
        go_simp
        try with_reducible rfl
      try simp only [Act.put, List.setIfInBounds_toArray, List.set_cons_zero, List.set_cons_succ]
      refine wpAnyT_take (i := 3) (oi := ⟨_, _, _, _, _, _⟩) (v := ?v3) (by kernel_rfl) (by decide) rfl (by kernel_rfl) (by kernel_rfl) (by kernel_rfl) (fun _ _ _ h => h) (Or.inl ⟨by rfl, ?hy3⟩) hS ?rest3
      case hy3 =>
        intro w' hSw
        obtain ⟨s0, s1, s2, s3, s4⟩ := hSw
        go_simp
        try with_reducible rfl
      try simp only [Act.put, List.setIfInBounds_toArray, List.set_cons_zero, List.set_cons_succ]
      refine wpAnyT_take (i := 4) (oi := ⟨_, _, _, _, _, _⟩) (v := ?v4) (by kernel_rfl) (by decide) rfl (by kernel_rfl) (by kernel_rfl) (by kernel_rfl) (fun _ _ _ h => h) (Or.inl ⟨by rfl, ?hy4⟩) hS ?rest4
      case hy4 =>
        intro w' hSw
        obtain ⟨s0, s1, s2, s3, s4⟩ := hSw
        go_simp
        try with_reducible rfl
      try simp only [Act.put, List.setIfInBounds_toArray, List.set_cons_zero, List.set_cons_succ]
      refine wpAnyT_take (i := 5) (oi := ⟨_, _, _, _, _, _⟩) (v := ?v5) (by kernel_rfl) (by decide) rfl (by kernel_rfl) (by kernel_rfl) (by kernel_rfl) (fun _ _ _ h => h) (Or.inl ⟨by rfl, ?hy5⟩) hS ?rest5
      case hy5 =>
        intro w' hSw
        obtain ⟨s0, s1, s2, s3, s4⟩ := hSw
        go_simp
        try with_reducible rfl
      try simp only [Act.put, List.setIfInBounds_toArray, List.set_cons_zero, List.set_cons_succ]
      refine wpAnyT_take (i := 6) (oi := ⟨_, _, _, _, _, _⟩) (v := ?v6) (by kernel_rfl) (by decide) rfl (by kernel_rfl) (by kernel_rfl) (by kernel_rfl) (fun _ _ _ h => h) (Or.inl ⟨by rfl, ?hy6⟩) hS ?rest6
      case hy6 =>
        intro w' hSw
        obtain ⟨s0, s1, s2, s3, s4⟩ := hSw
        go_simp
        try with_reducible rfl
      try simp only [Act.put, List.setIfInBounds_toArray, List.set_cons_zero, List.set_cons_succ]
      refine wpAnyT_take (i := 7) (oi := ⟨_, _, _, _, _, _⟩) (v := ?v7) (by kernel_rfl) (by decide) rfl (by kernel_rfl) (by kernel_rfl) (by kernel_rfl) (fun _ _ _ h => h) (Or.inl ⟨by rfl, ?hy7⟩) hS ?rest7
      case hy7 =>
        intro w' hSw
        obtain ⟨s0, s1, s2, s3, s4⟩ := hSw
        go_simp
        try with_reducible rfl
      try simp only [Act.put, List.setIfInBounds_toArray, List.set_cons_zero, List.set_cons_succ]

      refine wpAnyT_take (i := 10) (oi := ⟨_, _, _, _, _, _⟩) (v := ?v10) (by kernel_rfl) (by decide) rfl (by kernel_rfl) (by kernel_rfl) (by kernel_rfl) (fun _ _ _ h => h) (Or.inl ⟨by rfl, ?hy10⟩) hS ?rest10
      case hy10 =>
        intro w' hSw
        obtain ⟨s0, s1, s2, s3, s4⟩ := hSw
        go_simp
        try with_reducible rfl
      try simp only [Act.put, List.setIfInBounds_toArray, List.set_cons_zero, List.set_cons_succ]
      refine wpAnyT_take (i := 11) (oi := ⟨_, _, _, _, _, _⟩) (v := ?v11) (by kernel_rfl) (by decide) rfl (by kernel_rfl) (by kernel_rfl) (by kernel_rfl) (fun _ _ _ h => h) (Or.inl ⟨by rfl, ?hy11⟩) hS ?rest11
      case hy11 =>
        intro w' hSw
        obtain ⟨s0, s1, s2, s3, s4⟩ := hSw
        go_simp
        try with_reducible rfl
      try simp only [Act.put, List.setIfInBounds_toArray, List.set_cons_zero, List.set_cons_succ]
      have HZ1 := Lib.hid z1
      have hz1 : wr.heap.size + 1 ≤ W1.heap.size := by omega
      have hrow0 := hrow
      have hrow1 := PRowX.keep hrow hb1
      have hp3 := hp2.keep hb1
      have hb3 := hb2.keep hb1
      have hB1 := hB.trans (hb1.mono hB.size)
      have HOV := Lib.hid hov
      have HFZ := Lib.hid hfz
      clear z1 hW1 hrow hov hfz e0 e1 e2 e3 hp2 hb2
      refine wpAnyT_ready2 (i := 8) (j := 9) (o := ⟨_, _, _, _, _, _⟩) (o' := ⟨_, _, _, _, _, _⟩) (by kernel_rfl) rfl rfl (fun K hK => ?_) (fun K hK => ?_)
      · go_simp
        go_at_call 116
        refine (S_copyInts _ ps lo _ hp3 (by omega)).mono ?_
        rintro e w2 ⟨pv, rfl, hpc, hx⟩
        have zz := hx.size
        have k0 := cell_later hx k0
        have k1 := cell_later hx k1
        have k2 := cell_later hx k2
        have k3 := cell_later hx k3
        have k4 := cell_later hx k4
        have hS := And.intro k0 (And.intro k1 (And.intro k2 (And.intro k3 k4)))
        refine hK _ _ (fun _ => hS) ?_
        try simp only [Act.put, List.setIfInBounds_toArray, List.set_cons_zero, List.set_cons_succ]
        refine wpAnyT_ready1 (i := 9) (o := ⟨_, _, _, _, _, _⟩) (by kernel_rfl) rfl (fun K hK => ?_)
        go_simp
        have hx2 := al1 (w := w2) (o := .cells #[] 75)
        have k0 := cell_later hx2 k0
        have k1 := cell_later hx2 k1
        have k2 := cell_later hx2 k2
        have k3 := cell_later hx2 k3
        have k4 := cell_later hx2 k4
        have hS := And.intro k0 (And.intro k1 (And.intro k2 (And.intro k3 k4)))
        refine hK _ _ (fun _ => hS) ?_
        try simp only [Act.put, List.setIfInBounds_toArray, List.set_cons_zero, List.set_cons_succ]
        have hst := Stmts.zero (w := w2) (B := w2.heap.size) (lo := w2.heap.size) rfl (Nat.le_refl _)
        have hpc2 := hpc.keep hx2
        have hall := bthen hx hx2
        obtain ⟨E, hE⟩ : ∃ E : Nat, E = w2.heap.size := ⟨_, rfl⟩
        obtain ⟨X, hX⟩ : ∃ X : World, X = w2.alloc (.cells #[] 75) := ⟨_, rfl⟩
        have hEX : W1.heap.size ≤ E ∧ E < X.heap.size := by rw [hE, hX]; simp; omega
        rw [← hX] at k0 k1 k2 k3 k4 hS hst hpc2 hall ⊢
        rw [← hE] at hst ⊢
        clear hX hE hx hx2 hpc zz
        refine wpAnyT_ready1 (i := 12) (o := ⟨_, _, _, _, _, _⟩) (by kernel_rfl) rfl (fun K hK => ?_)
        refine step_append_stmts rfl _ _ rfl _ _ [] body (w.heap.size + 3) rfl rfl (hst.lo_ (by omega)) (hb3.keep hall).feed (by simp; omega) (by omega) ?_
        intro bv w4 hbo hg4 hb4 hf4
        have HROW := Lib.hid (show ∀ r, (Value.slice (some ⟨E, 0, none⟩) 0 0).ownBlock = some r → wr.heap.size < r from fun r hr => by simp only [Value.ownBlock, Option.some.injEq] at hr; omega)
        have k0 := hg4.cell k0 (fun hc => Nat.lt_irrefl _ (HROW.out _ hc.symm))
        have k1 := hg4.cell k1 (fun hc => Nat.lt_irrefl _ (HROW.out _ hc.symm))
        have k2 := hg4.cell k2 (fun hc => Nat.lt_irrefl _ (HROW.out _ hc.symm))
        have k3 := hg4.cell k3 (fun hc => Nat.lt_irrefl _ (HROW.out _ hc.symm))
        have k4 := hg4.cell k4 (fun hc => by have h : wr.heap.size < w.heap.size + 2 := HROW.out _ hc.symm; omega)
        have hS := And.intro k0 (And.intro k1 (And.intro k2 (And.intro k3 k4)))
        have hp4 := Ints.kept hpc2 hg4 (own_types hpc2 hst (by decide))
        have hrow4 := PRowX.past hrow0 (PRowX.keep hrow1 hall) hg4 (fun r hr => Nat.le_of_lt (HROW.out r hr))
        have hB4 := (hB1.trans (hall.mono hB1.size)).grown hg4 (by omega) (fun r hr => by have := HROW.out r hr; omega)
        have hge : ∀ r, bv.ownBlock = some r → wr.heap.size ≤ r := fun r hr => by
          rcases hf4 with e | ⟨gg, e, e'⟩
          · exact Nat.le_of_lt (HROW.out r (e.symm.trans hr))
          · rw [hr] at e; have := Option.some.inj e; omega
        have hz4 : wr.heap.size + 1 ≤ w4.heap.size := by have := hb4.size; omega
        rw [List.nil_append] at hbo
        obtain ⟨A5, C5, rfl⟩ := hbo.form
        obtain ⟨A6, C6, rfl⟩ := hp4.form
        refine hK _ _ (fun _ => hS) ?_
        try simp only [Act.put, List.setIfInBounds_toArray, List.set_cons_zero, List.set_cons_succ]
        refine wpAnyT_take (i := 13) (oi := ⟨_, _, _, _, _, _⟩) (v := ?v13) (by kernel_rfl) (by decide) rfl (by kernel_rfl) (by kernel_rfl) (by kernel_rfl) (fun _ _ _ h => h) (Or.inl ⟨by rfl, ?hy13⟩) hS ?rest13
        case hy13 =>
          intro w' hSw
          obtain ⟨s0, s1, s2, s3, s4⟩ := hSw
          go_simp
          try with_reducible rfl
        try simp only [Act.put, List.setIfInBounds_toArray, List.set_cons_zero, List.set_cons_succ]
        refine wpAnyT_ready1 (i := 14) (o := ⟨_, _, _, _, _, _⟩) (by kernel_rfl) rfl (fun K hK => ?_)
        go_simp
        have hx4 := al1 (w := w4) (o := .cells (bkCells ⟨kind, parent, ps, body⟩ (.slice A6 ps.length C6) (.slice A5 body.length C5)).toArray 59)
        have k0 := cell_later hx4 k0
        have k1 := cell_later hx4 k1
        have k2 := cell_later hx4 k2
        have k3 := cell_later hx4 k3
        have k4 := cell_later hx4 k4
        have hS := And.intro k0 (And.intro k1 (And.intro k2 (And.intro k3 k4)))
        refine hK _ _ (fun _ => hS) ?_
        try simp only [Act.put, List.setIfInBounds_toArray, List.set_cons_zero, List.set_cons_succ]
        refine wpAnyT_ready1 (i := 15) (o := ⟨_, _, _, _, _, _⟩) (by kernel_rfl) rfl (fun K hK => ?_)
        refine step_append_block rfl _ _ rfl ov _ _ _ xs (p.take k) ⟨kind, parent, ps, body⟩ (w.heap.size + 3) (w.heap.size + 3) rfl rfl (PRowX.keep hrow4 hx4) (bk_row rfl (by omega)) ((hp4.lo_ (by omega)).keep hx4) (hbo.keep hx4) (fun i hi => Apart.of_lt (PRowX.full hrow0 hi) hge) (by rw [List.length_take]; omega) (by rw [World.size_alloc]; omega) ?_
        intro nv w5 hrow5 hg5 hb5 _
        have hovb := own_block_ge hrow4.own
        obtain ⟨ovA, ovC, hov5⟩ := PRowX.form hrow4
        have hq : w5.heap[w.heap.size + 2]? = wr.heap[w.heap.size + 2]? := (hg5.block _ (by simp only [World.size_alloc]; omega) (by intro hc; have := hovb _ hc.symm; omega)).trans ((hx4.block _ (by omega)).trans
          ((hg4.block _ (by omega) (fun hc => by have h := HROW.out _ hc.symm; omega)).trans ((hall.block _ (by omega)).trans (hb1.block _ (by omega)))))
        have q1 := (World.cell?_of_block (a := ⟨w.heap.size + 2, 0, none⟩) hq).trans HOV.out
        have q2 := (World.frozen?_of_block (a := ⟨w.heap.size + 2, 0, none⟩) hq).trans (HFZ.out 0)
        have hB5 := (hB4.trans (hx4.mono hB4.size)).grown hg5 (by simp only [World.size_alloc]; omega) (fun r hr => by have := hovb r hr; omega)
        obtain ⟨nA, nC, rfl⟩ := PRowX.form hrow5
        have el : (p.take k ++ [(⟨kind, parent, ps, body⟩ : Bk)]).length = k + 1 := by simp; omega
        rw [el] at hrow5
        have et : p.take k ++ [(⟨kind, parent, ps, body⟩ : Bk)] = p.take (k + 1) := by rw [HK.out, List.take_succ_eq_append_getElem hlt]; simp [List.getD, hlt]
        have hrow6 : PRow w5 _ _ _ (p.take (k + 1)) := et ▸ hrow5
        have hne5 : ∀ hc : some wr.heap.size = ov.ownBlock, False := fun hc => Nat.lt_irrefl _ (own_block_lt hrow0.own _ hc.symm)
        refine hK _ _ (fun h => ⟨hg5.cell k0 hne5, hg5.cell k1 hne5, hg5.cell k2 hne5, hg5.cell k3 hne5, q1⟩) ?_
        try simp only [Act.put, List.setIfInBounds_toArray, List.set_cons_zero, List.set_cons_succ]
        refine wpAnyT_ready1 (i := 16) (o := ⟨_, _, _, _, _, _⟩) (by kernel_rfl) rfl (fun K hK => ?_)
        go_simp
        refine hK _ _ (fun h => absurd h (by decide)) ?_
        try simp only [Act.put, List.setIfInBounds_toArray, List.set_cons_zero, List.set_cons_succ]
        refine wpAnyT_ready1 (i := 17) (o := ⟨_, _, _, _, _, _⟩) (by kernel_rfl) rfl (fun K hK => ?_)
        go_simp
        refine hK _ _ (fun h => absurd h (by decide)) ?_
        try simp only [Act.put, List.setIfInBounds_toArray, List.set_cons_zero, List.set_cons_succ]
        refine wpAnyT_done (by kernel_rfl) ?_ _
        go_wp2
        go_roundw
        case rel => exact ⟨k + 1, _, _, by omega, by go_num, PRowX.only hrow6 ((Only.refl (w.heap.size + 2) (w.heap.size + 3) w5).setCell (Nat.le_refl _) (Nat.lt_succ_self _) _) (Nat.le_refl _), by simp [go_sem, q1]; omega, fun j => by simp [go_sem]; exact (World.frozen?_of_block (a := ⟨w.heap.size + 2, j, none⟩) hq).trans (HFZ.out j), hB5.setCell (by show W0.heap.size ≤ w.heap.size + 2; omega) _, by have h := hb5.size; simp only [World.size_alloc, World.size_setCell] at h ⊢; omega⟩
        case measure => simp [intOf]; omega
      · go_simp
        have hx := al1 (w := W1) (o := .cells #[] 75)
        have k0 := cell_later hx k0
        have k1 := cell_later hx k1
        have k2 := cell_later hx k2
        have k3 := cell_later hx k3
        have k4 := cell_later hx k4
        have hS := And.intro k0 (And.intro k1 (And.intro k2 (And.intro k3 k4)))
        refine hK _ _ (fun _ => hS) ?_
        try simp only [Act.put, List.setIfInBounds_toArray, List.set_cons_zero, List.set_cons_succ]
        refine wpAnyT_ready1 (i := 8) (o := ⟨_, _, _, _, _, _⟩) (by kernel_rfl) rfl (fun K hK => ?_)
        go_simp
        go_at_call 116
        refine (S_copyInts _ ps lo _ (hp3.keep hx) (by omega)).mono ?_
        rintro e w2 ⟨pv, rfl, hpc, hx2⟩
        have zz := hx2.size
        simp only [World.size_alloc] at zz
        have k0 := cell_later hx2 k0
        have k1 := cell_later hx2 k1
        have k2 := cell_later hx2 k2
        have k3 := cell_later hx2 k3
        have k4 := cell_later hx2 k4
        have hS := And.intro k0 (And.intro k1 (And.intro k2 (And.intro k3 k4)))
        refine hK _ _ (fun _ => hS) ?_
        try simp only [Act.put, List.setIfInBounds_toArray, List.set_cons_zero, List.set_cons_succ]
        have hst := (Stmts.zero (w := W1) (B := W1.heap.size) (lo := W1.heap.size) rfl (Nat.le_refl _)).keep hx2
        have hpc2 := hpc.lo_ (lo' := W1.heap.size) (by simp)
        have hall := bthen hx hx2
        obtain ⟨E, hE⟩ : ∃ E : Nat, E = W1.heap.size := ⟨_, rfl⟩
        obtain ⟨X, hX⟩ : ∃ X : World, X = w2 := ⟨_, rfl⟩
        have hEX : W1.heap.size ≤ E ∧ E < X.heap.size := by rw [hE, hX]; omega
        rw [← hX] at k0 k1 k2 k3 k4 hS hst hpc2 hall ⊢
        have hst : Stmts X E (.slice (some ⟨E, 0, none⟩) 0 0) [] := by rw [hE]; exact hst
        rw [← hE]
        clear hX hx hx2 hpc zz
        refine wpAnyT_ready1 (i := 12) (o := ⟨_, _, _, _, _, _⟩) (by kernel_rfl) rfl (fun K hK => ?_)
        refine step_append_stmts rfl _ _ rfl _ _ [] body (w.heap.size + 3) rfl rfl (hst.lo_ (by omega)) (hb3.keep hall).feed (by simp; omega) (by omega) ?_
        intro bv w4 hbo hg4 hb4 hf4
        have HROW := Lib.hid (show ∀ r, (Value.slice (some ⟨E, 0, none⟩) 0 0).ownBlock = some r → wr.heap.size < r from fun r hr => by simp only [Value.ownBlock, Option.some.injEq] at hr; omega)
        have k0 := hg4.cell k0 (fun hc => Nat.lt_irrefl _ (HROW.out _ hc.symm))
        have k1 := hg4.cell k1 (fun hc => Nat.lt_irrefl _ (HROW.out _ hc.symm))
        have k2 := hg4.cell k2 (fun hc => Nat.lt_irrefl _ (HROW.out _ hc.symm))
        have k3 := hg4.cell k3 (fun hc => Nat.lt_irrefl _ (HROW.out _ hc.symm))
        have k4 := hg4.cell k4 (fun hc => by have h : wr.heap.size < w.heap.size + 2 := HROW.out _ hc.symm; omega)
        have hS := And.intro k0 (And.intro k1 (And.intro k2 (And.intro k3 k4)))
        have hp4 := Ints.kept hpc2 hg4 (own_types hpc2 hst (by decide))
        have hrow4 := PRowX.past hrow0 (PRowX.keep hrow1 hall) hg4 (fun r hr => Nat.le_of_lt (HROW.out r hr))
        have hB4 := (hB1.trans (hall.mono hB1.size)).grown hg4 (by omega) (fun r hr => by have := HROW.out r hr; omega)
        have hge : ∀ r, bv.ownBlock = some r → wr.heap.size ≤ r := fun r hr => by
          rcases hf4 with e | ⟨gg, e, e'⟩
          · exact Nat.le_of_lt (HROW.out r (e.symm.trans hr))
          · rw [hr] at e; have := Option.some.inj e; omega
        have hz4 : wr.heap.size + 1 ≤ w4.heap.size := by have := hb4.size; omega
        rw [List.nil_append] at hbo
        obtain ⟨A5, C5, rfl⟩ := hbo.form
        obtain ⟨A6, C6, rfl⟩ := hp4.form
        refine hK _ _ (fun _ => hS) ?_
        try simp only [Act.put, List.setIfInBounds_toArray, List.set_cons_zero, List.set_cons_succ]
        refine wpAnyT_take (i := 13) (oi := ⟨_, _, _, _, _, _⟩) (v := ?w13) (by kernel_rfl) (by decide) rfl (by kernel_rfl) (by kernel_rfl) (by kernel_rfl) (fun _ _ _ h => h) (Or.inl ⟨by rfl, ?hz13⟩) hS ?rost13
        case hz13 =>
          intro w' hSw
          obtain ⟨s0, s1, s2, s3, s4⟩ := hSw
          go_simp
          try with_reducible rfl
        try simp only [Act.put, List.setIfInBounds_toArray, List.set_cons_zero, List.set_cons_succ]
        refine wpAnyT_ready1 (i := 14) (o := ⟨_, _, _, _, _, _⟩) (by kernel_rfl) rfl (fun K hK => ?_)
        go_simp
        have hx4 := al1 (w := w4) (o := .cells (bkCells ⟨kind, parent, ps, body⟩ (.slice A6 ps.length C6) (.slice A5 body.length C5)).toArray 59)
        have k0 := cell_later hx4 k0
        have k1 := cell_later hx4 k1
        have k2 := cell_later hx4 k2
        have k3 := cell_later hx4 k3
        have k4 := cell_later hx4 k4
        have hS := And.intro k0 (And.intro k1 (And.intro k2 (And.intro k3 k4)))
        refine hK _ _ (fun _ => hS) ?_
        try simp only [Act.put, List.setIfInBounds_toArray, List.set_cons_zero, List.set_cons_succ]
        refine wpAnyT_ready1 (i := 15) (o := ⟨_, _, _, _, _, _⟩) (by kernel_rfl) rfl (fun K hK => ?_)
        refine step_append_block rfl _ _ rfl ov _ _ _ xs (p.take k) ⟨kind, parent, ps, body⟩ (w.heap.size + 3) (w.heap.size + 3) rfl rfl (PRowX.keep hrow4 hx4) (bk_row rfl (by omega)) ((hp4.lo_ (by omega)).keep hx4) (hbo.keep hx4) (fun i hi => Apart.of_lt (PRowX.full hrow0 hi) hge) (by rw [List.length_take]; omega) (by rw [World.size_alloc]; omega) ?_
        intro nv w5 hrow5 hg5 hb5 _
        have hovb := own_block_ge hrow4.own
        obtain ⟨ovA, ovC, hov5⟩ := PRowX.form hrow4
        have hq : w5.heap[w.heap.size + 2]? = wr.heap[w.heap.size + 2]? := (hg5.block _ (by simp only [World.size_alloc]; omega) (by intro hc; have := hovb _ hc.symm; omega)).trans ((hx4.block _ (by omega)).trans
          ((hg4.block _ (by omega) (fun hc => by have h := HROW.out _ hc.symm; omega)).trans ((hall.block _ (by omega)).trans (hb1.block _ (by omega)))))
        have q1 := (World.cell?_of_block (a := ⟨w.heap.size + 2, 0, none⟩) hq).trans HOV.out
        have q2 := (World.frozen?_of_block (a := ⟨w.heap.size + 2, 0, none⟩) hq).trans (HFZ.out 0)
        have hB5 := (hB4.trans (hx4.mono hB4.size)).grown hg5 (by simp only [World.size_alloc]; omega) (fun r hr => by have := hovb r hr; omega)
        obtain ⟨nA, nC, rfl⟩ := PRowX.form hrow5
        have el : (p.take k ++ [(⟨kind, parent, ps, body⟩ : Bk)]).length = k + 1 := by simp; omega
        rw [el] at hrow5
        have et : p.take k ++ [(⟨kind, parent, ps, body⟩ : Bk)] = p.take (k + 1) := by rw [HK.out, List.take_succ_eq_append_getElem hlt]; simp [List.getD, hlt]
        have hrow6 : PRow w5 _ _ _ (p.take (k + 1)) := et ▸ hrow5
        have hne5 : ∀ hc : some wr.heap.size = ov.ownBlock, False := fun hc => Nat.lt_irrefl _ (own_block_lt hrow0.own _ hc.symm)
        refine hK _ _ (fun h => ⟨hg5.cell k0 hne5, hg5.cell k1 hne5, hg5.cell k2 hne5, hg5.cell k3 hne5, q1⟩) ?_
        try simp only [Act.put, List.setIfInBounds_toArray, List.set_cons_zero, List.set_cons_succ]
        refine wpAnyT_ready1 (i := 16) (o := ⟨_, _, _, _, _, _⟩) (by kernel_rfl) rfl (fun K hK => ?_)
        go_simp
        refine hK _ _ (fun h => absurd h (by decide)) ?_
        try simp only [Act.put, List.setIfInBounds_toArray, List.set_cons_zero, List.set_cons_succ]
        refine wpAnyT_ready1 (i := 17) (o := ⟨_, _, _, _, _, _⟩) (by kernel_rfl) rfl (fun K hK => ?_)
        go_simp
        refine hK _ _ (fun h => absurd h (by decide)) ?_
        try simp only [Act.put, List.setIfInBounds_toArray, List.set_cons_zero, List.set_cons_succ]
        refine wpAnyT_done (by kernel_rfl) ?_ _
        go_wp2
        go_roundw
        case rel => exact ⟨k + 1, _, _, by omega, by go_num, PRowX.only hrow6 ((Only.refl (w.heap.size + 2) (w.heap.size + 3) w5).setCell (Nat.le_refl _) (Nat.lt_succ_self _) _) (Nat.le_refl _), by simp [go_sem, q1]; omega, fun j => by simp [go_sem]; exact (World.frozen?_of_block (a := ⟨w.heap.size + 2, j, none⟩) hq).trans (HFZ.out j), hB5.setCell (by show W0.heap.size ≤ w.heap.size + 2; omega) _, by have h := hb5.size; simp only [World.size_alloc, World.size_setCell] at h ⊢; omega⟩
        case measure => simp [intOf]; omega
    · obtain rfl : k = p.length := by omega
      obtain ⟨nA, nC, rfl⟩ := PRowX.form hrow
      rw [List.take_length] at hrow
      rw [List.take_length] at hov
      have r1 := fun o => (bcell hB).1 (w.heap.size + 1) o (by omega)
      have m1 := fun o => (bcell hB).2 (w.heap.size + 1) o (by omega)
      rw [HW0.out] at r1 m1
      have cb : wr.cell? ⟨w.heap.size, 0, none⟩ = some (.slice A p.length C) := (hB.cell (p := ⟨w.heap.size, 0, none⟩) (by show w.heap.size < _; omega)).trans c0
      clear hA hg HCELL HBL
      go_wp2
      exact bodyPost_ret (v := .agg #[.slice nA p.length nC]) (by simp [results, Try.results105, go_sem, r1]) rfl
        ⟨_, xs, rfl, (PRowX.only hrow ((Only.refl (w.heap.size + 1) (w.heap.size + 2) wr).setCell (Nat.le_refl _) (Nat.lt_succ_self _) _) (by omega)).lo_ (by omega), (HB0.out.trans (hB.mono (by omega))).setCell (by show w.heap.size ≤ w.heap.size + 1; omega) _⟩

end Go.Proofs.Ytelhemhbgpfokaa
