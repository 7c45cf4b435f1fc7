/-
  Memory and walks: copies and bare programs, owners of names, comparisons of programs. Condition: what the arguments name stands in memory.
-/
import Derived.Test.YtiemhadpepbcjaaSpec16
import Derived.Test.YtiemhadpepbcjaaDwA
import Derived.Laws.IdiomCopy
import Derived.Test.YtiemhadpepbcjaaImpl3
import Derived.Test.YtiemhadpepbcjaaSpec3
import Derived.Test.YtiemhadpepbcjaaImpl9
import Derived.Test.YtiemhadpepbcjaaLawFn
import Derived.Test.YtiemhadpepbcjaaEq
namespace Go.Proofs.Ytiemhadpepbcjaa
open Go.RowKit
set_option linter.unusedVariables false

/-- Who owns the names that a block reads or binds; -2 where it does neither. -/
def ownAt (p : Pr) (c x : Int) : Int := if (p.bk c).readB x || (p.bk c).boundB x then ownerF p c x else -2
def ownTo (p : Pr) (c : Int) : Nat → List Int
  | 0 => []
  | m + 1 => ownTo p c m ++ [ownAt p c m]
def ownRows (p : Pr) : Nat → List (List Int)
  | 0 => []
  | c + 1 => ownRows p c ++ [ownTo p c 8]
def rOwners (p : Pr) : List (List Int) := if validP p then ownRows p p.length else []
theorem ownTo_len (p : Pr) (c : Int) : ∀ m, (ownTo p c m).length = m
  | 0 => rfl
  | m + 1 => by rw [ownTo, List.length_append, ownTo_len p c m]; rfl
theorem ownRows_len (p : Pr) : ∀ m, (ownRows p m).length = m
  | 0 => rfl
  | m + 1 => by rw [ownRows, List.length_append, ownRows_len p m]; rfl
theorem ownAt_eq {p : Pr} {c x : Int} (h0 : 0 ≤ x) (h1 : x ≤ 7) : ownAt p c x = if hasF (readF p c ++ boundF p c) x then ownerF p c x else -2 := by
  have e : ∀ l : List Int, hasF l x = l.contains x := fun _ => rfl
  rw [e, List.contains_append, ← e, ← e]
  unfold readF boundF ownAt
  rw [hasF_nms _ x h0 h1, hasF_nms _ x h0 h1]
theorem RowsOf.zero {w : World} {B lo : Nat} (hB : w.heap.size = B) (hl : lo ≤ B) : RowsOf (w.alloc (.cells #[] 31)) lo (.slice (some ⟨B, 0, none⟩) 0 0) [] [] := by
  subst hB
  refine ⟨?_, fun i hi => absurd hi (Nat.not_lt_zero _), fun i j hi => absurd hi (Nat.not_lt_zero _)⟩
  have h := World.ownsRow_lit (base := lo) (e := 31) (size := 1) w #[] 0 hl (by unfold maxLen; omega) (by simp)
  simpa using h
theorem RowsOf.form {w : World} {lo : Nat} {v : Value} {us : List Value} {ll : List (List Int)} (h : RowsOf w lo v us ll) : ∃ A C, v = .slice A ll.length C := by
  obtain ⟨A, C, _, hv, _⟩ := own_rd h.1
  exact ⟨A, C, hv⟩
theorem RowsOf.nil (w : World) (lo : Nat) : RowsOf w lo (.slice none 0 0) [] [] :=
  ⟨World.ownsRow_nil w lo _ _, fun i hi => absurd hi (Nat.not_lt_zero _), fun i j hi => absurd hi (Nat.not_lt_zero _)⟩

end Go.Proofs.Ytiemhadpepbcjaa

namespace Go.Proofs.Ytiemhadpepbcjaa
open Go.RowKit
set_option linter.unusedVariables false

/-- Rows that stood in an elder world stay behind an append to a row that is younger. -/
theorem PRowX.past {w0 w w' : World} {lo k : Nat} {v : Value} {xs : List Value} {p : Pr} {row : Option Nat} (h0 : PRowX w0 lo v xs p k) (h : PRowX w lo v xs p k) (hg : w.grownBy w' row) (hr : ∀ r, row = some r → w0.heap.size ≤ r) : PRowX w' lo v xs p k := by
  have ne : ∀ {V : Value} {e size n : Nat} {ys : List Value}, w0.ownsRow lo e size V n ys → V.ownBlock = none ∨ V.ownBlock ≠ row := fun {V} {e} {size} {n} {ys} hV => by
    rcases hq : V.ownBlock with _ | r
    · exact .inl rfl
    · right
      intro hc
      have h1 := own_block_lt hV r hq
      have h2 := hr r hc.symm
      omega
  exact ⟨World.ownsRow.kept h.own hg (ne h0.own), h.head, fun i hi => Ints.kept (h.pars i hi) hg (ne (h0.pars i hi)), fun i hi hk => Stmts.kept (h.body i hi hk) hg (ne (h0.body i hi hk)), h.apart⟩
theorem Apart.of_lt {w0 : World} {lo : Nat} {V U : Value} {l : List St} (h : Stmts w0 lo V l) (hU : ∀ r, U.ownBlock = some r → w0.heap.size ≤ r) : Apart V U := by
  intro r h1 h2
  have := own_block_lt h r h1
  have := hU r h2
  omega
theorem PRowX.form {w : World} {lo k : Nat} {v : Value} {xs : List Value} {p : Pr} (h : PRowX w lo v xs p k) : ∃ A C, v = .slice A p.length C := by
  obtain ⟨A, C, _, hv, _⟩ := own_rd h.own
  exact ⟨A, C, hv⟩

set_option maxRecDepth 100000 in
set_option maxHeartbeats 8000000 in
theorem S_copyProgram (v : Value) (p : Pr) (lo : Nat) (w : World) (hv : Prog w lo v p) (hl : p.length ≤ 1000) (hbl : ∀ b, b < p.length → (p.getD b default).body.length ≤ 1000 ∧ (p.getD b default).params.length ≤ 1000) :
    Calls Try.prog 85 #[v] w fun e w' => ∃ sl xs, e = .returned (.agg #[sl]) ∧ PRow w' w.heap.size sl xs p ∧ Below w.heap.size w w' := by
  obtain ⟨sl, rfl, hv⟩ := hv
  obtain ⟨A, C, g, rfl, hn, hc, hA, hg, hcell, hf⟩ := hv.rd
  have HV := Lib.hid hv
  have HCELL := Lib.hid hcell
  have HBL := Lib.hid hbl
  unfold maxLen at hc
  clear hv hcell hf hbl
  go_enter Try.func85, Try.ntmps85
  go_wp2
  obtain ⟨W0, hW0⟩ : ∃ W0 : World, W0 = ((w.alloc (.cells #[.slice A p.length C] 25)).alloc (.cells #[.slice none 0 0] 25)) := ⟨_, rfl⟩
  have hb0 : Below w.heap.size w W0 := by rw [hW0]; exact al2
  have z0 : W0.heap.size = w.heap.size + 2 := by rw [hW0]; simp
  have c0 : W0.cell? ⟨w.heap.size, 0, none⟩ = some (.slice A p.length C) := by rw [hW0]; simp [go_sem]
  rw [← hW0]
  have HW0 := Lib.hid hW0
  have HB0 := Lib.hid hb0
  clear hb0 hW0
  go_loopw [4] (fun i wr => ∃ (k : Nat) (ov : Value) (xs : List Value), k ≤ p.length ∧ i = .int .i64 k ∧ PRow wr (w.heap.size + 3) ov xs (p.take k) ∧ wr.cell? ⟨w.heap.size + 2, 0, none⟩ = some ov ∧ (∀ j, wr.frozen? ⟨w.heap.size + 2, j, none⟩ = false) ∧ Below W0.heap.size W0 wr ∧ w.heap.size + 3 ≤ wr.heap.size) (fun i _ => p.length - (intOf i).toNat)
  case atStart => exact ⟨0, _, _, Nat.zero_le _, rfl, PRowX.nil _ _, by simp [go_sem, z0], fun j => by simp [go_sem, z0], al1, by simp [z0]⟩
  case round =>
    obtain ⟨k, ov, xs, hk, rfl, hrow, hov, hfz, hB, hz⟩ := hrel
    by_cases hlt : k < p.length
    · obtain ⟨pv, bv, d0, d1, d2, d3, hp, hb⟩ := HCELL.out k hlt
      obtain ⟨hgl, hgw⟩ := hg (by omega)
      have hBw : Below w.heap.size w wr := HB0.out.trans (hB.mono (by omega))
      have e0 := (hBw.cell (p := ⟨g, k * 4, none⟩) hgw).trans d0
      have e1 := (hBw.cell (p := ⟨g, k * 4 + 1, none⟩) hgw).trans d1
      have e2 := (hBw.cell (p := ⟨g, k * 4 + 2, none⟩) hgw).trans d2
      have e3 := (hBw.cell (p := ⟨g, k * 4 + 3, none⟩) hgw).trans d3
      have hp2 := hp.keep hBw
      have hb2 := hb.keep hBw
      clear d0 d1 d2 d3 hp hb
      obtain ⟨hbl1, hbl2⟩ := HBL.out k hlt
      have cb : wr.cell? ⟨w.heap.size, 0, none⟩ = some (.slice A p.length C) := (hB.cell (p := ⟨w.heap.size, 0, none⟩) (by show w.heap.size < _; omega)).trans c0
      obtain rfl := hA (by omega)
      obtain ⟨A2, C2, rfl⟩ := hp2.form
      obtain ⟨A3, C3, rfl⟩ := hb2.form
      obtain ⟨K, hK⟩ : ∃ K : Bk, K = p.getD k default := ⟨_, rfl⟩
      rw [← hK] at e0 e1 e2 e3 hp2 hb2 hbl1 hbl2
      have HK := Lib.hid hK
      obtain ⟨kind, parent, ps, body⟩ := K
      simp only at e0 e1 e2 e3 hp2 hb2 hbl1 hbl2
      have hi : (k : Int) < (p.length : Int) := by omega
      have hi0 : (0 : Int) ≤ (k : Int) := by omega
      clear hK hA hg HCELL HBL
      go_wp2
      obtain ⟨W1, hW1⟩ : ∃ W1 : World, W1 = (wr.alloc (.cells #[.int .i64 kind, .int .i64 parent, .slice A2 ps.length C2, .slice A3 body.length C3] 56)).drew := ⟨_, rfl⟩
      have hb1 : Below wr.heap.size wr W1 := by rw [hW1]; exact al1.drew
      have z1 : W1.heap.size = wr.heap.size + 1 := by rw [hW1]; show (wr.alloc _).heap.size = _; simp
      have k0 : W1.cell? ⟨wr.heap.size, 0, none⟩ = some (.int .i64 kind) := by rw [hW1]; simp [go_sem]
      have k1 : W1.cell? ⟨wr.heap.size, 1, none⟩ = some (.int .i64 parent) := by rw [hW1]; simp [go_sem]
      have k2 : W1.cell? ⟨wr.heap.size, 2, none⟩ = some (.slice A2 ps.length C2) := by rw [hW1]; simp [go_sem]
      have k3 : W1.cell? ⟨wr.heap.size, 3, none⟩ = some (.slice A3 body.length C3) := by rw [hW1]; simp [go_sem]
      have k4 : W1.cell? ⟨w.heap.size + 2, 0, none⟩ = some ov := (hb1.cell (p := ⟨w.heap.size + 2, 0, none⟩) (by show w.heap.size + 2 < _; omega)).trans hov
      refine wp_region_T 16 (by kernel_rfl) (fun w' => w'.cell? ⟨wr.heap.size, 0, none⟩ = some (.int .i64 kind) ∧ w'.cell? ⟨wr.heap.size, 1, none⟩ = some (.int .i64 parent) ∧ w'.cell? ⟨wr.heap.size, 2, none⟩ = some (.slice A2 ps.length C2) ∧ w'.cell? ⟨wr.heap.size, 3, none⟩ = some (.slice A3 body.length C3) ∧ w'.cell? ⟨w.heap.size + 2, 0, none⟩ = some ov) ?_
      rw [← hW1]
      have hS := And.intro k0 (And.intro k1 (And.intro k2 (And.intro k3 k4)))
      refine wpAnyT_take (i := 0) (oi := ⟨_, _, _, _, _, _⟩) (v := ?v0) (by kernel_rfl) (by decide) rfl (by kernel_rfl) (by kernel_rfl) (by kernel_rfl) (fun _ _ _ h => h) (Or.inl ⟨by rfl, ?hy0⟩) hS ?rest0
      case hy0 =>
        intro w' hSw
        obtain ⟨s0, s1, s2, s3, s4⟩ := hSw
        go_simp
        try with_reducible rfl
      try simp only [Act.put, List.setIfInBounds_toArray, List.set_cons_zero, List.set_cons_succ]
      refine wpAnyT_take (i := 1) (oi := ⟨_, _, _, _, _, _⟩) (v := ?v1) (by kernel_rfl) (by decide) rfl (by kernel_rfl) (by kernel_rfl) (by kernel_rfl) (fun _ _ _ h => h) (Or.inl ⟨by rfl, ?hy1⟩) hS ?rest1
      case hy1 =>
        intro w' hSw
        obtain ⟨s0, s1, s2, s3, s4⟩ := hSw
        go_simp
        try with_reducible rfl
      try simp only [Act.put, List.setIfInBounds_toArray, List.set_cons_zero, List.set_cons_succ]
      refine wpAnyT_take (i := 2) (oi := ⟨_, _, _, _, _, _⟩) (v := ?v2) (by kernel_rfl) (by decide) rfl (by kernel_rfl) (by kernel_rfl) (by kernel_rfl) (fun _ _ _ h => h) (Or.inl ⟨by rfl, ?hy2⟩) hS ?rest2
      case hy2 =>
        intro w' hSw
        obtain ⟨s0, s1, s2, s3, s4⟩ := hSw
        go_simp
        try with_reducible rfl
      try simp only [Act.put, List.setIfInBounds_toArray, List.set_cons_zero, List.set_cons_succ]
      refine wpAnyT_take (i := 3) (oi := ⟨_, _, _, _, _, _⟩) (v := ?v3) (by kernel_rfl) (by decide) rfl (by kernel_rfl) (by kernel_rfl) (by kernel_rfl) (fun _ _ _ h => h) (Or.inl ⟨by rfl, ?hy3⟩) hS ?rest3
      case hy3 =>
        intro w' hSw
        obtain ⟨s0, s1, s2, s3, s4⟩ := hSw
        go_simp
        try with_reducible rfl
      try simp only [Act.put, List.setIfInBounds_toArray, List.set_cons_zero, List.set_cons_succ]
      refine wpAnyT_take (i := 4) (oi := ⟨_, _, _, _, _, _⟩) (v := ?v4) (by kernel_rfl) (by decide) rfl (by kernel_rfl) (by kernel_rfl) (by kernel_rfl) (fun _ _ _ h => h) (Or.inl ⟨by rfl, ?hy4⟩) hS ?rest4
      case hy4 =>
        intro w' hSw
        obtain ⟨s0, s1, s2, s3, s4⟩ := hSw
        go_simp
        try with_reducible rfl
      try simp only [Act.put, List.setIfInBounds_toArray, List.set_cons_zero, List.set_cons_succ]
      refine wpAnyT_take (i := 5) (oi := ⟨_, _, _, _, _, _⟩) (v := ?v5) (by kernel_rfl) (by decide) rfl (by kernel_rfl) (by kernel_rfl) (by kernel_rfl) (fun _ _ _ h => h) (Or.inl ⟨by rfl, ?hy5⟩) hS ?rest5
      case hy5 =>
        intro w' hSw
        obtain ⟨s0, s1, s2, s3, s4⟩ := hSw
        go_simp
        try with_reducible rfl
      try simp only [Act.put, List.setIfInBounds_toArray, List.set_cons_zero, List.set_cons_succ]
      refine wpAnyT_take (i := 6) (oi := ⟨_, _, _, _, _, _⟩) (v := ?v6) (by kernel_rfl) (by decide) rfl (by kernel_rfl) (by kernel_rfl) (by kernel_rfl) (fun _ _ _ h => h) (Or.inl ⟨by rfl, ?hy6⟩) hS ?rest6
      case hy6 =>
        intro w' hSw
        obtain ⟨s0, s1, s2, s3, s4⟩ := hSw
        go_simp
        try with_reducible rfl
      try simp only [Act.put, List.setIfInBounds_toArray, List.set_cons_zero, List.set_cons_succ]
      refine wpAnyT_take (i := 7) (oi := ⟨_, _, _, _, _, _⟩) (v := ?v7) (by kernel_rfl) (by decide) rfl (by kernel_rfl) (by kernel_rfl) (by kernel_rfl) (fun _ _ _ h => h) (Or.inl ⟨by rfl, ?hy7⟩) hS ?rest7
      case hy7 =>
        intro w' hSw
        obtain ⟨s0, s1, s2, s3, s4⟩ := hSw
        go_simp
        try with_reducible rfl
      try simp only [Act.put, List.setIfInBounds_toArray, List.set_cons_zero, List.set_cons_succ]

      refine wpAnyT_take (i := 10) (oi := ⟨_, _, _, _, _, _⟩) (v := ?v10) (by kernel_rfl) (by decide) rfl (by kernel_rfl) (by kernel_rfl) (by kernel_rfl) (fun _ _ _ h => h) (Or.inl ⟨by rfl, ?hy10⟩) hS ?rest10
      case hy10 =>
        intro w' hSw
        obtain ⟨s0, s1, s2, s3, s4⟩ := hSw
        go_simp
        try with_reducible rfl
      try simp only [Act.put, List.setIfInBounds_toArray, List.set_cons_zero, List.set_cons_succ]
      refine wpAnyT_take (i := 11) (oi := ⟨_, _, _, _, _, _⟩) (v := ?v11) (by kernel_rfl) (by decide) rfl (by kernel_rfl) (by kernel_rfl) (by kernel_rfl) (fun _ _ _ h => h) (Or.inl ⟨by rfl, ?hy11⟩) hS ?rest11
      case hy11 =>
        intro w' hSw
        obtain ⟨s0, s1, s2, s3, s4⟩ := hSw
        go_simp
        try with_reducible rfl
      try simp only [Act.put, List.setIfInBounds_toArray, List.set_cons_zero, List.set_cons_succ]
      have HZ1 := Lib.hid z1
      have hz1 : wr.heap.size + 1 ≤ W1.heap.size := by omega
      have hrow0 := hrow
      have hrow1 := PRowX.keep hrow hb1
      have hp3 := hp2.keep hb1
      have hb3 := hb2.keep hb1
      have hB1 := hB.trans (hb1.mono hB.size)
      have HOV := Lib.hid hov
      have HFZ := Lib.hid hfz
      clear z1 hW1 hrow hov hfz e0 e1 e2 e3 hp2 hb2
      refine wpAnyT_ready2 (i := 8) (j := 9) (o := ⟨_, _, _, _, _, _⟩) (o' := ⟨_, _, _, _, _, _⟩) (by kernel_rfl) rfl rfl (fun K hK => ?_) (fun K hK => ?_)
      · go_simp
        go_at_call 109
        refine (S_copyInts _ ps lo _ hp3 (by omega)).mono ?_
        rintro e w2 ⟨pv, rfl, hpc, hx⟩
        have zz := hx.size
        have k0 := cell_later hx k0
        have k1 := cell_later hx k1
        have k2 := cell_later hx k2
        have k3 := cell_later hx k3
        have k4 := cell_later hx k4
        have hS := And.intro k0 (And.intro k1 (And.intro k2 (And.intro k3 k4)))
        refine hK _ _ (fun _ => hS) ?_
        try simp only [Act.put, List.setIfInBounds_toArray, List.set_cons_zero, List.set_cons_succ]
        refine wpAnyT_ready1 (i := 9) (o := ⟨_, _, _, _, _, _⟩) (by kernel_rfl) rfl (fun K hK => ?_)
        go_simp
        have hx2 := al1 (w := w2) (o := .cells #[] 60)
        have k0 := cell_later hx2 k0
        have k1 := cell_later hx2 k1
        have k2 := cell_later hx2 k2
        have k3 := cell_later hx2 k3
        have k4 := cell_later hx2 k4
        have hS := And.intro k0 (And.intro k1 (And.intro k2 (And.intro k3 k4)))
        refine hK _ _ (fun _ => hS) ?_
        try simp only [Act.put, List.setIfInBounds_toArray, List.set_cons_zero, List.set_cons_succ]
        have hst := Stmts.zero (w := w2) (B := w2.heap.size) (lo := w2.heap.size) rfl (Nat.le_refl _)
        have hpc2 := hpc.keep hx2
        have hall := bthen hx hx2
        obtain ⟨E, hE⟩ : ∃ E : Nat, E = w2.heap.size := ⟨_, rfl⟩
        obtain ⟨X, hX⟩ : ∃ X : World, X = w2.alloc (.cells #[] 60) := ⟨_, rfl⟩
        have hEX : W1.heap.size ≤ E ∧ E < X.heap.size := by rw [hE, hX]; simp; omega
        rw [← hX] at k0 k1 k2 k3 k4 hS hst hpc2 hall ⊢
        rw [← hE] at hst ⊢
        clear hX hE hx hx2 hpc zz
        refine wpAnyT_ready1 (i := 12) (o := ⟨_, _, _, _, _, _⟩) (by kernel_rfl) rfl (fun K hK => ?_)
        refine step_append_stmts rfl _ _ rfl _ _ [] body (w.heap.size + 3) rfl rfl (hst.lo_ (by omega)) (hb3.keep hall).feed (by simp; omega) (by omega) ?_
        intro bv w4 hbo hg4 hb4 hf4
        have HROW := Lib.hid (show ∀ r, (Value.slice (some ⟨E, 0, none⟩) 0 0).ownBlock = some r → wr.heap.size < r from fun r hr => by simp only [Value.ownBlock, Option.some.injEq] at hr; omega)
        have k0 := hg4.cell k0 (fun hc => Nat.lt_irrefl _ (HROW.out _ hc.symm))
        have k1 := hg4.cell k1 (fun hc => Nat.lt_irrefl _ (HROW.out _ hc.symm))
        have k2 := hg4.cell k2 (fun hc => Nat.lt_irrefl _ (HROW.out _ hc.symm))
        have k3 := hg4.cell k3 (fun hc => Nat.lt_irrefl _ (HROW.out _ hc.symm))
        have k4 := hg4.cell k4 (fun hc => by have h : wr.heap.size < w.heap.size + 2 := HROW.out _ hc.symm; omega)
        have hS := And.intro k0 (And.intro k1 (And.intro k2 (And.intro k3 k4)))
        have hp4 := Ints.kept hpc2 hg4 (own_types hpc2 hst (by decide))
        have hrow4 := PRowX.past hrow0 (PRowX.keep hrow1 hall) hg4 (fun r hr => Nat.le_of_lt (HROW.out r hr))
        have hB4 := (hB1.trans (hall.mono hB1.size)).grown hg4 (by omega) (fun r hr => by have := HROW.out r hr; omega)
        have hge : ∀ r, bv.ownBlock = some r → wr.heap.size ≤ r := fun r hr => by
          rcases hf4 with e | ⟨gg, e, e'⟩
          · exact Nat.le_of_lt (HROW.out r (e.symm.trans hr))
          · rw [hr] at e; have := Option.some.inj e; omega
        have hz4 : wr.heap.size + 1 ≤ w4.heap.size := by have := hb4.size; omega
        rw [List.nil_append] at hbo
        obtain ⟨A5, C5, rfl⟩ := hbo.form
        obtain ⟨A6, C6, rfl⟩ := hp4.form
        refine hK _ _ (fun _ => hS) ?_
        try simp only [Act.put, List.setIfInBounds_toArray, List.set_cons_zero, List.set_cons_succ]
        refine wpAnyT_take (i := 13) (oi := ⟨_, _, _, _, _, _⟩) (v := ?v13) (by kernel_rfl) (by decide) rfl (by kernel_rfl) (by kernel_rfl) (by kernel_rfl) (fun _ _ _ h => h) (Or.inl ⟨by rfl, ?hy13⟩) hS ?rest13
        case hy13 =>
          intro w' hSw
          obtain ⟨s0, s1, s2, s3, s4⟩ := hSw
          go_simp
          try with_reducible rfl
        try simp only [Act.put, List.setIfInBounds_toArray, List.set_cons_zero, List.set_cons_succ]
        refine wpAnyT_ready1 (i := 14) (o := ⟨_, _, _, _, _, _⟩) (by kernel_rfl) rfl (fun K hK => ?_)
        go_simp
        have hx4 := al1 (w := w4) (o := .cells (bkCells ⟨kind, parent, ps, body⟩ (.slice A6 ps.length C6) (.slice A5 body.length C5)).toArray 56)
        have k0 := cell_later hx4 k0
        have k1 := cell_later hx4 k1
        have k2 := cell_later hx4 k2
        have k3 := cell_later hx4 k3
        have k4 := cell_later hx4 k4
        have hS := And.intro k0 (And.intro k1 (And.intro k2 (And.intro k3 k4)))
        refine hK _ _ (fun _ => hS) ?_
        try simp only [Act.put, List.setIfInBounds_toArray, List.set_cons_zero, List.set_cons_succ]
        refine wpAnyT_ready1 (i := 15) (o := ⟨_, _, _, _, _, _⟩) (by kernel_rfl) rfl (fun K hK => ?_)
        refine step_append_block rfl _ _ rfl ov _ _ _ xs (p.take k) ⟨kind, parent, ps, body⟩ (w.heap.size + 3) (w.heap.size + 3) rfl rfl (PRowX.keep hrow4 hx4) (bk_row rfl (by omega)) ((hp4.lo_ (by omega)).keep hx4) (hbo.keep hx4) (fun i hi => Apart.of_lt (PRowX.full hrow0 hi) hge) (by rw [List.length_take]; omega) (by rw [World.size_alloc]; omega) ?_
        intro nv w5 hrow5 hg5 hb5 _
        have hovb := own_block_ge hrow4.own
        obtain ⟨ovA, ovC, hov5⟩ := PRowX.form hrow4
        have hq : w5.heap[w.heap.size + 2]? = wr.heap[w.heap.size + 2]? := (hg5.block _ (by simp only [World.size_alloc]; omega) (by intro hc; have := hovb _ hc.symm; omega)).trans ((hx4.block _ (by omega)).trans
          ((hg4.block _ (by omega) (fun hc => by have h := HROW.out _ hc.symm; omega)).trans ((hall.block _ (by omega)).trans (hb1.block _ (by omega)))))
        have q1 := (World.cell?_of_block (a := ⟨w.heap.size + 2, 0, none⟩) hq).trans HOV.out
        have q2 := (World.frozen?_of_block (a := ⟨w.heap.size + 2, 0, none⟩) hq).trans (HFZ.out 0)
        have hB5 := (hB4.trans (hx4.mono hB4.size)).grown hg5 (by simp only [World.size_alloc]; omega) (fun r hr => by have := hovb r hr; omega)
        obtain ⟨nA, nC, rfl⟩ := PRowX.form hrow5
        have el : (p.take k ++ [(⟨kind, parent, ps, body⟩ : Bk)]).length = k + 1 := by simp; omega
        rw [el] at hrow5
        have et : p.take k ++ [(⟨kind, parent, ps, body⟩ : Bk)] = p.take (k + 1) := by rw [HK.out, List.take_succ_eq_append_getElem hlt]; simp [List.getD, hlt]
        have hrow6 : PRow w5 _ _ _ (p.take (k + 1)) := et ▸ hrow5
        have hne5 : ∀ hc : some wr.heap.size = ov.ownBlock, False := fun hc => Nat.lt_irrefl _ (own_block_lt hrow0.own _ hc.symm)
        refine hK _ _ (fun h => ⟨hg5.cell k0 hne5, hg5.cell k1 hne5, hg5.cell k2 hne5, hg5.cell k3 hne5, q1⟩) ?_
        try simp only [Act.put, List.setIfInBounds_toArray, List.set_cons_zero, List.set_cons_succ]
        refine wpAnyT_ready1 (i := 16) (o := ⟨_, _, _, _, _, _⟩) (by kernel_rfl) rfl (fun K hK => ?_)
        go_simp
        refine hK _ _ (fun h => absurd h (by decide)) ?_
        try simp only [Act.put, List.setIfInBounds_toArray, List.set_cons_zero, List.set_cons_succ]
        refine wpAnyT_ready1 (i := 17) (o := ⟨_, _, _, _, _, _⟩) (by kernel_rfl) rfl (fun K hK => ?_)
        go_simp
        refine hK _ _ (fun h => absurd h (by decide)) ?_
        try simp only [Act.put, List.setIfInBounds_toArray, List.set_cons_zero, List.set_cons_succ]
        refine wpAnyT_done (by kernel_rfl) ?_ _
        go_wp2
        go_roundw
        case rel => exact ⟨k + 1, _, _, by omega, by go_num, PRowX.only hrow6 ((Only.refl (w.heap.size + 2) (w.heap.size + 3) w5).setCell (Nat.le_refl _) (Nat.lt_succ_self _) _) (Nat.le_refl _), by simp [go_sem, q1]; omega, fun j => by simp [go_sem]; exact (World.frozen?_of_block (a := ⟨w.heap.size + 2, j, none⟩) hq).trans (HFZ.out j), hB5.setCell (by show W0.heap.size ≤ w.heap.size + 2; omega) _, by have h := hb5.size; simp only [World.size_alloc, World.size_setCell] at h ⊢; omega⟩
        case measure => simp [intOf]; omega
      · go_simp
        have hx := al1 (w := W1) (o := .cells #[] 60)
        have k0 := cell_later hx k0
        have k1 := cell_later hx k1
        have k2 := cell_later hx k2
        have k3 := cell_later hx k3
        have k4 := cell_later hx k4
        have hS := And.intro k0 (And.intro k1 (And.intro k2 (And.intro k3 k4)))
        refine hK _ _ (fun _ => hS) ?_
        try simp only [Act.put, List.setIfInBounds_toArray, List.set_cons_zero, List.set_cons_succ]
        refine wpAnyT_ready1 (i := 8) (o := ⟨_, _, _, _, _, _⟩) (by kernel_rfl) rfl (fun K hK => ?_)
        go_simp
        go_at_call 109
        refine (S_copyInts _ ps lo _ (hp3.keep hx) (by omega)).mono ?_
        rintro e w2 ⟨pv, rfl, hpc, hx2⟩
        have zz := hx2.size
        simp only [World.size_alloc] at zz
        have k0 := cell_later hx2 k0
        have k1 := cell_later hx2 k1
        have k2 := cell_later hx2 k2
        have k3 := cell_later hx2 k3
        have k4 := cell_later hx2 k4
        have hS := And.intro k0 (And.intro k1 (And.intro k2 (And.intro k3 k4)))
        refine hK _ _ (fun _ => hS) ?_
        try simp only [Act.put, List.setIfInBounds_toArray, List.set_cons_zero, List.set_cons_succ]
        have hst := (Stmts.zero (w := W1) (B := W1.heap.size) (lo := W1.heap.size) rfl (Nat.le_refl _)).keep hx2
        have hpc2 := hpc.lo_ (lo' := W1.heap.size) (by simp)
        have hall := bthen hx hx2
        obtain ⟨E, hE⟩ : ∃ E : Nat, E = W1.heap.size := ⟨_, rfl⟩
        obtain ⟨X, hX⟩ : ∃ X : World, X = w2 := ⟨_, rfl⟩
        have hEX : W1.heap.size ≤ E ∧ E < X.heap.size := by rw [hE, hX]; omega
        rw [← hX] at k0 k1 k2 k3 k4 hS hst hpc2 hall ⊢
        have hst : Stmts X E (.slice (some ⟨E, 0, none⟩) 0 0) [] := by rw [hE]; exact hst
        rw [← hE]
        clear hX hx hx2 hpc zz
        refine wpAnyT_ready1 (i := 12) (o := ⟨_, _, _, _, _, _⟩) (by kernel_rfl) rfl (fun K hK => ?_)
        refine step_append_stmts rfl _ _ rfl _ _ [] body (w.heap.size + 3) rfl rfl (hst.lo_ (by omega)) (hb3.keep hall).feed (by simp; omega) (by omega) ?_
        intro bv w4 hbo hg4 hb4 hf4
        have HROW := Lib.hid (show ∀ r, (Value.slice (some ⟨E, 0, none⟩) 0 0).ownBlock = some r → wr.heap.size < r from fun r hr => by simp only [Value.ownBlock, Option.some.injEq] at hr; omega)
        have k0 := hg4.cell k0 (fun hc => Nat.lt_irrefl _ (HROW.out _ hc.symm))
        have k1 := hg4.cell k1 (fun hc => Nat.lt_irrefl _ (HROW.out _ hc.symm))
        have k2 := hg4.cell k2 (fun hc => Nat.lt_irrefl _ (HROW.out _ hc.symm))
        have k3 := hg4.cell k3 (fun hc => Nat.lt_irrefl _ (HROW.out _ hc.symm))
        have k4 := hg4.cell k4 (fun hc => by have h : wr.heap.size < w.heap.size + 2 := HROW.out _ hc.symm; omega)
        have hS := And.intro k0 (And.intro k1 (And.intro k2 (And.intro k3 k4)))
        have hp4 := Ints.kept hpc2 hg4 (own_types hpc2 hst (by decide))
        have hrow4 := PRowX.past hrow0 (PRowX.keep hrow1 hall) hg4 (fun r hr => Nat.le_of_lt (HROW.out r hr))
        have hB4 := (hB1.trans (hall.mono hB1.size)).grown hg4 (by omega) (fun r hr => by have := HROW.out r hr; omega)
        have hge : ∀ r, bv.ownBlock = some r → wr.heap.size ≤ r := fun r hr => by
          rcases hf4 with e | ⟨gg, e, e'⟩
          · exact Nat.le_of_lt (HROW.out r (e.symm.trans hr))
          · rw [hr] at e; have := Option.some.inj e; omega
        have hz4 : wr.heap.size + 1 ≤ w4.heap.size := by have := hb4.size; omega
        rw [List.nil_append] at hbo
        obtain ⟨A5, C5, rfl⟩ := hbo.form
        obtain ⟨A6, C6, rfl⟩ := hp4.form
        refine hK _ _ (fun _ => hS) ?_
        try simp only [Act.put, List.setIfInBounds_toArray, List.set_cons_zero, List.set_cons_succ]
        refine wpAnyT_take (i := 13) (oi := ⟨_, _, _, _, _, _⟩) (v := ?w13) (by kernel_rfl) (by decide) rfl (by kernel_rfl) (by kernel_rfl) (by kernel_rfl) (fun _ _ _ h => h) (Or.inl ⟨by rfl, ?hz13⟩) hS ?rost13
        case hz13 =>
          intro w' hSw
          obtain ⟨s0, s1, s2, s3, s4⟩ := hSw
          go_simp
          try with_reducible rfl
        try simp only [Act.put, List.setIfInBounds_toArray, List.set_cons_zero, List.set_cons_succ]
        refine wpAnyT_ready1 (i := 14) (o := ⟨_, _, _, _, _, _⟩) (by kernel_rfl) rfl (fun K hK => ?_)
        go_simp
        have hx4 := al1 (w := w4) (o := .cells (bkCells ⟨kind, parent, ps, body⟩ (.slice A6 ps.length C6) (.slice A5 body.length C5)).toArray 56)
        have k0 := cell_later hx4 k0
        have k1 := cell_later hx4 k1
        have k2 := cell_later hx4 k2
        have k3 := cell_later hx4 k3
        have k4 := cell_later hx4 k4
        have hS := And.intro k0 (And.intro k1 (And.intro k2 (And.intro k3 k4)))
        refine hK _ _ (fun _ => hS) ?_
        try simp only [Act.put, List.setIfInBounds_toArray, List.set_cons_zero, List.set_cons_succ]
        refine wpAnyT_ready1 (i := 15) (o := ⟨_, _, _, _, _, _⟩) (by kernel_rfl) rfl (fun K hK => ?_)
        refine step_append_block rfl _ _ rfl ov _ _ _ xs (p.take k) ⟨kind, parent, ps, body⟩ (w.heap.size + 3) (w.heap.size + 3) rfl rfl (PRowX.keep hrow4 hx4) (bk_row rfl (by omega)) ((hp4.lo_ (by omega)).keep hx4) (hbo.keep hx4) (fun i hi => Apart.of_lt (PRowX.full hrow0 hi) hge) (by rw [List.length_take]; omega) (by rw [World.size_alloc]; omega) ?_
        intro nv w5 hrow5 hg5 hb5 _
        have hovb := own_block_ge hrow4.own
        obtain ⟨ovA, ovC, hov5⟩ := PRowX.form hrow4
        have hq : w5.heap[w.heap.size + 2]? = wr.heap[w.heap.size + 2]? := (hg5.block _ (by simp only [World.size_alloc]; omega) (by intro hc; have := hovb _ hc.symm; omega)).trans ((hx4.block _ (by omega)).trans
          ((hg4.block _ (by omega) (fun hc => by have h := HROW.out _ hc.symm; omega)).trans ((hall.block _ (by omega)).trans (hb1.block _ (by omega)))))
        have q1 := (World.cell?_of_block (a := ⟨w.heap.size + 2, 0, none⟩) hq).trans HOV.out
        have q2 := (World.frozen?_of_block (a := ⟨w.heap.size + 2, 0, none⟩) hq).trans (HFZ.out 0)
        have hB5 := (hB4.trans (hx4.mono hB4.size)).grown hg5 (by simp only [World.size_alloc]; omega) (fun r hr => by have := hovb r hr; omega)
        obtain ⟨nA, nC, rfl⟩ := PRowX.form hrow5
        have el : (p.take k ++ [(⟨kind, parent, ps, body⟩ : Bk)]).length = k + 1 := by simp; omega
        rw [el] at hrow5
        have et : p.take k ++ [(⟨kind, parent, ps, body⟩ : Bk)] = p.take (k + 1) := by rw [HK.out, List.take_succ_eq_append_getElem hlt]; simp [List.getD, hlt]
        have hrow6 : PRow w5 _ _ _ (p.take (k + 1)) := et ▸ hrow5
        have hne5 : ∀ hc : some wr.heap.size = ov.ownBlock, False := fun hc => Nat.lt_irrefl _ (own_block_lt hrow0.own _ hc.symm)
        refine hK _ _ (fun h => ⟨hg5.cell k0 hne5, hg5.cell k1 hne5, hg5.cell k2 hne5, hg5.cell k3 hne5, q1⟩) ?_
        try simp only [Act.put, List.setIfInBounds_toArray, List.set_cons_zero, List.set_cons_succ]
        refine wpAnyT_ready1 (i := 16) (o := ⟨_, _, _, _, _, _⟩) (by kernel_rfl) rfl (fun K hK => ?_)
        go_simp
        refine hK _ _ (fun h => absurd h (by decide)) ?_
        try simp only [Act.put, List.setIfInBounds_toArray, List.set_cons_zero, List.set_cons_succ]
        refine wpAnyT_ready1 (i := 17) (o := ⟨_, _, _, _, _, _⟩) (by kernel_rfl) rfl (fun K hK => ?_)
        go_simp
        refine hK _ _ (fun h => absurd h (by decide)) ?_
        try simp only [Act.put, List.setIfInBounds_toArray, List.set_cons_zero, List.set_cons_succ]
        refine wpAnyT_done (by kernel_rfl) ?_ _
        go_wp2
        go_roundw
        case rel => exact ⟨k + 1, _, _, by omega, by go_num, PRowX.only hrow6 ((Only.refl (w.heap.size + 2) (w.heap.size + 3) w5).setCell (Nat.le_refl _) (Nat.lt_succ_self _) _) (Nat.le_refl _), by simp [go_sem, q1]; omega, fun j => by simp [go_sem]; exact (World.frozen?_of_block (a := ⟨w.heap.size + 2, j, none⟩) hq).trans (HFZ.out j), hB5.setCell (by show W0.heap.size ≤ w.heap.size + 2; omega) _, by have h := hb5.size; simp only [World.size_alloc, World.size_setCell] at h ⊢; omega⟩
        case measure => simp [intOf]; omega
    · obtain rfl : k = p.length := by omega
      obtain ⟨nA, nC, rfl⟩ := PRowX.form hrow
      rw [List.take_length] at hrow
      rw [List.take_length] at hov
      have r1 := fun o => (bcell hB).1 (w.heap.size + 1) o (by omega)
      have m1 := fun o => (bcell hB).2 (w.heap.size + 1) o (by omega)
      rw [HW0.out] at r1 m1
      have cb : wr.cell? ⟨w.heap.size, 0, none⟩ = some (.slice A p.length C) := (hB.cell (p := ⟨w.heap.size, 0, none⟩) (by show w.heap.size < _; omega)).trans c0
      clear hA hg HCELL HBL
      go_wp2
      exact bodyPost_ret (v := .agg #[.slice nA p.length nC]) (by simp [results, Try.results85, go_sem, r1]) rfl
        ⟨_, xs, rfl, (PRowX.only hrow ((Only.refl (w.heap.size + 1) (w.heap.size + 2) wr).setCell (Nat.le_refl _) (Nat.lt_succ_self _) _) (by omega)).lo_ (by omega), (HB0.out.trans (hB.mono (by omega))).setCell (by show w.heap.size ≤ w.heap.size + 1; omega) _⟩

end Go.Proofs.Ytiemhadpepbcjaa

namespace Go.Proofs.Ytiemhadpepbcjaa
open Go.RowKit
set_option linter.unusedVariables false

/-! ### plain: what bears the marks -/
def seqSt (k : Int) : Nat → List St
  | 0 => []
  | n + 1 => ⟨k, k + 1, k + 1 + 1, k + 1 + 1 + 1⟩ :: seqSt (k + 1 + 1 + 1 + 1) n
theorem seqSt_len : ∀ (n : Nat) (k : Int), (seqSt k n).length = n
  | 0, _ => rfl
  | n + 1, k => by simp [seqSt, seqSt_len n]
theorem seqSt_cells : ∀ (n : Nat) (k : Int), stCells (seqSt k n) = (seqI k (n * 4)).map (Value.int .i64)
  | 0, _ => rfl
  | n + 1, k => by
    have h := seqSt_cells n (k + 1 + 1 + 1 + 1)
    rw [show (n + 1) * 4 = n * 4 + 1 + 1 + 1 + 1 by omega]
    simp only [seqSt, stCells, List.flatMap_cons, seqI, List.map_cons] at h ⊢
    rw [h]
    rfl
theorem seqSt_getD : ∀ (n : Nat) (k : Int) (j : Nat), j < n → (seqSt k n).getD j default = ⟨k + j * 4, k + j * 4 + 1, k + j * 4 + 1 + 1, k + j * 4 + 1 + 1 + 1⟩
  | 0, _, _, h => absurd h (Nat.not_lt_zero _)
  | n + 1, k, 0, _ => by simp [seqSt]
  | n + 1, k, j + 1, h => by
    rw [seqSt, List.getD_cons_succ, seqSt_getD n _ j (by omega), show k + 1 + 1 + 1 + 1 + (j : Int) * 4 = k + ((j + 1 : Nat) : Int) * 4 by omega]
def markB (k : Int) (b : Bk) : Bk := ⟨k, k + 1, seqI (k + 1 + 1) b.params.length, seqSt (k + 1 + 1 + b.params.length) b.body.length⟩
def markP (k : Int) : Pr → Pr
  | [] => []
  | b :: p => markB k b :: markP (k + b.marks) p
theorem markP_len : ∀ (p : Pr) (k : Int), (markP k p).length = p.length
  | [], _ => rfl
  | b :: p, k => by simp [markP, markP_len p]
theorem markP_getD : ∀ (p : Pr) (k : Int) (i : Nat), i < p.length → (markP k p).getD i default = markB (k + marksTo (p.take i)) (p.getD i default)
  | [], _, _, h => absurd h (Nat.not_lt_zero _)
  | b :: p, k, 0, _ => by simp [markP, marksTo]
  | b :: p, k, i + 1, h => by
    rw [markP, List.getD_cons_succ, markP_getD p _ i (by simpa using h), List.getD_cons_succ, List.take_succ_cons, marksTo]
    congr 1
    omega
def mixP (k : Int) (p : Pr) (j : Nat) : Pr := (markP k p).take j ++ p.drop j
theorem mixP_len (k : Int) (p : Pr) (j : Nat) : (mixP k p j).length = p.length := by
  unfold mixP
  rw [List.length_append, List.length_take, List.length_drop, markP_len]
  omega
theorem mixP_zero (k : Int) (p : Pr) : mixP k p 0 = p := by simp [mixP]
theorem mixP_all (k : Int) (p : Pr) : mixP k p p.length = markP k p := by
  unfold mixP
  rw [List.drop_length, List.append_nil, ← markP_len p k, List.take_length]
theorem mixP_at (k : Int) (p : Pr) (j : Nat) (h : j < p.length) : (mixP k p j).getD j default = p.getD j default := by
  unfold mixP
  have e : ((markP k p).take j).length = j := by rw [List.length_take, markP_len]; omega
  rw [List.getD, List.getElem?_append_right (by omega), e, Nat.sub_self, List.getElem?_drop, Nat.add_zero]
  rfl
theorem mixP_succ (k : Int) (p : Pr) (j : Nat) (h : j < p.length) : (mixP k p j).set j (markB (k + marksTo (p.take j)) (p.getD j default)) = mixP k p (j + 1) := by
  have hj : j < (markP k p).length := by rw [markP_len]; exact h
  have e2 : (markP k p)[j] = markB (k + marksTo (p.take j)) (p.getD j default) := by rw [← markP_getD p k j h]; simp [List.getD, hj]
  unfold mixP
  have e : ((markP k p).take j).length = j := by rw [List.length_take, markP_len]; omega
  rw [List.set_append, if_neg (by omega), e, Nat.sub_self, List.drop_eq_getElem_cons h, List.set_cons_zero, List.take_succ_eq_append_getElem hj, e2, List.append_assoc]
  rfl
theorem set4_eq (q : Pr) (j : Nat) (h : j < q.length) (a b : Int) (c : List Int) (d : List St) :
    ((((q.set j { q.getD j default with kind := a }).set j { (q.set j { q.getD j default with kind := a }).getD j default with parent := b }).set j
      { ((q.set j { q.getD j default with kind := a }).set j { (q.set j { q.getD j default with kind := a }).getD j default with parent := b }).getD j default with params := c }).set j
      { (((q.set j { q.getD j default with kind := a }).set j { (q.set j { q.getD j default with kind := a }).getD j default with parent := b }).set j
      { ((q.set j { q.getD j default with kind := a }).set j { (q.set j { q.getD j default with kind := a }).getD j default with parent := b }).getD j default with params := c }).getD j default with body := d }) = q.set j ⟨a, b, c, d⟩ := by
  have hg : ∀ x : Bk, (q.set j x).getD j default = x := fun x => getD_set_eq _ _ _ _ h
  simp only [List.set_set, hg]

/-! ### memory -/
/-- The rows of parameters lie apart. -/
def ApartP (xs : List Value) (n : Nat) : Prop := ∀ i j, i < n → j < n → i ≠ j → Apart (xs.getD (i * 4 + 2) undef) (xs.getD (j * 4 + 2) undef)
theorem ApartP.set {xs : List Value} {n : Nat} (h : ApartP xs n) (m : Nat) (hm : ∀ i, m ≠ i * 4 + 2) (u : Value) : ApartP (xs.set m u) n := fun i j hi hj hij => by
  rw [getD_set_ne _ _ _ _ _ (fun e => hm i e.symm), getD_set_ne _ _ _ _ _ (fun e => hm j e.symm)]
  exact h i j hi hj hij
theorem Raw.seqSt {w : World} {lo n : Nat} {v : Value} {k : Int} (h : Raw w lo v n (seqI k (n * 4))) : Stmts w lo v (seqSt k n) := by
  unfold Stmts
  rw [seqSt_len, seqSt_cells]
  exact h
section
variable {w w' : World} {lo k g n C : Nat} {v : Value} {xs : List Value} {p : Pr}
theorem PRowX.setKind {x : Int} (h : PRow w lo (.slice (some ⟨g, 0, none⟩) n C) xs p) (hk : k < p.length) :
    PRow (w.setCell ⟨g, k * 4, none⟩ (.int .i64 x)) lo (.slice (some ⟨g, 0, none⟩) n C) (xs.set (k * 4) (.int .i64 x)) (p.set k { p.getD k default with kind := x }) := by
  obtain ⟨_, _, _, e, _⟩ := own_rd h.own
  simp only [Value.slice.injEq] at e
  obtain ⟨_, rfl, _⟩ := e
  have hl := h.own.1
  obtain ⟨h1, h2⟩ := World.ownsRow.stored (w := w) h.own (k * 4) (.int .i64 x)
  have kI : ∀ i, i < p.length → Ints (w.setCell ⟨g, k * 4, none⟩ (.int .i64 x)) lo (xs.getD (i * 4 + 2) undef) (p.getD i default).params := fun i hi => Ints.kept (h.pars i hi) h2 (by have := own_types (h.pars i hi) h.own (by decide); simpa [Value.ownBlock] using this)
  have kS : ∀ V m, Stmts w lo V m → Stmts (w.setCell ⟨g, k * 4, none⟩ (.int .i64 x)) lo V m := fun V m hV => Stmts.kept hV h2 (by have := own_types hV h.own (by decide); simpa [Value.ownBlock] using this)
  have gs : ∀ j, j ≠ k * 4 → (xs.set (k * 4) (.int .i64 x)).getD j undef = xs.getD j undef := fun j hj => getD_set_ne _ _ _ _ _ hj
  have gk : (xs.set (k * 4) (.int .i64 x)).getD (k * 4) undef = .int .i64 x := getD_set_eq _ _ _ _ (by omega)
  have ps : ∀ i, i ≠ k → (p.set k { p.getD k default with kind := x }).getD i default = p.getD i default := fun i hi => getD_set_ne _ _ _ _ _ hi
  have pk : (p.set k { p.getD k default with kind := x }).getD k default = { p.getD k default with kind := x } := getD_set_eq _ _ _ _ hk
  refine ⟨by rw [List.length_set]; exact h1, fun i hi => ?_, fun i hi => ?_, fun i hi _ => ?_, fun i j hi hj _ _ hij => ?_⟩
  · rw [List.length_set] at hi
    by_cases e : i = k
    · subst e; rw [pk, gk, gs _ (by omega)]; exact ⟨rfl, (h.head i hi).2⟩
    · rw [ps i e, gs _ (by omega), gs _ (by omega)]; exact h.head i hi
  · rw [List.length_set] at hi
    rw [gs _ (by omega)]
    by_cases e : i = k
    · subst e; rw [pk]; exact kI i hi
    · rw [ps i e]; exact kI i hi
  · rw [List.length_set] at hi
    rw [gs _ (by omega)]
    by_cases e : i = k
    · subst e; rw [pk]; exact kS _ _ (h.full hi)
    · rw [ps i e]; exact kS _ _ (h.full hi)
  · rw [List.length_set] at hi hj
    rw [gs _ (by omega), gs _ (by omega)]
    exact h.apart i j hi hj (by omega) (by omega) hij
/-- The parameters of the block k are written over, in their place. -/
theorem PRowX.parsIn {l : List Int} (h : PRow w lo v xs p) (hap : ApartP xs p.length) (hk : k < p.length) (hg : w.grownBy w' (xs.getD (k * 4 + 2) undef).ownBlock) (hU : Ints w' lo (xs.getD (k * 4 + 2) undef) l) :
    PRow w' lo v xs (p.set k { p.getD k default with params := l }) := by
  have ps : ∀ i, i ≠ k → (p.set k { p.getD k default with params := l }).getD i default = p.getD i default := fun i hi => getD_set_ne _ _ _ _ _ hi
  have pk : (p.set k { p.getD k default with params := l }).getD k default = { p.getD k default with params := l } := getD_set_eq _ _ _ _ hk
  have kS : ∀ V m, Stmts w lo V m → Stmts w' lo V m := fun V m hV => Stmts.kept hV hg (own_types hV (h.pars k hk) (by decide))
  refine ⟨by rw [List.length_set]; exact World.ownsRow.kept h.own hg (own_types h.own (h.pars k hk) (by decide)), fun i hi => ?_, fun i hi => ?_, fun i hi _ => ?_, fun i j hi hj _ _ hij => ?_⟩
  · rw [List.length_set] at hi
    by_cases e : i = k
    · subst e; rw [pk]; exact h.head i hi
    · rw [ps i e]; exact h.head i hi
  · rw [List.length_set] at hi
    by_cases e : i = k
    · subst e; rw [pk]; exact hU
    · rw [ps i e]; exact Ints.kept (h.pars i hi) hg (hap k i hk hi (by omega)).kept
  · rw [List.length_set] at hi
    by_cases e : i = k
    · subst e; rw [pk]; exact kS _ _ (h.full hi)
    · rw [ps i e]; exact kS _ _ (h.full hi)
  · rw [List.length_set] at hi hj
    exact h.apart i j hi hj (by omega) (by omega) hij
/-- The body of the block k is written over, in its place. -/
theorem PRowX.bodyIn {l : List St} (h : PRow w lo v xs p) (hk : k < p.length) (hg : w.grownBy w' (xs.getD (k * 4 + 3) undef).ownBlock) (hU : Stmts w' lo (xs.getD (k * 4 + 3) undef) l) :
    PRow w' lo v xs (p.set k { p.getD k default with body := l }) := by
  have ps : ∀ i, i ≠ k → (p.set k { p.getD k default with body := l }).getD i default = p.getD i default := fun i hi => getD_set_ne _ _ _ _ _ hi
  have pk : (p.set k { p.getD k default with body := l }).getD k default = { p.getD k default with body := l } := getD_set_eq _ _ _ _ hk
  have h2 := PRowX.grown h hk hg
  refine ⟨by rw [List.length_set]; exact h2.own, fun i hi => ?_, fun i hi => ?_, fun i hi _ => ?_, fun i j hi hj _ _ hij => ?_⟩
  · rw [List.length_set] at hi
    by_cases e : i = k
    · subst e; rw [pk]; exact h.head i hi
    · rw [ps i e]; exact h.head i hi
  · rw [List.length_set] at hi
    by_cases e : i = k
    · subst e; rw [pk]; exact h2.pars i hi
    · rw [ps i e]; exact h2.pars i hi
  · rw [List.length_set] at hi
    by_cases e : i = k
    · subst e; rw [pk]; exact hU
    · rw [ps i e]; exact h2.body i hi e
  · rw [List.length_set] at hi hj
    exact h.apart i j hi hj (by omega) (by omega) hij
end

/-- All rows of a program lie below hi. -/
def Under (hi : Nat) (v : Value) (xs : List Value) (n : Nat) : Prop :=
  (∀ r, v.ownBlock = some r → r < hi) ∧ (∀ i, i < n → ∀ r, (xs.getD (i * 4 + 2) undef).ownBlock = some r → r < hi) ∧ (∀ i, i < n → ∀ r, (xs.getD (i * 4 + 3) undef).ownBlock = some r → r < hi)
theorem PRowX.under {w : World} {lo : Nat} {v : Value} {xs : List Value} {p : Pr} (h : PRow w lo v xs p) : Under w.heap.size v xs p.length :=
  ⟨own_block_lt h.own, fun i hi r hr => own_block_lt (h.pars i hi) r hr, fun i hi r hr => own_block_lt (PRowX.full h hi) r hr⟩

/-! ### marks -/
set_option maxRecDepth 100000 in
set_option maxHeartbeats 1000000 in
theorem markBlockS_row (v : Value) (xs0 : List Value) (p : Pr) (lo hi : Nat) (k : Int) (w : World) (hv : PRow w lo v xs0 p) (hun : Under hi v xs0 p.length) (hap : ApartP xs0 p.length) (hk : 0 ≤ k) (hk2 : k + marksTo p ≤ 1099511627776) :
    Calls Try.prog 60 #[v, .int .i64 k] w fun e w' => e = .returned (.int .i64 (k + marksTo p)) ∧ (∃ xs', PRow w' lo v xs' (markP k p)) ∧ Only lo hi w w' := by
  obtain ⟨hh3, hh1, hh2⟩ := hun
  have HH1 := Lib.hid hh1
  have HH2 := Lib.hid hh2
  clear hh1 hh2
  rcases Nat.eq_zero_or_pos p.length with h0 | h0
  · obtain rfl : p = [] := List.eq_nil_of_length_eq_zero h0
    obtain ⟨A, C, rfl⟩ := PRowX.form hv
    have HV := Lib.hid hv
    refine (markBlockS_nil A C k w).mono ?_
    rintro e w' ⟨rfl, rfl⟩
    exact ⟨ret_int (by simp [marksTo]), ⟨_, HV.out⟩, Only.refl _ _ _⟩
  · obtain ⟨g, C, rfl, hnC, hC, hlg, hgl0, _, _⟩ := PRowX.rd hv h0
    unfold maxLen at hC
    have hgh : g < hi := hh3 g rfl
    have HV := Lib.hid hv
    have HAP := Lib.hid hap
    have ha : marksTo (p.take p.length) = marksTo p := by rw [List.take_length]
    have HA := Lib.hid ha
    clear ha hv hap
    go_enter Try.func60, Try.ntmps60
    go_wp2
    go_loopw [1, 5] (fun q i wr => ∃ (j : Nat) (xs : List Value), j ≤ p.length ∧ i = .int .i64 j ∧ q = .int .i64 (k + marksTo (p.take j)) ∧ PRow wr lo (.slice (some ⟨g, 0, none⟩) p.length C) xs (mixP k p j) ∧ ApartP xs p.length ∧ (∀ i, i < p.length → ∀ r, (xs.getD (i * 4 + 2) undef).ownBlock = some r → r < hi) ∧ (∀ i, i < p.length → ∀ r, (xs.getD (i * 4 + 3) undef).ownBlock = some r → r < hi) ∧ Only lo hi w wr) (fun _ i _ => p.length - (intOf i).toNat)
    case atStart => exact ⟨0, xs0, Nat.zero_le _, rfl, by simp [marksTo], by rw [mixP_zero]; exact HV.out, HAP.out, HH1.out, HH2.out, Only.refl _ _ _⟩
    case round =>
      clear HH1 HH2
      obtain ⟨j, xs, hj, rfl, rfl, hrow, hap, hx1, hx2, hB⟩ := hrel
      have HX1 := Lib.hid hx1
      have HX2 := Lib.hid hx2
      clear hx1 hx2
      have hml : (mixP k p j).length = p.length := mixP_len k p j
      have HR := Lib.hid hrow
      have HP := Lib.hid hap
      have HML := Lib.hid hml
      clear hap
      by_cases hlt : j < p.length
      · obtain ⟨g', C', e, _, _, _, hgl, hcell, hf0⟩ := PRowX.rd hrow (by omega)
        rw [hml] at e hcell
        simp only [Value.slice.injEq, Option.some.injEq, Addr.mk.injEq, and_true, true_and] at e
        obtain ⟨rfl, rfl⟩ := e
        obtain ⟨hh0, hh1⟩ := hrow.head j (by omega)
        have hip := hrow.pars j (by omega)
        have hib := PRowX.full hrow (i := j) (by omega)
        have c0 := hcell (j * 4) (by omega)
        have c1 := hcell (j * 4 + 1) (by omega)
        have c2 := hcell (j * 4 + 2) (by omega)
        have c3 := hcell (j * 4 + 3) (by omega)
        rw [hh0] at c0
        rw [hh1] at c1
        have e2 := mixP_at k p j hlt
        have e3 := mixP_succ k p j hlt
        have E2 := Lib.hid e2
        have hs := marksTo_succ p j hlt
        have hle := marksTo_le p (j + 1)
        have hm : (p.getD j default).marks = 2 + (p.getD j default).params.length + (p.getD j default).body.length * 4 := rfl
        have h4 := set4_eq (mixP k p j) j (by omega) (k + marksTo (p.take j)) (k + marksTo (p.take j) + 1) (seqI (k + marksTo (p.take j) + 1 + 1) (p.getD j default).params.length) (seqSt (k + marksTo (p.take j) + 1 + 1 + (p.getD j default).params.length) (p.getD j default).body.length)
        have h5 : ∀ q : Pr, q = (mixP k p j).set j (markB (k + marksTo (p.take j)) (p.getD j default)) → q = mixP k p (j + 1) := fun q hq => hq.trans e3
        unfold markB at h5
        have H4 := Lib.hid h4
        have H5 := Lib.hid h5
        rw [e2] at hip hib
        rw [hs] at hle
        generalize mixP k p j = q at *
        generalize hK : p.getD j default = K at *
        obtain ⟨kd, pt, ps, bd⟩ := K
        simp only at hip hib hm H4 H5
        generalize marksTo (p.take j) = T at *
        have HS := Lib.hid hs
        have HM := Lib.hid hm
        have hmk : 2 + ps.length + bd.length * 4 ≤ (Bk.mk kd pt ps bd).marks := by rw [hm]; exact Nat.le_refl _
        generalize hMK : (Bk.mk kd pt ps bd).marks = mk at *
        have hidx : (j : Int) < (p.length : Int) := by omega
        obtain ⟨U, hU⟩ : ∃ U : Value, xs.getD (j * 4 + 2) undef = U := ⟨_, rfl⟩
        obtain ⟨V, hV⟩ : ∃ V : Value, xs.getD (j * 4 + 3) undef = V := ⟨_, rfl⟩
        rw [hU] at hip c2
        rw [hV] at hib c3
        have HU := Lib.hid hU
        have HVV := Lib.hid hV
        have HIP := Lib.hid hip
        have HIB := Lib.hid hib
        clear hh0 hh1 e2 e3 hs hm h4 h5 hK hMK hU hV hcell hrow hip hib hml
        go_wp2_with fail
        have h1 := PRowX.setKind (k := j) (x := k + (T : Int)) HR.out (by rw [HML.out]; exact hlt)
        have h2 := PRowX.setParent (k := j) (x := k + (T : Int) + 1) h1 (by rw [List.length_set, HML.out]; exact hlt)
        have hp2 := (HP.out.set (j * 4) (fun i => by omega) (.int .i64 (k + (T : Int)))).set (j * 4 + 1) (fun i => by omega) (.int .i64 (k + (T : Int) + 1))
        have gU : ((xs.set (j * 4) (.int .i64 (k + (T : Int)))).set (j * 4 + 1) (.int .i64 (k + (T : Int) + 1))).getD (j * 4 + 2) undef = U := by rw [getD_set_ne _ _ _ _ _ (by omega), getD_set_ne _ _ _ _ _ (by omega), HU.out]
        have gV : ((xs.set (j * 4) (.int .i64 (k + (T : Int)))).set (j * 4 + 1) (.int .i64 (k + (T : Int) + 1))).getD (j * 4 + 3) undef = V := by rw [getD_set_ne _ _ _ _ _ (by omega), getD_set_ne _ _ _ _ _ (by omega), HVV.out]
        have hB2 := (hB.setCell (p := ⟨g, j * 4, none⟩) hlg hgh (.int .i64 (k + (T : Int)))).setCell (p := ⟨g, j * 4 + 1, none⟩) hlg hgh (.int .i64 (k + (T : Int) + 1))
        have hi2 := h2.pars j (by rw [List.length_set, List.length_set, HML.out]; exact hlt)
        have hb2 := PRowX.full h2 (i := j) (by rw [List.length_set, List.length_set, HML.out]; exact hlt)
        have hn1 : ∀ i, i < p.length → ∀ r, (((xs.set (j * 4) (.int .i64 (k + (T : Int)))).set (j * 4 + 1) (.int .i64 (k + (T : Int) + 1))).getD (i * 4 + 2) undef).ownBlock = some r → r < hi := fun i hi' r hr => by
          rw [getD_set_ne _ _ _ _ _ (by omega), getD_set_ne _ _ _ _ _ (by omega)] at hr
          exact HX1.out i hi' r hr
        have hn2 : ∀ i, i < p.length → ∀ r, (((xs.set (j * 4) (.int .i64 (k + (T : Int)))).set (j * 4 + 1) (.int .i64 (k + (T : Int) + 1))).getD (i * 4 + 3) undef).ownBlock = some r → r < hi := fun i hi' r hr => by
          rw [getD_set_ne _ _ _ _ _ (by omega), getD_set_ne _ _ _ _ _ (by omega)] at hr
          exact HX2.out i hi' r hr
        have hxU : ∀ r, U.ownBlock = some r → r < hi := fun r hr => HX1.out j hlt r (by rw [HU.out]; exact hr)
        have hxV : ∀ r, V.ownBlock = some r → r < hi := fun r hr => HX2.out j hlt r (by rw [HVV.out]; exact hr)
        have HN1 := Lib.hid hn1
        have HN2 := Lib.hid hn2
        have HXU := Lib.hid hxU
        have HXV := Lib.hid hxV
        clear hn1 hn2 hxU hxV
        have hqg : ∀ x : Bk, (q.set j x).getD j default = x := fun x => getD_set_eq _ _ _ _ (by rw [HML.out]; exact hlt)
        rw [gU] at hi2
        rw [gV] at hb2
        simp only [List.set_set, hqg, E2.out] at hi2 hb2
        have H2 := Lib.hid h2
        have HP2 := Lib.hid hp2
        have HGU := Lib.hid gU
        have HGV := Lib.hid gV
        generalize (xs.set (j * 4) (.int .i64 (k + (T : Int)))).set (j * 4 + 1) (.int .i64 (k + (T : Int) + 1)) = xs2 at *
        clear h1 h2 hp2 gU gV hqg
        refine (markIntS_any _ ps lo _ _ hi2 (by omega) (by omega)).mono ?_
        rintro e W2 ⟨rfl, hi3, hg2, _⟩
        have h3 := PRowX.parsIn (k := j) H2.out (by rw [List.length_set, List.length_set, HML.out]; exact HP2.out) (by rw [List.length_set, List.length_set, HML.out]; exact hlt) (by rw [HGU.out]; exact hg2) (by rw [HGU.out]; exact hi3)
        have hz2 := hg2.size
        have hB3 := hB2.grown hg2 (fun r hr => ⟨own_block_ge hi2 r hr, HXU.out r hr⟩)
        have hb3 := Stmts.kept hb2 hg2 (own_types hb2 hi2 (by decide))
        obtain ⟨g9, C9, e9, _, _, _, hgl9, hcell9, _⟩ := PRowX.rd h3 (by rw [List.length_set, List.length_set, List.length_set, HML.out]; omega)
        simp only [Value.slice.injEq, Option.some.injEq, Addr.mk.injEq, and_true] at e9
        obtain ⟨rfl, hz9, rfl⟩ := e9
        clear hz9
        have d3 := hcell9 (j * 4 + 3) (by rw [List.length_set, List.length_set, List.length_set, HML.out]; omega)
        rw [HGV.out] at d3
        have H3 := Lib.hid h3
        have HB3 := Lib.hid hB3
        clear h3 hcell9 hi3 hg2 hi2 hb2 c0 c1 c2 c3 hB2 hz2 hB3
        go_wp2_with fail
        refine (markStmtS_any _ bd.length _ lo _ _ hb3.raw (by omega) (by omega)).mono ?_
        rintro e W3 ⟨rfl, hi4, hg3, _⟩
        have h6 := PRowX.bodyIn (k := j) H3.out (by rw [List.length_set, List.length_set, List.length_set, HML.out]; exact hlt) (by rw [HGV.out]; exact hg3) (by rw [HGV.out]; exact hi4.seqSt)
        have hB4 := HB3.out.grown hg3 (fun r hr => ⟨own_block_ge hb3 r hr, HXV.out r hr⟩)
        rw [H5.out _ H4.out] at h6
        have H6 := Lib.hid h6
        have HB4 := Lib.hid hB4
        clear h6 hi4 hg3 hb3 d3 hB4
        go_wp2
        go_roundw
        case rel => exact ⟨j + 1, xs2, by omega, by go_num, by rw [HS.out, HM.out]; go_num, H6.out, HP2.out, HN1.out, HN2.out, HB4.out⟩
        case measure => simp [intOf]; omega
      · obtain rfl : j = p.length := by omega
        rw [mixP_all] at hrow
        go_wp2
        go_ret
        exact ⟨ret_int (by rw [HA.out]), ⟨_, hrow⟩, hB⟩

theorem markProgram_row (sl : Value) (xs0 : List Value) (p : Pr) (lo hi : Nat) (k : Int) (w : World) (hv : PRow w lo sl xs0 p) (hun : Under hi sl xs0 p.length) (hap : ApartP xs0 p.length) (hk : 0 ≤ k) (hk2 : k + marksTo p ≤ 1099511627776) :
    Calls Try.prog 24 #[.agg #[sl], .int .i64 k] w fun e w' => e = .returned (.int .i64 (k + marksTo p)) ∧ (∃ xs', PRow w' lo sl xs' (markP k p)) ∧ Only lo hi w w' := by
  have HV := Lib.hid hv
  have HB := Lib.hid hun
  have HAP := Lib.hid hap
  obtain ⟨A, C, rfl⟩ := PRowX.form hv
  clear hv hap hun
  go_enter Try.func24, Try.ntmps24
  go_wp2_with fail
  refine (markBlockS_row _ xs0 p lo hi k _ (PRowX.keep HV.out al1) HB.out HAP.out hk hk2).mono ?_
  rintro e w' ⟨rfl, h1, h2⟩
  have H1 := Lib.hid h1
  clear h1
  go_wp2
  go_ret
  exact ⟨rfl, H1.out, ((Only.refl _ _ _).alloc _).trans h2⟩

/-! ### the look whether they stand -/
end Go.Proofs.Ytiemhadpepbcjaa

namespace Go.Proofs.Ytiemhadpepbcjaa
open Go.RowKit
set_option linter.unusedVariables false

/-- A block without its declarations. -/
def bareB (k : Bk) : Bk := { k with body := k.body.filter fun s => !s.decl }
def bareP (p : Pr) : Pr := p.map bareB
def outTo (p : Pr) (k : Nat) : Pr := (p.take k).map bareB ++ p.drop k
def keepTo (l : List St) (j : Nat) : List St := (l.take j).filter fun s => !s.decl
theorem keepTo_yes (l : List St) (j : Nat) (h : j < l.length) (hf : (l.getD j default).decl = false) : keepTo l (j + 1) = keepTo l j ++ [l.getD j default] := by
  have e : l.getD j default = l[j] := by simp [List.getD, h]
  rw [e] at hf ⊢
  unfold keepTo
  rw [List.take_succ_eq_append_getElem h, List.filter_append]
  simp [hf]
theorem keepTo_no (l : List St) (j : Nat) (h : j < l.length) (hf : (l.getD j default).decl = true) : keepTo l (j + 1) = keepTo l j := by
  have e : l.getD j default = l[j] := by simp [List.getD, h]
  rw [e] at hf
  unfold keepTo
  rw [List.take_succ_eq_append_getElem h, List.filter_append]
  simp [hf]
theorem keepTo_len (l : List St) (j : Nat) : (keepTo l j).length ≤ j := by
  unfold keepTo
  have h1 := List.length_filter_le (fun s : St => !s.decl) (l.take j)
  rw [List.length_take] at h1
  omega
theorem outTo_len (p : Pr) (k : Nat) : (outTo p k).length = p.length := by
  unfold outTo
  rw [List.length_append, List.length_map, List.length_take, List.length_drop]
  omega
theorem outTo_at (p : Pr) (k : Nat) (h : k < p.length) : (outTo p k).getD k default = p.getD k default := by
  unfold outTo
  have e : ((p.take k).map bareB).length = k := by rw [List.length_map, List.length_take]; omega
  rw [List.getD, List.getElem?_append_right (by omega), e, Nat.sub_self, List.getElem?_drop, Nat.add_zero]
  rfl
theorem outTo_succ (p : Pr) (k : Nat) (h : k < p.length) : (outTo p k).set k { (outTo p k).getD k default with body := keepTo (p.getD k default).body (p.getD k default).body.length } = outTo p (k + 1) := by
  rw [outTo_at p k h]
  have e1 : keepTo (p.getD k default).body (p.getD k default).body.length = (bareB (p.getD k default)).body := by unfold keepTo bareB; rw [List.take_length]
  have e0 : p.getD k default = p[k] := by simp [List.getD, h]
  have e2 : ({ p.getD k default with body := keepTo (p.getD k default).body (p.getD k default).body.length } : Bk) = bareB (p.getD k default) := by rw [e1]; rfl
  rw [e2, e0]
  unfold outTo
  have e : ((p.take k).map bareB).length = k := by rw [List.length_map, List.length_take]; omega
  rw [List.set_append, if_neg (by omega), e, Nat.sub_self, List.drop_eq_getElem_cons h, List.set_cons_zero, List.take_succ_eq_append_getElem h, List.map_append, List.append_assoc]
  rfl
theorem outTo_zero (p : Pr) : outTo p 0 = p := by simp [outTo]
theorem outTo_all (p : Pr) : outTo p p.length = bareP p := by simp [outTo, bareP]

set_option maxRecDepth 100000 in
set_option maxHeartbeats 8000000 in
theorem S_bare (v : Value) (p : Pr) (lo : Nat) (w : World) (hv : Prog w lo v p) (hl : p.length ≤ 1000) (hbl : ∀ b, b < p.length → (p.getD b default).body.length ≤ 1000 ∧ (p.getD b default).params.length ≤ 1000) :
    Calls Try.prog 47 #[v] w fun e w' => ∃ sl xs, e = .returned (.agg #[sl]) ∧ PRow w' w.heap.size sl xs (bareP p) ∧ Below w.heap.size w w' := by
  obtain ⟨sl, rfl, hv⟩ := hv
  have HV := Lib.hid hv
  have HBL := Lib.hid hbl
  obtain ⟨A, C, rfl⟩ := hv.form
  clear hv hbl
  go_enter Try.func47, Try.ntmps47
  go_wp2_with fail
  obtain ⟨W0, hW0⟩ : ∃ W0 : World, W0 = ((w.alloc (.cells #[.slice A p.length C] 25)).alloc (.cells #[.slice none 0 0] 25)) := ⟨_, rfl⟩
  have hb0 : Below w.heap.size w W0 := by rw [hW0]; exact al2
  have z0 : w.heap.size + 2 ≤ W0.heap.size := by rw [hW0]; simp
  have c0 : W0.cell? ⟨w.heap.size, 0, none⟩ = some (.slice A p.length C) := by rw [hW0]; simp [go_sem]
  rw [← hW0]
  have HW0 := Lib.hid hW0
  refine (S_copyProgram _ p lo _ ⟨_, rfl, HV.out.keep hb0⟩ hl HBL.out).mono ?_
  rintro e w1 ⟨sl1, xs1, rfl, hrow1, hb1⟩
  obtain ⟨oA, oC, rfl⟩ := PRowX.form hrow1
  have hb01 := bthen hb0 hb1
  have c1 := cell_later hb1 c0
  have z1 : w.heap.size + 2 ≤ w1.heap.size := Nat.le_trans z0 hb1.size
  have r1 : ∀ o, w1.cell? ⟨w.heap.size + 1, o, none⟩ = W0.cell? ⟨w.heap.size + 1, o, none⟩ := fun o => (bcell hb1).1 (w.heap.size + 1) o (by omega)
  have m1 : ∀ o, w1.frozen? ⟨w.heap.size + 1, o, none⟩ = W0.frozen? ⟨w.heap.size + 1, o, none⟩ := fun o => (bcell hb1).2 (w.heap.size + 1) o (by omega)
  rw [HW0.out] at r1 m1
  have R1 := Lib.hid r1
  have M1 := Lib.hid m1
  have HB01 := Lib.hid hb01
  have hrow1 := hrow1.lo_ (lo' := w.heap.size + 2) z0
  have HROW1 := Lib.hid hrow1
  clear hW0 hb1 c0 r1 m1 hb01
  go_wp2
  obtain ⟨W2, hW2⟩ : ∃ W2 : World, W2 = w1.alloc (.cells #[.slice oA p.length oC] 25) := ⟨_, rfl⟩
  have hb2 : Below w1.heap.size w1 W2 := by rw [hW2]; exact al1
  have c2 : W2.cell? ⟨w1.heap.size, 0, none⟩ = some (.slice oA p.length oC) := by rw [hW2]; simp [go_sem]
  have z2 : w1.heap.size < W2.heap.size := by rw [hW2]; simp
  have c1 := cell_later hb2 c1
  have hrow2 := PRowX.keep hrow1 hb2
  rw [← hW2]
  clear hW2 hrow1
  go_loopw [4] (fun i wr => ∃ (k : Nat) (xs : List Value), k ≤ p.length ∧ i = .int .i64 k ∧ PRow wr (w.heap.size + 2) (.slice oA p.length oC) xs (outTo p k) ∧ wr.cell? ⟨w1.heap.size, 0, none⟩ = some (.slice oA p.length oC) ∧ wr.cell? ⟨w.heap.size, 0, none⟩ = some (.slice A p.length C) ∧ Below (w.heap.size + 2) w1 wr) (fun i _ => p.length - (intOf i).toNat)
  case atStart => exact ⟨0, xs1, Nat.zero_le _, rfl, by rw [outTo_zero]; exact hrow2, c2, c1, hb2.mono z1⟩
  case round =>
    clear c1 c2 hrow2
    obtain ⟨k, xs, hk, rfl, hrow, co, cp, hB⟩ := hrel
    by_cases hlt : k < p.length
    · obtain ⟨og, oC', eo, _, _, hog1, hog2, _, _⟩ := PRowX.rd HROW1.out (by omega)
      simp only [Value.slice.injEq] at eo
      obtain ⟨rfl, _, rfl⟩ := eo
      have hBw : Below w.heap.size w wr := HB01.out.trans (hB.mono (by omega))
      obtain ⟨A', C', g, e, hn, hc, hA, hg, hcell, _⟩ := (HV.out.keep hBw).rd
      simp only [Value.slice.injEq] at e
      obtain ⟨rfl, _, rfl⟩ := e
      obtain rfl := hA (by omega)
      have hgl := (hg (by omega)).2
      have hgl0 : g < w.heap.size := by
        obtain ⟨_, _, g', e', _, _, hA', hg', _⟩ := HV.out.rd
        have h1 := hA' (by omega)
        simp only [Value.slice.injEq] at e'
        have h2 := (hg' (by omega)).2
        rw [h1] at e'
        simp only [Option.some.injEq, Addr.mk.injEq, and_true] at e'
        omega
      obtain ⟨pv, bv, d0, d1, d2, d3, hp, hb⟩ := hcell k hlt
      obtain ⟨hbl1, hbl2⟩ := HBL.out k hlt
      obtain ⟨A3, C3, g3, e3, hn3, hc3, hA3, hg3, hst, _⟩ := hb.rd
      have hto := outTo_succ p k hlt
      have HTO := Lib.hid hto
      have HST := Lib.hid hst
      generalize (p.getD k default).body = body at *
      subst e3
      unfold maxLen at hc hc3
      have hi0 : (0 : Int) ≤ (k : Int) := by omega
      have hi1 : (k : Int) < (p.length : Int) := by omega
      have HROW := Lib.hid hrow
      clear hA hg hcell hb hto hst d0 d1 d2 hp hrow
      obtain ⟨wo, hwo⟩ : ∃ wo : World, wo = wr := ⟨_, rfl⟩
      subst hwo
      go_wp2
      go_loopw [5, 6] (fun q i wi => ∃ (j : Nat), j ≤ body.length ∧ i = .int .i64 j ∧ Stmts wi wo.heap.size q (keepTo body j) ∧ Below wo.heap.size wo wi) (fun _ i _ => body.length - (intOf i).toNat)
      case atStart => exact ⟨0, Nat.zero_le _, rfl, Stmts.zero rfl (Nat.le_refl _), al1⟩
      case round =>
        obtain ⟨j, hj, rfl, hq, hBi⟩ := hrel
        have cpi := cell_later hBi cp
        have coi := cell_later hBi co
        have d3i := cell_later hBi d3
        by_cases hjl : j < body.length
        · obtain ⟨s0, s1, s2, s3⟩ := HST.out j hjl
          have hg3l := (hg3 (by omega)).2
          have s0 := cell_later hBi s0
          have s1 := cell_later hBi s1
          have s2 := cell_later hBi s2
          have s3 := cell_later hBi s3
          obtain rfl := hA3 (by omega)
          have hj0 : (0 : Int) ≤ (j : Int) := by omega
          have hj1 : (j : Int) < (body.length : Int) := by omega
          obtain ⟨s, hs⟩ : ∃ s : St, s = body.getD j default := ⟨_, rfl⟩
          have hy := keepTo_yes body j hjl
          have hno := keepTo_no body j hjl
          rw [← hs] at s0 s1 s2 s3 hy hno
          obtain ⟨sk, st, sa, sb⟩ := s
          have HQ := Lib.hid hq
          have hlen := keepTo_len body j
          clear hs hA3 hg3 hq
          cases hd : (⟨sk, st, sa, sb⟩ : St).decl
          · have hy := hy hd
            unfold St.decl at hd
            rw [decide_eq_false_iff_not] at hd
            have n9 : (sk != 9) = true := by rw [bne_iff_ne]; intro h; exact hd (.inl h)
            have n10 : (sk != 10) = true := by rw [bne_iff_ne]; intro h; exact hd (.inr h)
            have HY := Lib.hid hy
            clear hy hno hd
            go_wp2_with (at_builtin; refine wpList_append_stmts rfl _ _ rfl _ _ _ [⟨sk, st, sa, sb⟩] wo.heap.size rfl rfl ((HQ.out.keep al1).keep al1) (Stmts.feed (Stmts.one (lo := 0) (B := wr.heap.size + 1) (by simp only [World.size_alloc]) (Nat.zero_le _) sk st sa sb)) (by simp only [List.length_cons, List.length_nil]; omega) (by have := hBi.size; simp only [World.size_alloc]; omega) ?_; intro q' w5 hq5 hg5 hb5 hf5)
            go_roundw
            case rel => exact ⟨j + 1, by omega, by go_num, by rw [HY.out]; exact hq5, ((hBi.alloc hBi.size _).alloc (by have := hBi.size; simp only [World.size_alloc]; omega) _).grown hg5 (by have := hBi.size; simp only [World.size_alloc]; omega) (fun r hr => own_block_ge HQ.out r hr)⟩
            case measure => simp [intOf]; omega
          · have hno := hno hd
            unfold St.decl at hd
            rw [decide_eq_true_iff] at hd
            have HNO := Lib.hid hno
            clear hy hno
            rcases hd with hd | hd
            · have hd : sk = 9 := hd
              subst hd
              go_wp2
              go_roundw
              case rel => exact ⟨j + 1, by omega, by go_num, by rw [HNO.out]; exact HQ.out.keep al1, hBi.alloc hBi.size _⟩
              case measure => simp [intOf]; omega
            · have hd : sk = 10 := hd
              subst hd
              go_wp2
              go_roundw
              case rel => exact ⟨j + 1, by omega, by go_num, by rw [HNO.out]; exact HQ.out.keep al1, hBi.alloc hBi.size _⟩
              case measure => simp [intOf]; omega
        · obtain rfl : j = body.length := by omega
          obtain ⟨A5, C5, rfl⟩ := hq.form
          have hrowi := PRowX.keep HROW.out hBi
          obtain ⟨og2, oC2, eo, _, _, _, hog3, hoc, hof⟩ := PRowX.rd hrowi (by rw [outTo_len]; omega)
          simp only [Value.slice.injEq, Option.some.injEq, Addr.mk.injEq, and_true] at eo
          obtain ⟨rfl, _, rfl⟩ := eo
          have o3 := hoc (k * 4 + 3) (by rw [outTo_len]; omega)
          have f3 := hof (k * 4 + 3)
          have HRI := Lib.hid hrowi
          have HQ := Lib.hid hq
          have HBI := Lib.hid hBi
          have hne : og ≠ w1.heap.size := by omega
          have hne2 : og ≠ w.heap.size := by omega
          clear hoc hof hrowi hq
          go_wp2
          go_roundw
          case rel =>
            have hU := HQ.out
            refine ⟨k + 1, xs.set (k * 4 + 3) (.slice A5 (keepTo body body.length).length C5), by omega, by go_num, ?_, by simp [go_sem, coi]; try omega, by simp [go_sem, cpi]; try omega, (hB.trans (HBI.out.mono (by have := hB.size; omega))).setCell (by show w.heap.size + 2 ≤ og; omega) _⟩
            rw [← HTO.out]
            exact PRowX.setBody (PRowX.part HRI.out k) (by rw [outTo_len]; omega) (hU.lo_ (by have := hB.size; omega)) (fun i hi _ => Apart.of_lt (PRowX.full HROW.out hi) (own_block_ge hU))
          case measure => simp [intOf]; omega
    · obtain rfl : k = p.length := by omega
      rw [outTo_all] at hrow
      have r1 : ∀ o, wr.cell? ⟨w.heap.size + 1, o, none⟩ = w1.cell? ⟨w.heap.size + 1, o, none⟩ := fun o => (bcell hB).1 (w.heap.size + 1) o (by omega)
      have m1 : ∀ o, wr.frozen? ⟨w.heap.size + 1, o, none⟩ = w1.frozen? ⟨w.heap.size + 1, o, none⟩ := fun o => (bcell hB).2 (w.heap.size + 1) o (by omega)
      have r2 : ∀ o, wr.cell? ⟨w.heap.size + 1, o, none⟩ = _ := fun o => (r1 o).trans (R1.out o)
      have m2 : ∀ o, wr.frozen? ⟨w.heap.size + 1, o, none⟩ = _ := fun o => (m1 o).trans (M1.out o)
      clear r1 m1
      go_wp2
      exact bodyPost_ret (v := .agg #[.slice oA p.length oC]) (by simp [results, Try.results47, go_sem, r2]) rfl
        ⟨_, xs, rfl, (PRowX.only hrow ((Only.refl (w.heap.size + 1) (w.heap.size + 2) wr).setCell (Nat.le_refl _) (Nat.lt_succ_self _) _) (Nat.le_refl _)).lo_ (by omega), (HB01.out.trans (hB.mono (by omega))).setCell (by show w.heap.size ≤ w.heap.size + 1; omega) _⟩

end Go.Proofs.Ytiemhadpepbcjaa

namespace Go.Proofs.Ytiemhadpepbcjaa
open Go.RowKit
set_option linter.unusedVariables false

/-! ### rows cut short; clear -/
theorem grown_of_below {w w' : World} (h : Below w.heap.size w w') (row : Option Nat) : w.grownBy w' row := ⟨h.os, h.tape, h.output, h.size, fun k hk _ => h.block k hk⟩
theorem own_cut {w : World} {lo : Nat} {e : TypeId} {size n C g : Nat} {xs : List Value} (h : w.ownsRow lo e size (.slice (some ⟨g, 0, none⟩) n C) n xs) (m : Nat) (hm : m ≤ n) :
    w.ownsRow lo e size (.slice (some ⟨g, 0, none⟩) m C) m (xs.take (m * size)) := by
  have hl := h.1
  have hms : m * size ≤ n * size := Nat.mul_le_mul_right _ hm
  rcases h.2 with ⟨h', _⟩ | ⟨g', cap, cur, h', hb, hg, hnc, hcm, hcs, ht⟩
  · simp at h'
  · simp only [Value.slice.injEq, Option.some.injEq, Addr.mk.injEq, and_true, true_and] at h'
    obtain ⟨rfl, rfl⟩ := h'
    refine ⟨by rw [List.length_take]; omega, .inr ⟨g, C, cur, rfl, hb, hg, by omega, hcm, hcs, ?_⟩⟩
    rw [← ht, List.take_take, Nat.min_eq_left hms]
theorem own_setCells {lo : Nat} {e : TypeId} {size n C g : Nat} : ∀ (vs : List Value) (o : Nat) (w : World) (xs : List Value), w.ownsRow lo e size (.slice (some ⟨g, 0, none⟩) n C) n xs →
    ∃ ys, (w.setCells g o vs).ownsRow lo e size (.slice (some ⟨g, 0, none⟩) n C) n ys ∧ ys.take o = xs.take o ∧ w.grownBy (w.setCells g o vs) (some g)
  | [], o, w, xs, h => ⟨xs, h, rfl, World.grownBy.refl _ _⟩
  | v :: r, o, w, xs, h => by
    obtain ⟨h1, h2⟩ := World.ownsRow.stored (w := w) h o v
    obtain ⟨ys, h3, h4, h5⟩ := own_setCells r (o + 1) _ _ h1
    refine ⟨ys, h3, ?_, h2.trans h5⟩
    have h6 := congrArg (List.take o) h4
    rw [List.take_take, List.take_take, Nat.min_eq_left (by omega)] at h6
    rw [h6, List.take_set_of_le (Nat.le_refl _)]
theorem Stmts.cut {w : World} {lo n C g : Nat} {l : List St} (h : Stmts w lo (.slice (some ⟨g, 0, none⟩) n C) l) (m : Nat) (hm : m ≤ l.length) : Stmts w lo (.slice (some ⟨g, 0, none⟩) m C) (l.take m) := by
  obtain ⟨_, _, e⟩ := h.form
  simp only [Value.slice.injEq] at e
  obtain ⟨_, rfl, _⟩ := e
  have := own_cut h m hm
  unfold Stmts
  rw [stCells_take] at this
  rw [List.length_take, Nat.min_eq_left hm]
  exact this
theorem inf_Stmt' : ∃ i : TypeInfo, Try.prog.info? 60 = some i ∧ i.zero = some (.agg #[.int .i64 0, .int .i64 0, .int .i64 0, .int .i64 0]) := by
  obtain ⟨i, hi, hz, _⟩ := info_parts inf_Stmt
  exact ⟨i, hi, hz⟩
/-- The cells of a row from the statement i on are cleared. -/
theorem run_clear_stmts (w : World) (lo g C n i m cap off : Nat) (l : List St) (hown : Stmts w lo (.slice (some ⟨g, 0, none⟩) n C) l) (him : i + m = l.length) (ho : off = i * 4) :
    ∃ w', (∀ ty, (Builtin.clear_ #[54] ty #[.slice (some ⟨g, off, none⟩) m cap]).run Try.prog w = .ok (.tuple #[]) w') ∧ Stmts w' lo (.slice (some ⟨g, 0, none⟩) i C) (l.take i) ∧ w.grownBy w' (some g) := by
  subst ho
  rcases Nat.eq_zero_or_pos m with rfl | hm
  · exact ⟨w, fun ty => by simp [Builtin.clear_, run_underlying Try.underlying54], hown.cut i (by omega), World.grownBy.refl _ _⟩
  · obtain ⟨A, C', g', e, hn, hc, hA, hg, hcell, hf⟩ := own_rd hown
    simp only [Value.slice.injEq] at e
    obtain ⟨rfl, rfl, rfl⟩ := e
    have e2 := hA (by omega)
    simp only [Option.some.injEq, Addr.mk.injEq, and_true] at e2
    subst e2
    obtain ⟨ti, hi, hz⟩ := inf_Stmt'
    have hzc : (Builtin.zeroCells (Value.agg #[.int .i64 0, .int .i64 0, .int .i64 0, .int .i64 0]).cells m).toList = List.replicate (m * 4) (.int .i64 0) := by
      simp only [Builtin.zeroCells, Value.cells]
      apply List.ext_getElem
      · simp
      · intro i h1 h2
        have h4 : i % 4 < 4 := Nat.mod_lt _ (by omega)
        have h5 : i % 4 = 0 ∨ i % 4 = 1 ∨ i % 4 = 2 ∨ i % 4 = 3 := by omega
        rcases h5 with h5 | h5 | h5 | h5 <;> simp [h5]
    have hst := run_storeCells_cells (P := Try.prog) g (i * 4) (List.replicate (m * 4) (.int .i64 0)) 0 w (fun j hj => by
        rw [List.length_replicate] at hj
        rw [Nat.add_zero, hcell _ (by omega)]; rfl) (fun j hj => by rw [Nat.add_zero]; exact hf (by omega) _) (by intro v hv'; rw [List.eq_of_mem_replicate hv']; rfl)
    rw [Nat.add_zero] at hst
    obtain ⟨ys, h1, h2, h3⟩ := own_setCells (List.replicate (m * 4) (.int .i64 0)) (i * 4) w _ hown
    have h4 := own_cut h1 i (by omega)
    rw [h2, stCells_take] at h4
    obtain ⟨m', rfl⟩ : ∃ m', m = m' + 1 := ⟨m - 1, by omega⟩
    refine ⟨_, ?_, by unfold Stmts; rw [List.length_take, Nat.min_eq_left (by omega)]; exact h4, h3⟩
    have hv : ∀ w, (zeroValue 60).run Try.prog w = .ok (.agg #[.int .i64 0, .int .i64 0, .int .i64 0, .int .i64 0]) w := fun w => by simp [zeroValue, typeInfo, hi, hz]
    intro ty
    simp [Builtin.clear_, run_underlying Try.underlying54, hv, hzc, hst]
/-- A statement stored into a row. -/
theorem Stmts.stored {w : World} {lo g n C : Nat} {l : List St} (h : Stmts w lo (.slice (some ⟨g, 0, none⟩) n C) l) (i : Nat) (hi : i < l.length) (k t a b : Int) :
    Stmts ((((w.setCell ⟨g, i * 4, none⟩ (.int .i64 k)).setCell ⟨g, i * 4 + 1, none⟩ (.int .i64 t)).setCell ⟨g, i * 4 + 2, none⟩ (.int .i64 a)).setCell ⟨g, i * 4 + 3, none⟩ (.int .i64 b)) lo (.slice (some ⟨g, 0, none⟩) n C) (l.set i ⟨k, t, a, b⟩) ∧
    w.grownBy ((((w.setCell ⟨g, i * 4, none⟩ (.int .i64 k)).setCell ⟨g, i * 4 + 1, none⟩ (.int .i64 t)).setCell ⟨g, i * 4 + 2, none⟩ (.int .i64 a)).setCell ⟨g, i * 4 + 3, none⟩ (.int .i64 b)) (some g) := by
  obtain ⟨_, _, e⟩ := h.form
  simp only [Value.slice.injEq] at e
  obtain ⟨_, rfl, _⟩ := e
  have a0 := World.ownsRow.stored (w := w) h (i * 4) (.int .i64 k)
  have a1 := World.ownsRow.stored a0.1 (i * 4 + 1) (.int .i64 t)
  have a2 := World.ownsRow.stored a1.1 (i * 4 + 2) (.int .i64 a)
  have a3 := World.ownsRow.stored a2.1 (i * 4 + 3) (.int .i64 b)
  refine ⟨?_, ((a0.2.trans a1.2).trans a2.2).trans a3.2⟩
  have e : ∀ (l : List St) (i : Nat), i < l.length → ((((stCells l).set (i * 4) (.int .i64 k)).set (i * 4 + 1) (.int .i64 t)).set (i * 4 + 2) (.int .i64 a)).set (i * 4 + 3) (.int .i64 b) = stCells (l.set i ⟨k, t, a, b⟩) := by
    intro l
    induction l with
    | nil => intro i h; exact absurd h (Nat.not_lt_zero _)
    | cons s l ih =>
      intro i h
      cases i with
      | zero => simp [stCells]
      | succ i =>
        have := ih i (by simpa using h)
        simp only [stCells, List.flatMap_cons, List.set_cons_succ] at this ⊢
        rw [← this, show (i + 1) * 4 = i * 4 + 4 by omega]
        simp
  unfold Stmts
  rw [List.length_set, ← e l i hi]
  exact a3.1

theorem boxAt4 {w w' : World} {a b c d : Value} {t : TypeId} (h : Below (w.alloc (.cells #[a, b, c, d] t)).heap.size (w.alloc (.cells #[a, b, c, d] t)) w') :
    w'.cell? ⟨w.heap.size, 0, none⟩ = some a ∧ w'.cell? ⟨w.heap.size, 1, none⟩ = some b ∧ w'.cell? ⟨w.heap.size, 2, none⟩ = some c ∧ w'.cell? ⟨w.heap.size, 3, none⟩ = some d :=
  ⟨(h.cell (p := ⟨w.heap.size, 0, none⟩) (by simp)).trans (by simp [go_sem]), (h.cell (p := ⟨w.heap.size, 1, none⟩) (by simp)).trans (by simp [go_sem]), (h.cell (p := ⟨w.heap.size, 2, none⟩) (by simp)).trans (by simp [go_sem]), (h.cell (p := ⟨w.heap.size, 3, none⟩) (by simp)).trans (by simp [go_sem])⟩

/-! ### isDeclaration, IndexFunc, DeleteFunc -/
theorem decl_eq (k t a b : Int) : (⟨k, t, a, b⟩ : St).decl = (k == 9 || k == 10) := by
  unfold St.decl
  rw [Bool.eq_iff_iff]
  simp

set_option maxRecDepth 100000 in
theorem I_IndexFunc (v : Value) (l : List St) (lo : Nat) (w : World) (hv : Stmts w lo v l) (hl : l.length ≤ 1000) :
    Calls Try.prog 79 #[v, .func (.func 41) #[] #[]] w fun e w' => ∃ i : Nat, i ≤ l.length ∧ (∀ j, j < i → (l.getD j default).decl = false) ∧ (i < l.length ∧ (l.getD i default).decl = true ∧ e = .returned (.int .i64 i) ∨ i = l.length ∧ e = .returned (.int .i64 (-1))) ∧ Below w.heap.size w w' := by
  obtain ⟨A, C, g, rfl, hn, hc, hA, hg, hcell, _⟩ := hv.rd
  have HC := Lib.hid hcell
  unfold maxLen at hc
  clear hv hcell
  go_enter Try.func79, Try.ntmps79
  go_wp2
  go_loopw [8] (fun i wr => ∃ k : Nat, k ≤ l.length ∧ i = .int .i64 k ∧ (∀ j, j < k → (l.getD j default).decl = false) ∧ Below w.heap.size w wr) (fun i _ => l.length - (intOf i).toNat)
  case atStart => exact ⟨0, Nat.zero_le _, rfl, fun j hj => absurd hj (Nat.not_lt_zero _), Below.refl _ _⟩
  case round =>
    obtain ⟨k, hk, rfl, hp, hB⟩ := hrel
    have HP := Lib.hid hp
    clear hp
    by_cases hlt : k < l.length
    · obtain ⟨c0, c1, c2, c3⟩ := HC.out k hlt
      have hgl := (hg (by omega)).2
      have c0 := (hB.cell (p := ⟨g, k * 4, none⟩) hgl).trans c0
      have c1 := (hB.cell (p := ⟨g, k * 4 + 1, none⟩) hgl).trans c1
      have c2 := (hB.cell (p := ⟨g, k * 4 + 2, none⟩) hgl).trans c2
      have c3 := (hB.cell (p := ⟨g, k * 4 + 3, none⟩) hgl).trans c3
      obtain rfl := hA (by omega)
      generalize hs : l.getD k default = s at *
      have HS := Lib.hid hs
      clear hs hA hg
      cases hd : s.decl
      · have HD := Lib.hid hd
        clear hd
        go_wp2_with (go_at_call 41; refine (I_isDeclaration s _).mono ?_; rintro e w2 ⟨rfl, hb2⟩; rw [HD.out])
        go_roundw
        case rel => exact ⟨k + 1, by omega, by go_num, fun j hj => by
          rcases Nat.lt_succ_iff_lt_or_eq.1 hj with h | rfl
          · exact HP.out j h
          · rw [HS.out]; exact HD.out, bthen hB hb2⟩
        case measure => simp [intOf]; omega
      · have HD := Lib.hid hd
        clear hd
        go_wp2_with (go_at_call 41; refine (I_isDeclaration s _).mono ?_; rintro e w2 ⟨rfl, hb2⟩; rw [HD.out])
        go_ret
        exact ⟨k, by omega, HP.out, .inl ⟨hlt, by rw [HS.out]; exact HD.out, rfl⟩, bthen hB hb2⟩
    · obtain rfl : k = l.length := by omega
      go_wp2
      go_ret
      exact ⟨l.length, Nat.le_refl _, HP.out, .inr ⟨rfl, rfl⟩, hB⟩

theorem keepTo_none (l : List St) : ∀ i, i ≤ l.length → (∀ j, j < i → (l.getD j default).decl = false) → keepTo l i = l.take i
  | 0, _, _ => by simp [keepTo]
  | i + 1, h, hn => by
    rw [keepTo_yes l i (by omega) (hn i (by omega)), keepTo_none l i (by omega) (fun j hj => hn j (by omega)), List.take_succ_eq_append_getElem (by omega)]
    simp [List.getD, show i < l.length by omega]
theorem keepTo_all (l : List St) : keepTo l l.length = l.filter fun s => !s.decl := by unfold keepTo; rw [List.take_length]

set_option maxRecDepth 100000 in
set_option maxHeartbeats 1000000 in
theorem I_DeleteFunc (v : Value) (l : List St) (lo : Nat) (w : World) (hv : Stmts w lo v l) (hl : l.length ≤ 1000) :
    Calls Try.prog 40 #[v, .func (.func 41) #[] #[]] w fun e w' => ∃ v', e = .returned v' ∧ Stmts w' lo v' (l.filter fun s => !s.decl) ∧ w.grownBy w' v.ownBlock ∧ v'.ownBlock = v.ownBlock := by
  obtain ⟨A, C, g, rfl, hn, hc, hA, hg, hcell, _⟩ := hv.rd
  have HV := Lib.hid hv
  unfold maxLen at hc
  clear hv hcell
  go_enter Try.func40, Try.ntmps40
  go_wp2_with fail
  refine (I_IndexFunc _ l lo _ HV.out hl).mono ?_
  rintro e w1 ⟨i, hi, hno, hcase, hb1⟩
  have hv1 := HV.out.keep hb1
  have HV1 := Lib.hid hv1
  have HNO := Lib.hid hno
  have HB1 := Lib.hid hb1
  clear hv1 hno hb1
  rcases hcase with ⟨hlt, hd, rfl⟩ | ⟨rfl, rfl⟩
  · obtain rfl := hA (by omega)
    have hk0 : keepTo l i = l.take i := keepTo_none l i (by omega) HNO.out
    have hk1 : keepTo l (i + 1) = l.take i := by rw [keepTo_no l i hlt hd, hk0]
    have HK1 := Lib.hid hk1
    have hne : ((i : Int) == -1) = false := by simp
    have hgl := (hg (by omega)).2
    have hlog := (hg (by omega)).1
    clear hd hk0 hk1 hA hg
    go_wp2
    go_loopw [5, 6] (fun q r wr => ∃ (a b : Nat) (l' : List St), a < b ∧ b ≤ l.length ∧ q = .int .i64 a ∧ r = .int .i64 b ∧ l'.length = l.length ∧ Stmts wr lo (.slice (some ⟨g, 0, none⟩) l.length C) l' ∧ l'.take a = keepTo l b ∧ (∀ j, b ≤ j → j < l.length → l'.getD j default = l.getD j default) ∧ w1.grownBy wr (some g)) (fun _ r _ => l.length - (intOf r).toNat)
    case atStart => exact ⟨i, i + 1, l, by omega, by omega, rfl, by go_num, rfl, HV1.out, HK1.out.symm, fun _ _ _ => rfl, World.grownBy.refl _ _⟩
    case round =>
      obtain ⟨a, b, l', hab, hbl, rfl, rfl, hll, hown, htk, hrest, hgr⟩ := hrel
      have HOW := Lib.hid hown
      have HTK := Lib.hid htk
      have HLL := Lib.hid hll
      have HRE := Lib.hid hrest
      have hz := hgr.size
      clear htk hrest
      by_cases hlt2 : b < l.length
      · obtain ⟨A2, C2, g2, e2, hn2, hc2, hA2, hg2, hcell2, hf2⟩ := hown.rd
        have e3 := hA2 (by rw [HLL.out]; omega)
        subst e3
        simp only [Value.slice.injEq, Option.some.injEq, Addr.mk.injEq, and_true] at e2
        obtain ⟨rfl, hz9, rfl⟩ := e2
        clear hll hz9
        obtain ⟨c0, c1, c2, c3⟩ := hcell2 b (by rw [HLL.out]; omega)
        obtain ⟨d0, d1, d2, d3⟩ := hcell2 a (by rw [HLL.out]; omega)
        have hfz := hf2 (by rw [HLL.out]; omega)
        have hgl2 := (hg2 (by rw [HLL.out]; omega)).2
        rw [HRE.out b (Nat.le_refl _) hlt2] at c0 c1 c2 c3
        have ky := keepTo_yes l b hlt2
        have kn := keepTo_no l b hlt2
        obtain ⟨s, hs⟩ : ∃ s : St, s = l.getD b default := ⟨_, rfl⟩
        rw [← hs] at c0 c1 c2 c3 ky kn
        generalize l'.getD a default = u at *
        obtain ⟨sk, st, sa, sb⟩ := s
        obtain ⟨uk, ut, ua, ub⟩ := u
        simp only at c0 c1 c2 c3 d0 d1 d2 d3
        have ha1 : (a : Int) < (l.length : Int) := by omega
        have hb1 : (b : Int) < (l.length : Int) := by omega
        clear hs hcell2 hf2 hg2 hA2 hn2 hc2
        cases hd : (⟨sk, st, sa, sb⟩ : St).decl
        · have HK := Lib.hid (ky hd)
          have HD := Lib.hid hd
          clear ky kn hd
          go_wp2_with (go_at_call 41; refine (I_isDeclaration ⟨sk, st, sa, sb⟩ _).mono ?_; rintro e w2 ⟨rfl, hb2⟩; rw [HD.out]; have h2 := bthen al1 hb2; have d0 := cell_later h2 d0; have d1 := cell_later h2 d1; have d2 := cell_later h2 d2; have d3 := cell_later h2 d3; have v0 := boxAt4 hb2; obtain ⟨v0, v1, v2, v3⟩ := v0; have hz2 := hb2.size; have fz : ∀ j, w2.frozen? ⟨g, j, none⟩ = false := fun j => ((bcell h2).2 g j hgl2).trans (hfz j))
          go_roundw
          case rel =>
            have ho2 := HOW.out.keep h2
            obtain ⟨hs1, hs2⟩ := ho2.stored a (by rw [HLL.out]; omega) sk st sa sb
            refine ⟨a + 1, b + 1, l'.set a ⟨sk, st, sa, sb⟩, by omega, by omega, by go_num, by go_num, by rw [List.length_set]; exact HLL.out, hs1, ?_, fun j h1 h2' => ?_, (hgr.trans (grown_of_below h2 _)).trans hs2⟩
            · rw [HK.out, ← HTK.out, List.take_succ_eq_append_getElem (by rw [List.length_set, HLL.out]; omega), List.take_set_of_le (Nat.le_refl _)]
              simp
            · rw [getD_set_ne _ _ _ _ _ (by omega)]
              exact HRE.out j (by omega) h2'
          case measure => simp [intOf]; omega
        · have HK := Lib.hid (kn hd)
          have HD := Lib.hid hd
          clear ky kn hd
          go_wp2_with (go_at_call 41; refine (I_isDeclaration ⟨sk, st, sa, sb⟩ _).mono ?_; rintro e w2 ⟨rfl, hb2⟩; rw [HD.out]; have h2 := bthen al1 hb2)
          go_roundw
          case rel => exact ⟨a, b + 1, l', by omega, by omega, rfl, by go_num, HLL.out, HOW.out.keep h2, by rw [HK.out]; exact HTK.out, fun j h1 h2' => HRE.out j (by omega) h2', hgr.trans (grown_of_below h2 _)⟩
          case measure => simp [intOf]; omega
      · obtain rfl : b = l.length := by omega
        have hac : a < C := by omega
        clear hll
        obtain ⟨w9, hclr, h9, hg9⟩ := run_clear_stmts wr lo g C l.length a (l.length - a) (C - a) _ l' HOW.out (by rw [HLL.out]; omega) rfl
        have H9 := Lib.hid h9
        have HG9 := Lib.hid hg9
        clear h9 hg9
        go_wp2
        go_ret
        refine ⟨_, rfl, ?_, ((grown_of_below HB1.out (some g)).trans hgr).trans HG9.out, rfl⟩
        have h9 := H9.out
        rw [HTK.out, keepTo_all] at h9
        refine (congrArg (fun n => Stmts w9 lo (.slice (some ⟨g, 0, none⟩) n C) _) ?_).mp h9
        rfl
  · go_wp2
    go_ret
    refine ⟨_, rfl, ?_, grown_of_below HB1.out _, rfl⟩
    rw [← keepTo_all, keepTo_none l _ (Nat.le_refl _) HNO.out, List.take_length]
    exact HV1.out

end Go.Proofs.Ytiemhadpepbcjaa

namespace Go.Proofs.Ytiemhadpepbcjaa
open Go.RowKit
set_option linter.unusedVariables false

def cpTo (p : Pr) (k : Nat) : Pr := p.take k ++ List.replicate (p.length - k) default
theorem cpTo_len (p : Pr) (k : Nat) (h : k ≤ p.length) : (cpTo p k).length = p.length := by
  unfold cpTo
  rw [List.length_append, List.length_take, List.length_replicate]
  omega
theorem cpTo_zero (p : Pr) : cpTo p 0 = List.replicate p.length default := by simp [cpTo]
theorem cpTo_all (p : Pr) : cpTo p p.length = p := by simp [cpTo]
theorem cpTo_succ (p : Pr) (k : Nat) (h : k < p.length) : (cpTo p k).set k (p.getD k default) = cpTo p (k + 1) := by
  have e : (p.take k).length = k := by rw [List.length_take]; omega
  unfold cpTo
  rw [List.set_append, if_neg (by omega), e, Nat.sub_self, show p.length - k = (p.length - (k + 1)) + 1 by omega, List.replicate_succ, List.set_cons_zero, List.take_succ_eq_append_getElem h, List.append_assoc]
  simp [List.getD, h]
theorem below_of_none {w w' : World} (h : w.grownBy w' none) : Below w.heap.size w w' := ⟨h.os, h.tape, h.output, h.size, fun k hk => h.block k hk (by simp)⟩
theorem range_getD (f : Nat → Value) (m j : Nat) (h : j < m) : ((List.range m).map f).getD j undef = f j := by simp [List.getD, h]
/-- Zero blocks, made at once. -/
theorem PRowX.made (w : World) (lo n : Nat) (hl : lo ≤ w.heap.size) (hn : n ≤ 1000) :
    ∃ xs, PRow (w.alloc (.cells (madeCells #[.int .i64 0, .int .i64 0, .slice none 0 0, .slice none 0 0] (n * 4)) 56)) lo (.slice (some ⟨w.heap.size, 0, none⟩) n n) xs (List.replicate n default) ∧ ApartP xs n := by
  have h := rowIs_madeN w #[.int .i64 0, .int .i64 0, .slice none 0 0, .slice none 0 0] (n * 4) 56
  have h1 := own_of_row (size := 4) h hl (by unfold maxLen; omega)
  have g0 : ∀ i, i < n → ((List.range (n * 4)).map (fun j => (#[.int .i64 0, .int .i64 0, .slice none 0 0, .slice none 0 0] : Array Value)[j % (#[.int .i64 0, .int .i64 0, .slice none 0 0, .slice none 0 0] : Array Value).size]!)).getD (i * 4) undef = .int .i64 0 := fun i hi => by rw [range_getD _ _ _ (by omega)]; simp
  have g1 : ∀ i, i < n → ((List.range (n * 4)).map (fun j => (#[.int .i64 0, .int .i64 0, .slice none 0 0, .slice none 0 0] : Array Value)[j % (#[.int .i64 0, .int .i64 0, .slice none 0 0, .slice none 0 0] : Array Value).size]!)).getD (i * 4 + 1) undef = .int .i64 0 := fun i hi => by rw [range_getD _ _ _ (by omega)]; simp [Nat.add_mod]
  have g2 : ∀ i, i < n → ((List.range (n * 4)).map (fun j => (#[.int .i64 0, .int .i64 0, .slice none 0 0, .slice none 0 0] : Array Value)[j % (#[.int .i64 0, .int .i64 0, .slice none 0 0, .slice none 0 0] : Array Value).size]!)).getD (i * 4 + 2) undef = .slice none 0 0 := fun i hi => by rw [range_getD _ _ _ (by omega)]; simp [Nat.add_mod]
  have g3 : ∀ i, i < n → ((List.range (n * 4)).map (fun j => (#[.int .i64 0, .int .i64 0, .slice none 0 0, .slice none 0 0] : Array Value)[j % (#[.int .i64 0, .int .i64 0, .slice none 0 0, .slice none 0 0] : Array Value).size]!)).getD (i * 4 + 3) undef = .slice none 0 0 := fun i hi => by rw [range_getD _ _ _ (by omega)]; simp [Nat.add_mod]
  have gd : ∀ i, i < n → (List.replicate n (default : Bk)).getD i default = ⟨0, 0, [], []⟩ := fun i hi => by simp [List.getD, hi]; rfl
  generalize (List.range (n * 4)).map (fun j => (#[.int .i64 0, .int .i64 0, .slice none 0 0, .slice none 0 0] : Array Value)[j % (#[.int .i64 0, .int .i64 0, .slice none 0 0, .slice none 0 0] : Array Value).size]!) = xs at *
  have ap : ∀ V, Apart (.slice none 0 0) V := fun V r hr => by simp [Value.ownBlock] at hr
  refine ⟨xs, ⟨by rw [List.length_replicate]; exact h1, fun i hi => ?_, fun i hi => ?_, fun i hi _ => ?_, fun i j hi hj _ _ hij => ?_⟩, fun i j hi hj hij => ?_⟩
  · rw [List.length_replicate] at hi
    rw [g0 i hi, g1 i hi, gd i hi]
    exact ⟨rfl, rfl⟩
  · rw [List.length_replicate] at hi
    rw [g2 i hi, gd i hi]
    exact Ints.nil _ _
  · rw [List.length_replicate] at hi
    rw [g3 i hi, gd i hi]
    exact Stmts.nil _ _
  · rw [List.length_replicate] at hi
    rw [g3 i hi]
    exact ap _
  · rw [g2 i hi]
    exact ap _
section
variable {w : World} {lo k g n C : Nat} {xs : List Value} {p : Pr}
/-- A whole block is stored. -/
theorem PRowX.setBlock {a b : Int} {pv bv : Value} {ps : List Int} {bd : List St} (h : PRow w lo (.slice (some ⟨g, 0, none⟩) n C) xs p) (hap : ApartP xs p.length) (hk : k < p.length) (hp : Ints w lo pv ps) (hb : Stmts w lo bv bd)
    (hpa : ∀ i, i < p.length → i ≠ k → Apart (xs.getD (i * 4 + 2) undef) pv) (hba : ∀ i, i < p.length → i ≠ k → Apart (xs.getD (i * 4 + 3) undef) bv) :
    ∃ xs', PRow ((((w.setCell ⟨g, k * 4, none⟩ (.int .i64 a)).setCell ⟨g, k * 4 + 1, none⟩ (.int .i64 b)).setCell ⟨g, k * 4 + 2, none⟩ pv).setCell ⟨g, k * 4 + 3, none⟩ bv) lo (.slice (some ⟨g, 0, none⟩) n C) xs' (p.set k ⟨a, b, ps, bd⟩) ∧ ApartP xs' p.length := by
  have kI : ∀ (W : World) (ys : List Value) (q : Pr) (j : Nat) (u : Value), PRow W lo (.slice (some ⟨g, 0, none⟩) n C) ys q → Ints W lo pv ps → Ints (W.setCell ⟨g, j, none⟩ u) lo pv ps := fun W ys q j u hr hV => by
    obtain ⟨_, _, _, e, _⟩ := own_rd hr.own
    simp only [Value.slice.injEq] at e
    obtain ⟨_, rfl, _⟩ := e
    exact Ints.kept hV (World.ownsRow.stored hr.own j u).2 (by have := own_types hV hr.own (by decide); simpa [Value.ownBlock] using this)
  have kS : ∀ (W : World) (ys : List Value) (q : Pr) (j : Nat) (u : Value), PRow W lo (.slice (some ⟨g, 0, none⟩) n C) ys q → Stmts W lo bv bd → Stmts (W.setCell ⟨g, j, none⟩ u) lo bv bd := fun W ys q j u hr hV => by
    obtain ⟨_, _, _, e, _⟩ := own_rd hr.own
    simp only [Value.slice.injEq] at e
    obtain ⟨_, rfl, _⟩ := e
    exact Stmts.kept hV (World.ownsRow.stored hr.own j u).2 (by have := own_types hV hr.own (by decide); simpa [Value.ownBlock] using this)
  have h1 := PRowX.setKind (x := a) h hk
  have h2 := PRowX.setParent (x := b) h1 (by rw [List.length_set]; exact hk)
  have h3 := PRowX.setParams h2 (by rw [List.length_set, List.length_set]; exact hk) (kI _ _ _ _ _ h1 (kI _ _ _ _ _ h hp))
  have hl := h.own.1
  have h4 := PRowX.setBody (PRowX.part h3 k) (by rw [List.length_set, List.length_set, List.length_set]; exact hk) (kS _ _ _ _ _ h2 (kS _ _ _ _ _ h1 (kS _ _ _ _ _ h hb))) (fun i hi hik => by
    rw [List.length_set, List.length_set, List.length_set] at hi
    rw [getD_set_ne _ _ _ _ _ (by omega), getD_set_ne _ _ _ _ _ (by omega), getD_set_ne _ _ _ _ _ (by omega)]
    exact hba i hi hik)
  rw [set4_eq p k hk] at h4
  have gk : ((((xs.set (k * 4) (.int .i64 a)).set (k * 4 + 1) (.int .i64 b)).set (k * 4 + 2) pv).set (k * 4 + 3) bv).getD (k * 4 + 2) undef = pv := by
    rw [getD_set_ne _ _ _ _ _ (by omega), getD_set_eq _ _ _ _ (by rw [List.length_set, List.length_set]; omega)]
  have ge : ∀ i, i ≠ k → ((((xs.set (k * 4) (.int .i64 a)).set (k * 4 + 1) (.int .i64 b)).set (k * 4 + 2) pv).set (k * 4 + 3) bv).getD (i * 4 + 2) undef = xs.getD (i * 4 + 2) undef := fun i hi => by
    rw [getD_set_ne _ _ _ _ _ (by omega), getD_set_ne _ _ _ _ _ (by omega), getD_set_ne _ _ _ _ _ (by omega), getD_set_ne _ _ _ _ _ (by omega)]
  refine ⟨_, h4, fun i j hi hj hij => ?_⟩
  by_cases e : i = k
  · subst e
    rw [gk, ge j (by omega)]
    exact fun r hr hr' => hpa j hj (by omega) r hr' hr
  · rw [ge i e]
    by_cases e' : j = k
    · subst e'
      rw [gk]
      exact hpa i hi e
    · rw [ge j e']
      exact hap i j hi hj hij
end

set_option maxRecDepth 100000 in
set_option maxHeartbeats 2000000 in
theorem I_copyOf (sl : Value) (p : Pr) (lo : Nat) (w : World) (hv : Blks w lo sl p) (hl : p.length ≤ 1000) (hbl : ∀ b, b < p.length → (p.getD b default).body.length ≤ 1000 ∧ (p.getD b default).params.length ≤ 1000) :
    Calls Try.prog 39 #[.agg #[sl]] w fun e w' => ∃ sl' xs, e = .returned (.agg #[sl']) ∧ PRow w' w.heap.size sl' xs p ∧ ApartP xs p.length ∧ Below w.heap.size w w' := by
  obtain ⟨A, C, g, rfl, hn, hc, hA, hg, hcell, hf⟩ := hv.rd
  have HV := Lib.hid hv
  have HCELL := Lib.hid hcell
  have HBL := Lib.hid hbl
  unfold maxLen at hc
  obtain ⟨i0, hi, hz0, hz1, hz2⟩ := info_parts Try.info56
  have hmk := fun w => run_make_rowN (P := Try.prog) 23 56 i0 _ Try.underlying23 hi hz0 p.length (by rw [hz2]; omega) (by omega) w
  rw [hz1] at hmk
  clear hv hcell hf hbl
  go_enter Try.func39, Try.ntmps39
  go_wp2
  clear hmk
  obtain ⟨W0, hW0⟩ : ∃ W0 : World, W0 = (((w.alloc (.cells #[.slice A p.length C] 25)).alloc (.cells #[.slice none 0 0] 25)).alloc (.cells (madeCells #[.int .i64 0, .int .i64 0, .slice none 0 0, .slice none 0 0] (p.length * 4)) 56)).alloc (.cells #[.slice (some ⟨w.heap.size + 2, 0, none⟩) p.length p.length] 25) := ⟨_, rfl⟩
  have hb0 : Below w.heap.size w W0 := by rw [hW0]; exact al4
  have z0 : W0.heap.size = w.heap.size + 4 := by rw [hW0]; simp
  have c0 : W0.cell? ⟨w.heap.size, 0, none⟩ = some (.slice A p.length C) := by rw [hW0]; simp [go_sem]
  have q0 : W0.cell? ⟨w.heap.size + 1, 0, none⟩ = some (.slice none 0 0) := by rw [hW0]; simp [go_sem]
  have u0 : W0.frozen? ⟨w.heap.size + 1, 0, none⟩ = false := by rw [hW0]; simp [go_sem]
  have t0 : W0.cell? ⟨w.heap.size + 3, 0, none⟩ = some (.slice (some ⟨w.heap.size + 2, 0, none⟩) p.length p.length) := by rw [hW0]; simp [go_sem]
  have hrow0 : ∃ xs, PRow W0 (w.heap.size + 2) (.slice (some ⟨w.heap.size + 2, 0, none⟩) p.length p.length) xs (List.replicate p.length default) ∧ ApartP xs p.length := by
    obtain ⟨xs, h1, h2⟩ := PRowX.made ((w.alloc (.cells #[.slice A p.length C] 25)).alloc (.cells #[.slice none 0 0] 25)) (w.heap.size + 2) p.length (by simp) hl
    refine ⟨xs, ?_, h2⟩
    rw [hW0]
    have h3 := PRowX.keep h1 (al1 (o := .cells #[.slice (some ⟨w.heap.size + 2, 0, none⟩) p.length p.length] 25))
    simp only [World.size_alloc] at h3
    exact h3
  rw [← hW0]
  obtain ⟨xs0, hr0, ha0⟩ := hrow0
  have hz : w.heap.size + 4 ≤ W0.heap.size := by omega
  have HR0 := Lib.hid hr0
  have HA0 := Lib.hid ha0
  have HB0 := Lib.hid hb0
  clear hb0 hW0 z0 hr0 ha0
  go_loopw [14] (fun i wr => ∃ (k : Nat) (xs : List Value), k ≤ p.length ∧ i = .int .i64 k ∧ PRow wr (w.heap.size + 2) (.slice (some ⟨w.heap.size + 2, 0, none⟩) p.length p.length) xs (cpTo p k) ∧ ApartP xs p.length ∧ wr.cell? ⟨w.heap.size + 3, 0, none⟩ = some (.slice (some ⟨w.heap.size + 2, 0, none⟩) p.length p.length) ∧ Below (w.heap.size + 2) W0 wr) (fun i _ => p.length - (intOf i).toNat)
  case atStart => exact ⟨0, xs0, Nat.zero_le _, rfl, by rw [cpTo_zero]; exact HR0.out, HA0.out, t0, Below.refl _ _⟩
  case round =>
    clear t0
    obtain ⟨k, xs, hk, rfl, hrow, hap, ht, hB⟩ := hrel
    by_cases hlt : k < p.length
    · obtain ⟨pv0, bv0, d0, d1, d2, d3, hp, hb⟩ := HCELL.out k hlt
      obtain ⟨hgl, hgw⟩ := hg (by omega)
      have hzr := hB.size
      have hBw : Below w.heap.size w wr := HB0.out.trans (hB.mono (by omega))
      have e0 := (hBw.cell (p := ⟨g, k * 4, none⟩) hgw).trans d0
      have e1 := (hBw.cell (p := ⟨g, k * 4 + 1, none⟩) hgw).trans d1
      have e2 := (hBw.cell (p := ⟨g, k * 4 + 2, none⟩) hgw).trans d2
      have e3 := (hBw.cell (p := ⟨g, k * 4 + 3, none⟩) hgw).trans d3
      have hp2 := hp.keep hBw
      have hb2 := hb.keep hBw
      obtain ⟨hbl1, hbl2⟩ := HBL.out k hlt
      obtain rfl := hA (by omega)
      obtain ⟨A2, C2, rfl⟩ := hp2.form
      obtain ⟨A3, C3, rfl⟩ := hb2.form
      have hcs := cpTo_succ p k hlt
      obtain ⟨K, hK⟩ : ∃ K : Bk, K = p.getD k default := ⟨_, rfl⟩
      rw [← hK] at e0 e1 e2 e3 hp2 hb2 hbl1 hbl2 hcs
      obtain ⟨kind, parent, ps, body⟩ := K
      simp only at e0 e1 e2 e3 hp2 hb2 hbl1 hbl2
      have HCS := Lib.hid hcs
      have hi : (k : Int) < (p.length : Int) := by omega
      have hi0 : (0 : Int) ≤ (k : Int) := by omega
      have hpa : ∀ (U : Value), (∀ r, U.ownBlock = some r → wr.heap.size ≤ r) → ∀ i, i < (cpTo p k).length → Apart (xs.getD (i * 4 + 2) undef) U := fun U hU i hi r h1 h2 => by
        have := own_block_lt (hrow.pars i hi) r h1
        have := hU r h2
        omega
      have hba : ∀ (U : Value), (∀ r, U.ownBlock = some r → wr.heap.size ≤ r) → ∀ i, i < (cpTo p k).length → Apart (xs.getD (i * 4 + 3) undef) U := fun U hU i hi r h1 h2 => by
        have := own_block_lt (PRowX.full hrow hi) r h1
        have := hU r h2
        omega
      have HPA := Lib.hid hpa
      have HBA := Lib.hid hba
      have HROW := Lib.hid hrow
      have HAP := Lib.hid hap
      have HP2 := Lib.hid hp2
      have HB2 := Lib.hid hb2
      clear d0 d1 d2 d3 hp hb hK hcs hA hg hrow hap hpa hba hp2 hb2
      go_wp2
      obtain ⟨W1, hW1⟩ : ∃ W1 : World, W1 = (wr.alloc (.cells #[.int .i64 kind, .int .i64 parent, .slice A2 ps.length C2, .slice A3 body.length C3] 56)).drew := ⟨_, rfl⟩
      have hb1 : Below wr.heap.size wr W1 := by rw [hW1]; exact al1.drew
      have z1 : wr.heap.size < W1.heap.size := by rw [hW1]; show _ < (wr.alloc _).heap.size; simp
      have k0 : W1.cell? ⟨wr.heap.size, 0, none⟩ = some (.int .i64 kind) := by rw [hW1]; simp [go_sem]
      have k1 : W1.cell? ⟨wr.heap.size, 1, none⟩ = some (.int .i64 parent) := by rw [hW1]; simp [go_sem]
      have k2 : W1.cell? ⟨wr.heap.size, 2, none⟩ = some (.slice A2 ps.length C2) := by rw [hW1]; simp [go_sem]
      have k3 : W1.cell? ⟨wr.heap.size, 3, none⟩ = some (.slice A3 body.length C3) := by rw [hW1]; simp [go_sem]
      have k4 : W1.cell? ⟨w.heap.size + 3, 0, none⟩ = some (.slice (some ⟨w.heap.size + 2, 0, none⟩) p.length p.length) := cell_later hb1 ht
      have hS := And.intro k0 (And.intro k1 (And.intro k2 (And.intro k3 k4)))
      refine wp_region_T 15 (by kernel_rfl) (fun w' => w'.cell? ⟨wr.heap.size, 0, none⟩ = some (.int .i64 kind) ∧ w'.cell? ⟨wr.heap.size, 1, none⟩ = some (.int .i64 parent) ∧ w'.cell? ⟨wr.heap.size, 2, none⟩ = some (.slice A2 ps.length C2) ∧ w'.cell? ⟨wr.heap.size, 3, none⟩ = some (.slice A3 body.length C3) ∧ w'.cell? ⟨w.heap.size + 3, 0, none⟩ = some (.slice (some ⟨w.heap.size + 2, 0, none⟩) p.length p.length)) ?_
      rw [← hW1]
      clear hW1 ht e0 e1 e2 e3
      refine wpAnyT_take (i := 0) (oi := ⟨_, _, _, _, _, _⟩) (v := ?vr1_0) (by kernel_rfl) (by decide) rfl (by kernel_rfl) (by kernel_rfl) (by kernel_rfl) (fun _ _ _ h => h) (Or.inl ⟨by rfl, ?hyr1_0⟩) hS ?restr1_0
      case hyr1_0 =>
        intro w' hSw
        obtain ⟨s0, s1, s2, s3, s4⟩ := hSw
        go_simp
        try with_reducible rfl
      try simp only [Act.put, List.setIfInBounds_toArray, List.set_cons_zero, List.set_cons_succ]
      refine wpAnyT_take (i := 1) (oi := ⟨_, _, _, _, _, _⟩) (v := ?vr1_1) (by kernel_rfl) (by decide) rfl (by kernel_rfl) (by kernel_rfl) (by kernel_rfl) (fun _ _ _ h => h) (Or.inl ⟨by rfl, ?hyr1_1⟩) hS ?restr1_1
      case hyr1_1 =>
        intro w' hSw
        obtain ⟨s0, s1, s2, s3, s4⟩ := hSw
        go_simp
        try with_reducible rfl
      try simp only [Act.put, List.setIfInBounds_toArray, List.set_cons_zero, List.set_cons_succ]
      refine wpAnyT_take (i := 2) (oi := ⟨_, _, _, _, _, _⟩) (v := ?vr1_2) (by kernel_rfl) (by decide) rfl (by kernel_rfl) (by kernel_rfl) (by kernel_rfl) (fun _ _ _ h => h) (Or.inl ⟨by rfl, ?hyr1_2⟩) hS ?restr1_2
      case hyr1_2 =>
        intro w' hSw
        obtain ⟨s0, s1, s2, s3, s4⟩ := hSw
        go_simp
        try with_reducible rfl
      try simp only [Act.put, List.setIfInBounds_toArray, List.set_cons_zero, List.set_cons_succ]
      refine wpAnyT_take (i := 3) (oi := ⟨_, _, _, _, _, _⟩) (v := ?vr1_3) (by kernel_rfl) (by decide) rfl (by kernel_rfl) (by kernel_rfl) (by kernel_rfl) (fun _ _ _ h => h) (Or.inl ⟨by rfl, ?hyr1_3⟩) hS ?restr1_3
      case hyr1_3 =>
        intro w' hSw
        obtain ⟨s0, s1, s2, s3, s4⟩ := hSw
        go_simp
        try with_reducible rfl
      try simp only [Act.put, List.setIfInBounds_toArray, List.set_cons_zero, List.set_cons_succ]
      refine wpAnyT_take (i := 4) (oi := ⟨_, _, _, _, _, _⟩) (v := ?vr1_4) (by kernel_rfl) (by decide) rfl (by kernel_rfl) (by kernel_rfl) (by kernel_rfl) (fun _ _ _ h => h) (Or.inl ⟨by rfl, ?hyr1_4⟩) hS ?restr1_4
      case hyr1_4 =>
        intro w' hSw
        obtain ⟨s0, s1, s2, s3, s4⟩ := hSw
        go_simp
        try with_reducible rfl
      try simp only [Act.put, List.setIfInBounds_toArray, List.set_cons_zero, List.set_cons_succ]
      refine wpAnyT_take (i := 5) (oi := ⟨_, _, _, _, _, _⟩) (v := ?vr1_5) (by kernel_rfl) (by decide) rfl (by kernel_rfl) (by kernel_rfl) (by kernel_rfl) (fun _ _ _ h => h) (Or.inl ⟨by rfl, ?hyr1_5⟩) hS ?restr1_5
      case hyr1_5 =>
        intro w' hSw
        obtain ⟨s0, s1, s2, s3, s4⟩ := hSw
        go_simp
        try with_reducible rfl
      try simp only [Act.put, List.setIfInBounds_toArray, List.set_cons_zero, List.set_cons_succ]
      refine wpAnyT_take (i := 6) (oi := ⟨_, _, _, _, _, _⟩) (v := ?vr1_6) (by kernel_rfl) (by decide) rfl (by kernel_rfl) (by kernel_rfl) (by kernel_rfl) (fun _ _ _ h => h) (Or.inl ⟨by rfl, ?hyr1_6⟩) hS ?restr1_6
      case hyr1_6 =>
        intro w' hSw
        obtain ⟨s0, s1, s2, s3, s4⟩ := hSw
        go_simp
        try with_reducible rfl
      try simp only [Act.put, List.setIfInBounds_toArray, List.set_cons_zero, List.set_cons_succ]
      refine wpAnyT_take (i := 7) (oi := ⟨_, _, _, _, _, _⟩) (v := ?vr1_7) (by kernel_rfl) (by decide) rfl (by kernel_rfl) (by kernel_rfl) (by kernel_rfl) (fun _ _ _ h => h) (Or.inl ⟨by rfl, ?hyr1_7⟩) hS ?restr1_7
      case hyr1_7 =>
        intro w' hSw
        obtain ⟨s0, s1, s2, s3, s4⟩ := hSw
        go_simp
        try with_reducible rfl
      try simp only [Act.put, List.setIfInBounds_toArray, List.set_cons_zero, List.set_cons_succ]
      refine wpAnyT_take (i := 8) (oi := ⟨_, _, _, _, _, _⟩) (v := ?vr1_8) (by kernel_rfl) (by decide) rfl (by kernel_rfl) (by kernel_rfl) (by kernel_rfl) (fun _ _ _ h => h) (Or.inl ⟨by rfl, ?hyr1_8⟩) hS ?restr1_8
      case hyr1_8 =>
        intro w' hSw
        obtain ⟨s0, s1, s2, s3, s4⟩ := hSw
        go_simp
        try with_reducible rfl
      try simp only [Act.put, List.setIfInBounds_toArray, List.set_cons_zero, List.set_cons_succ]
      refine wpAnyT_take (i := 10) (oi := ⟨_, _, _, _, _, _⟩) (v := ?vr1_10) (by kernel_rfl) (by decide) rfl (by kernel_rfl) (by kernel_rfl) (by kernel_rfl) (fun _ _ _ h => h) (Or.inl ⟨by rfl, ?hyr1_10⟩) hS ?restr1_10
      case hyr1_10 =>
        intro w' hSw
        obtain ⟨s0, s1, s2, s3, s4⟩ := hSw
        go_simp
        try with_reducible rfl
      try simp only [Act.put, List.setIfInBounds_toArray, List.set_cons_zero, List.set_cons_succ]
      refine wpAnyT_take (i := 11) (oi := ⟨_, _, _, _, _, _⟩) (v := ?vr1_11) (by kernel_rfl) (by decide) rfl (by kernel_rfl) (by kernel_rfl) (by kernel_rfl) (fun _ _ _ h => h) (Or.inl ⟨by rfl, ?hyr1_11⟩) hS ?restr1_11
      case hyr1_11 =>
        intro w' hSw
        obtain ⟨s0, s1, s2, s3, s4⟩ := hSw
        go_simp
        try with_reducible rfl
      try simp only [Act.put, List.setIfInBounds_toArray, List.set_cons_zero, List.set_cons_succ]
      refine wpAnyT_ready1 (i := 9) (o := ⟨_, _, _, _, _, _⟩) (by kernel_rfl) rfl (fun KC_ hK => ?_)
      refine step_append_ints rfl _ _ rfl (.slice none 0 0) (.slice A2 ps.length C2) [] ps W1.heap.size _ rfl rfl (Ints.nil _ _) (HP2.out.keep hb1) (by simp; omega) (Nat.le_refl _) ?_
      intro pv w3 hpo hg3 hb3 hf3
      rw [List.nil_append] at hpo
      have hx3 := below_of_none hg3
      clear hg3 hb3 hf3
      have k0 := cell_later hx3 k0
      have k1 := cell_later hx3 k1
      have k2 := cell_later hx3 k2
      have k3 := cell_later hx3 k3
      have k4 := cell_later hx3 k4
      have hS := And.intro k0 (And.intro k1 (And.intro k2 (And.intro k3 k4)))
      obtain ⟨A5, C5, rfl⟩ := hpo.form
      refine hK _ _ (fun _ => hS) ?_
      try simp only [Act.put, List.setIfInBounds_toArray, List.set_cons_zero, List.set_cons_succ]
      refine wpAnyT_ready1 (i := 12) (o := ⟨_, _, _, _, _, _⟩) (by kernel_rfl) rfl (fun KC_ hK => ?_)
      refine step_append_stmts rfl _ _ rfl (.slice none 0 0) (.slice A3 body.length C3) [] body W1.heap.size rfl rfl (Stmts.nil _ _) ((HB2.out.keep hb1).keep hx3).feed (by simp; omega) hx3.size ?_
      intro bv w4 hbo hg4 hb4 hf4
      rw [List.nil_append] at hbo
      have hx4 := below_of_none hg4
      clear hg4 hb4 hf4
      have k0 := cell_later hx4 k0
      have k1 := cell_later hx4 k1
      have k2 := cell_later hx4 k2
      have k3 := cell_later hx4 k3
      have k4 := cell_later hx4 k4
      have hS := And.intro k0 (And.intro k1 (And.intro k2 (And.intro k3 k4)))
      obtain ⟨A6, C6, rfl⟩ := hbo.form
      have hpo4 := hpo.keep hx4
      have hz4 : wr.heap.size < w4.heap.size := Nat.lt_of_lt_of_le (Nat.lt_of_lt_of_le z1 hx3.size) hx4.size
      have hBw4 := bthen (bthen hb1 hx3) hx4
      have HPO := Lib.hid hpo4
      have HBO := Lib.hid hbo
      have HB4 := Lib.hid hBw4
      have hr4 := PRowX.keep HROW.out hBw4
      have HR4 := Lib.hid hr4
      clear hpo hbo hpo4
      refine hK _ _ (fun _ => hS) ?_
      try simp only [Act.put, List.setIfInBounds_toArray, List.set_cons_zero, List.set_cons_succ]
      refine wpAnyT_take (i := 13) (oi := ⟨_, _, _, _, _, _⟩) (v := ?vr1_13) (by kernel_rfl) (by decide) rfl (by kernel_rfl) (by kernel_rfl) (by kernel_rfl) (fun _ _ _ h => h) (Or.inl ⟨by rfl, ?hyr1_13⟩) hS ?restr1_13
      case hyr1_13 =>
        intro w' hSw
        obtain ⟨s0, s1, s2, s3, s4⟩ := hSw
        go_simp
        try with_reducible rfl
      try simp only [Act.put, List.setIfInBounds_toArray, List.set_cons_zero, List.set_cons_succ]
      refine wpAnyT_take (i := 14) (oi := ⟨_, _, _, _, _, _⟩) (v := ?vr1_14) (by kernel_rfl) (by decide) rfl (by kernel_rfl) (by kernel_rfl) (by kernel_rfl) (fun _ _ _ h => h) (Or.inl ⟨by rfl, ?hyr1_14⟩) hS ?restr1_14
      case hyr1_14 =>
        intro w' hSw
        obtain ⟨s0, s1, s2, s3, s4⟩ := hSw
        go_simp
        try with_reducible rfl
      try simp only [Act.put, List.setIfInBounds_toArray, List.set_cons_zero, List.set_cons_succ]
      refine wpAnyT_ready1 (i := 15) (o := ⟨_, _, _, _, _, _⟩) (by kernel_rfl) rfl (fun KC_ hK => ?_)
      obtain ⟨g9, C9, e9, _, _, _, hgl9, hcell9, hf9⟩ := PRowX.rd hr4 (by rw [cpTo_len p k hk]; omega)
      simp only [Value.slice.injEq, Option.some.injEq, Addr.mk.injEq, and_true] at e9
      obtain ⟨rfl, hz9, rfl⟩ := e9
      clear hz9
      rw [cpTo_len p k hk] at hcell9
      have r0 := hcell9 (k * 4) (by omega)
      have r1 := hcell9 (k * 4 + 1) (by omega)
      have r2 := hcell9 (k * 4 + 2) (by omega)
      have r3 := hcell9 (k * 4 + 3) (by omega)
      have f0 := hf9 (k * 4)
      have f1 := hf9 (k * 4 + 1)
      have f2 := hf9 (k * 4 + 2)
      have f3 := hf9 (k * 4 + 3)
      clear hcell9 hf9 hr4
      go_simp
      refine hK _ _ (fun h => absurd h (by decide)) ?_
      try simp only [Act.put, List.setIfInBounds_toArray, List.set_cons_zero, List.set_cons_succ]
      refine wpAnyT_done (by kernel_rfl) ?_ _
      clear r0 r1 r2 r3 f0 f1 f2 f3 hS k0 k1 k2 k3
      go_wp2
      go_roundw
      case rel =>
        obtain ⟨xs', h1, h2⟩ := PRowX.setBlock (k := k) (a := kind) (b := parent) HR4.out (by rw [cpTo_len p k hk]; exact HAP.out) (by rw [cpTo_len p k hk]; exact hlt) (HPO.out.lo_ (by omega)) (HBO.out.lo_ (by omega)) (fun i hi _ => HPA.out _ (fun r hr => by have := own_block_ge HPO.out r hr; omega) i hi) (fun i hi _ => HBA.out _ (fun r hr => by have := own_block_ge HBO.out r hr; omega) i hi)
        rw [HCS.out] at h1
        rw [cpTo_len p k hk] at h2
        exact ⟨k + 1, xs', by omega, by go_num, h1, h2, by simp [go_sem, k4], (((((hB.trans (HB4.out.mono (by omega))).setCell (Nat.le_refl _) _).setCell (Nat.le_refl _) _).setCell (Nat.le_refl _) _).setCell (Nat.le_refl _) _)⟩
      case measure => simp [intOf]; omega
    · obtain rfl : k = p.length := by omega
      rw [cpTo_all] at hrow
      have q1 := (hB.cell (p := ⟨w.heap.size + 1, 0, none⟩) (by show w.heap.size + 1 < _; omega)).trans q0
      have u1 := ((bcell hB).2 (w.heap.size + 1) 0 (by omega)).trans u0
      have HROW := Lib.hid hrow
      have hzr := hB.size
      clear hrow q0 u0
      go_wp2
      exact bodyPost_ret (v := .agg #[.slice (some ⟨w.heap.size + 2, 0, none⟩) p.length p.length]) (by simp [results, Try.results39, go_sem, q1]) rfl
        ⟨_, xs, rfl, (PRowX.only HROW.out ((Only.refl (w.heap.size + 1) (w.heap.size + 2) wr).setCell (Nat.le_refl _) (Nat.lt_succ_self _) _) (Nat.le_refl _)).lo_ (by omega), hap, (HB0.out.trans (hB.mono (by omega))).setCell (by show w.heap.size ≤ w.heap.size + 1; omega) _⟩

def rBare (p : Pr) : Pr := if shape p then bareP p else []

set_option maxRecDepth 100000 in
set_option maxHeartbeats 2000000 in
theorem I_BareProgram (v : Value) (p : Pr) (lo : Nat) (w : World) (hv : Prog w lo v p) :
    Calls Try.prog 11 #[v] w fun e w' => ∃ sl' xs, e = .returned (.agg #[sl']) ∧ PRow w' w.heap.size sl' xs (rBare p) ∧ ApartP xs (rBare p).length ∧ Below w.heap.size w w' := by
  obtain ⟨sl, rfl, hv⟩ := hv
  have HV := Lib.hid hv
  obtain ⟨A, C, rfl⟩ := hv.form
  clear hv
  go_enter Try.func11, Try.ntmps11
  go_wp2_with fail
  have d0 : ∀ (w' : World), Below ((w.alloc (.cells #[.slice A p.length C] 25)).alloc (.cells #[.slice none 0 0] 25)).heap.size ((w.alloc (.cells #[.slice A p.length C] 25)).alloc (.cells #[.slice none 0 0] 25)) w' → w'.cell? ⟨w.heap.size, 0, none⟩ = some (.slice A p.length C) ∧ w'.cell? ⟨w.heap.size + 1, 0, none⟩ = some (.slice none 0 0) ∧ w'.frozen? ⟨w.heap.size + 1, 0, none⟩ = false ∧ w.heap.size + 2 ≤ w'.heap.size := fun w' hb => ⟨cell_later hb (by simp [go_sem]), cell_later hb (by simp [go_sem]), ((bcell hb).2 _ _ (by simp)).trans (by simp [go_sem]), by have := hb.size; simp only [World.size_alloc] at this; omega⟩
  have D0 := Lib.hid d0
  clear d0
  refine (I_ValidShape _ p lo _ ⟨_, rfl, HV.out.keep al2⟩).mono ?_
  rintro e w1 ⟨rfl, hb1⟩
  obtain ⟨c1, q1, u1, z1⟩ := D0.out _ hb1
  have hB1 := bthen (al2 (w := w)) hb1
  have HB1 := Lib.hid hB1
  clear hb1 hB1
  cases hs : shape p
  · have HS := Lib.hid hs
    clear hs
    go_wp2
    refine bodyPost_ret (v := .agg #[.slice none 0 0]) (by simp [results, Try.results11, go_sem, q1]) rfl ⟨_, [], rfl, ?_, ?_, HB1.out.setCell (by show w.heap.size ≤ w.heap.size + 1; omega) _⟩
    · unfold rBare
      rw [HS.out]
      exact PRowX.nil _ _
    · unfold rBare
      rw [HS.out]
      exact fun i j hi => absurd hi (Nat.not_lt_zero _)
  · have hl := shape_len hs
    have hbl : ∀ b, b < p.length → (p.getD b default).body.length ≤ 1000 ∧ (p.getD b default).params.length ≤ 1000 := fun b hb => by
      have h1 := shape_body hs b (by omega) (by omega)
      have h2 := (shape_params hs b (by omega) (by omega)).1
      rw [bk_nat] at h1 h2
      exact ⟨by omega, by omega⟩
    have hbo12 : ∀ b, b < p.length → (p.getD b default).body.length ≤ 1000 := fun b hb => (hbl b hb).1
    have HBL := Lib.hid hbl
    have HBO12 := Lib.hid hbo12
    have hrb : rBare p = bareP p := by unfold rBare; rw [hs]; rfl
    have HRB := Lib.hid hrb
    clear hs hbl hbo12 hrb
    go_wp2_with fail
    refine (I_copyOf _ p lo _ (HV.out.keep HB1.out) (by omega) HBL.out).mono ?_
    rintro e w2 ⟨sl2, xs2, rfl, hr2, ha2, hb2⟩
    obtain ⟨g, Cg, rfl, hnC, hC, hLg, hgw2, _, _⟩ := PRowX.rd hr2 (by omega)
    have hz2 := hb2.size
    have c2 := cell_later hb2 c1
    have q2 := cell_later hb2 q1
    have u2 := ((bcell hb2).2 (w.heap.size + 1) 0 (by omega)).trans u1
    have HB2 := Lib.hid (bthen HB1.out hb2)
    obtain ⟨L, hL⟩ : ∃ L : Nat, L = w1.heap.size := ⟨_, rfl⟩
    rw [← hL] at hr2 hLg
    have hL1 : w.heap.size + 2 ≤ L := by omega
    have hL2 : L ≤ w2.heap.size := by omega
    have hlt2 : ∀ i, i < p.length → ∀ r, (xs2.getD (i * 4 + 3) undef).ownBlock = some r → r < w2.heap.size := fun i hi r hr => own_block_lt (PRowX.full hr2 hi) r hr
    have HR2 := Lib.hid hr2
    have HA2 := Lib.hid ha2
    have HLT2 := Lib.hid hlt2
    clear c1 q1 u1 hb2 hL hr2 ha2 hlt2 z1 hz2
    go_wp2
    obtain ⟨W3, hW3⟩ : ∃ W3 : World, W3 = w2.alloc (.cells #[.slice (some ⟨g, 0, none⟩) p.length Cg] 25) := ⟨_, rfl⟩
    have hb3 : Below w2.heap.size w2 W3 := by rw [hW3]; exact al1
    have t3 : W3.cell? ⟨w2.heap.size, 0, none⟩ = some (.slice (some ⟨g, 0, none⟩) p.length Cg) := by rw [hW3]; simp [go_sem]
    have q3 := cell_later hb3 q2
    have u3 := ((bcell hb3).2 (w.heap.size + 1) 0 (by omega)).trans u2
    have hr3 := PRowX.keep HR2.out hb3
    have HB3 := Lib.hid hb3
    have HR3 := Lib.hid hr3
    rw [← hW3]
    clear hW3 hb3 hr3 c2 q2 u2
    go_loopw [14] (fun i wr => ∃ (k : Nat) (xs : List Value), k ≤ p.length ∧ i = .int .i64 k ∧ PRow wr L (.slice (some ⟨g, 0, none⟩) p.length Cg) xs (outTo p k) ∧ ApartP xs p.length ∧ (∀ i, i < p.length → ∀ r, (xs.getD (i * 4 + 3) undef).ownBlock = some r → r < w2.heap.size) ∧ wr.cell? ⟨w2.heap.size, 0, none⟩ = some (.slice (some ⟨g, 0, none⟩) p.length Cg) ∧ Below L W3 wr) (fun i _ => p.length - (intOf i).toNat)
    case atStart => exact ⟨0, xs2, Nat.zero_le _, rfl, by rw [outTo_zero]; exact HR3.out, HA2.out, HLT2.out, t3, Below.refl _ _⟩
    case round =>
      clear t3
      obtain ⟨k, xs, hk, rfl, hrow, hap, hlts, ht, hB⟩ := hrel
      have hzr := hB.size
      by_cases hlt : k < p.length
      · have hib := PRowX.full hrow (i := k) (by rw [outTo_len]; exact hlt)
        obtain ⟨g8, C8, e8, _, _, _, hgl8, hcell8, _⟩ := PRowX.rd hrow (by rw [outTo_len]; omega)
        simp only [Value.slice.injEq, Option.some.injEq, Addr.mk.injEq, and_true] at e8
        obtain ⟨rfl, hz8, rfl⟩ := e8
        clear hz8
        rw [outTo_len] at hcell8
        have k1 := hcell8 (k * 4 + 3) (by omega)
        have hso := outTo_succ p k hlt
        rw [outTo_at p k hlt] at hib
        have hbd := HBO12.out k hlt
        obtain ⟨body, hbody⟩ : ∃ body : List St, (p.getD k default).body = body := ⟨_, rfl⟩
        rw [hbody] at hib hso hbd
        rw [keepTo_all] at hso
        obtain ⟨A3, C3, hU⟩ := hib.form
        rw [hU] at k1 hib
        have hi : (k : Int) < (p.length : Int) := by omega
        have hi0 : (0 : Int) ≤ (k : Int) := by omega
        have hrd : PRow wr.drew L (.slice (some ⟨g, 0, none⟩) p.length Cg) xs (outTo p k) := PRowX.keep hrow (below0 wr).drew
        have hbd2 : Stmts wr.drew L (.slice A3 body.length C3) body := hib
        have HROW := Lib.hid hrow
        have HR2 := Lib.hid hrd
        have HB2' := Lib.hid hbd2
        have HLT := Lib.hid hlts
        have HAP := Lib.hid hap
        have HSO := Lib.hid hso
        have k0 := ht
        clear hcell8 hrow hrd hib hbd2 hlts hap hso hbody HB2
        have HB2 := HB2'
        clear HB2'
        have k0 : wr.drew.cell? ⟨w2.heap.size, 0, none⟩ = some (.slice (some ⟨g, 0, none⟩) p.length Cg) := k0
        have k1 : wr.drew.cell? ⟨g, k * 4 + 3, none⟩ = some (.slice A3 body.length C3) := k1
        have hS := And.intro k0 k1
        go_wp2
        refine wp_region_T 10 (by kernel_rfl) (fun w' => w'.cell? ⟨w2.heap.size, 0, none⟩ = some (.slice (some ⟨g, 0, none⟩) p.length Cg) ∧ w'.cell? ⟨g, k * 4 + 3, none⟩ = some (.slice A3 body.length C3)) ?_
        refine wpAnyT_take (i := 0) (oi := ⟨_, _, _, _, _, _⟩) (v := ?vr2_0) (by kernel_rfl) (by decide) rfl (by kernel_rfl) (by kernel_rfl) (by kernel_rfl) (fun _ _ _ h => h) (Or.inl ⟨by rfl, ?hyr2_0⟩) hS ?restr2_0
        case hyr2_0 =>
          intro w' hSw
          obtain ⟨s0, s1⟩ := hSw
          go_simp
          try with_reducible rfl
        try simp only [Act.put, List.setIfInBounds_toArray, List.set_cons_zero, List.set_cons_succ]
        refine wpAnyT_take (i := 1) (oi := ⟨_, _, _, _, _, _⟩) (v := ?vr2_1) (by kernel_rfl) (by decide) rfl (by kernel_rfl) (by kernel_rfl) (by kernel_rfl) (fun _ _ _ h => h) (Or.inl ⟨by rfl, ?hyr2_1⟩) hS ?restr2_1
        case hyr2_1 =>
          intro w' hSw
          obtain ⟨s0, s1⟩ := hSw
          go_simp
          try with_reducible rfl
        try simp only [Act.put, List.setIfInBounds_toArray, List.set_cons_zero, List.set_cons_succ]
        refine wpAnyT_take (i := 2) (oi := ⟨_, _, _, _, _, _⟩) (v := ?vr2_2) (by kernel_rfl) (by decide) rfl (by kernel_rfl) (by kernel_rfl) (by kernel_rfl) (fun _ _ _ h => h) (Or.inl ⟨by rfl, ?hyr2_2⟩) hS ?restr2_2
        case hyr2_2 =>
          intro w' hSw
          obtain ⟨s0, s1⟩ := hSw
          go_simp
          try with_reducible rfl
        try simp only [Act.put, List.setIfInBounds_toArray, List.set_cons_zero, List.set_cons_succ]
        refine wpAnyT_take (i := 3) (oi := ⟨_, _, _, _, _, _⟩) (v := ?vr2_3) (by kernel_rfl) (by decide) rfl (by kernel_rfl) (by kernel_rfl) (by kernel_rfl) (fun _ _ _ h => h) (Or.inl ⟨by rfl, ?hyr2_3⟩) hS ?restr2_3
        case hyr2_3 =>
          intro w' hSw
          obtain ⟨s0, s1⟩ := hSw
          go_simp
          try with_reducible rfl
        try simp only [Act.put, List.setIfInBounds_toArray, List.set_cons_zero, List.set_cons_succ]
        refine wpAnyT_take (i := 4) (oi := ⟨_, _, _, _, _, _⟩) (v := ?vr2_4) (by kernel_rfl) (by decide) rfl (by kernel_rfl) (by kernel_rfl) (by kernel_rfl) (fun _ _ _ h => h) (Or.inl ⟨by rfl, ?hyr2_4⟩) hS ?restr2_4
        case hyr2_4 =>
          intro w' hSw
          obtain ⟨s0, s1⟩ := hSw
          go_simp
          try with_reducible rfl
        try simp only [Act.put, List.setIfInBounds_toArray, List.set_cons_zero, List.set_cons_succ]
        refine wpAnyT_take (i := 5) (oi := ⟨_, _, _, _, _, _⟩) (v := ?vr2_5) (by kernel_rfl) (by decide) rfl (by kernel_rfl) (by kernel_rfl) (by kernel_rfl) (fun _ _ _ h => h) (Or.inl ⟨by rfl, ?hyr2_5⟩) hS ?restr2_5
        case hyr2_5 =>
          intro w' hSw
          obtain ⟨s0, s1⟩ := hSw
          go_simp
          try with_reducible rfl
        try simp only [Act.put, List.setIfInBounds_toArray, List.set_cons_zero, List.set_cons_succ]
        refine wpAnyT_take (i := 6) (oi := ⟨_, _, _, _, _, _⟩) (v := ?vr2_6) (by kernel_rfl) (by decide) rfl (by kernel_rfl) (by kernel_rfl) (by kernel_rfl) (fun _ _ _ h => h) (Or.inl ⟨by rfl, ?hyr2_6⟩) hS ?restr2_6
        case hyr2_6 =>
          intro w' hSw
          obtain ⟨s0, s1⟩ := hSw
          go_simp
          try with_reducible rfl
        try simp only [Act.put, List.setIfInBounds_toArray, List.set_cons_zero, List.set_cons_succ]
        refine wpAnyT_take (i := 7) (oi := ⟨_, _, _, _, _, _⟩) (v := ?vr2_7) (by kernel_rfl) (by decide) rfl (by kernel_rfl) (by kernel_rfl) (by kernel_rfl) (fun _ _ _ h => h) (Or.inl ⟨by rfl, ?hyr2_7⟩) hS ?restr2_7
        case hyr2_7 =>
          intro w' hSw
          obtain ⟨s0, s1⟩ := hSw
          go_simp
          try with_reducible rfl
        try simp only [Act.put, List.setIfInBounds_toArray, List.set_cons_zero, List.set_cons_succ]
        refine wpAnyT_take (i := 8) (oi := ⟨_, _, _, _, _, _⟩) (v := ?vr2_8) (by kernel_rfl) (by decide) rfl (by kernel_rfl) (by kernel_rfl) (by kernel_rfl) (fun _ _ _ h => h) (Or.inl ⟨by rfl, ?hyr2_8⟩) hS ?restr2_8
        case hyr2_8 =>
          intro w' hSw
          obtain ⟨s0, s1⟩ := hSw
          go_simp
          try with_reducible rfl
        try simp only [Act.put, List.setIfInBounds_toArray, List.set_cons_zero, List.set_cons_succ]
        refine wpAnyT_ready1 (i := 9) (o := ⟨_, _, _, _, _, _⟩) (by kernel_rfl) rfl (fun KC_ hK => ?_)
        go_simp
        go_at_call 40
        refine (I_DeleteFunc _ body L _ HB2.out (by omega)).mono ?_
        rintro e w4 ⟨bv, rfl, hbo, hg4, hob⟩
        have hlu := HLT.out k hlt
        rw [hU] at hlu
        have k0 := hg4.cell k0 (fun hc => Nat.lt_irrefl _ (hlu _ hc.symm))
        have hr4 := PRowX.grown (k := k) HR2.out (by rw [outTo_len]; exact hlt) (by rw [hU]; exact hg4)
        obtain ⟨A6, C6, rfl⟩ := hbo.form
        obtain ⟨g9, C9, e9, _, _, _, hgl9, hcell9, hf9⟩ := PRowX.rd hr4 (by rw [outTo_len]; omega)
        simp only [Value.slice.injEq, Option.some.injEq, Addr.mk.injEq, and_true] at e9
        obtain ⟨rfl, hz9, rfl⟩ := e9
        clear hz9
        rw [outTo_len] at hcell9
        have k1 := hcell9 (k * 4 + 3) (by omega)
        rw [hU] at k1
        have f3 := hf9 (k * 4 + 3)
        have hS := And.intro k0 k1
        have HBO := Lib.hid hbo
        have HG4 := Lib.hid hg4
        have HOB := Lib.hid hob
        have HR4 := Lib.hid hr4
        have k0' := k0
        clear hcell9 hf9 hbo hg4 hob hr4 hlu
        refine hK _ _ (fun _ => hS) ?_
        try simp only [Act.put, List.setIfInBounds_toArray, List.set_cons_zero, List.set_cons_succ]
        refine wpAnyT_ready1 (i := 10) (o := ⟨_, _, _, _, _, _⟩) (by kernel_rfl) rfl (fun KC_ hK => ?_)
        go_simp
        refine hK _ _ (fun h => absurd h (by decide)) ?_
        try simp only [Act.put, List.setIfInBounds_toArray, List.set_cons_zero, List.set_cons_succ]
        refine wpAnyT_ready1 (i := 11) (o := ⟨_, _, _, _, _, _⟩) (by kernel_rfl) rfl (fun KC_ hK => ?_)
        go_simp
        refine hK _ _ (fun h => absurd h (by decide)) ?_
        try simp only [Act.put, List.setIfInBounds_toArray, List.set_cons_zero, List.set_cons_succ]
        refine wpAnyT_ready1 (i := 12) (o := ⟨_, _, _, _, _, _⟩) (by kernel_rfl) rfl (fun KC_ hK => ?_)
        go_simp
        refine hK _ _ (fun h => absurd h (by decide)) ?_
        try simp only [Act.put, List.setIfInBounds_toArray, List.set_cons_zero, List.set_cons_succ]
        refine wpAnyT_done (by kernel_rfl) ?_ _
        clear hS k0 k1
        go_wp2
        go_roundw
        case rel =>
          have h1 := PRowX.setBody HR4.out (by rw [outTo_len]; exact hlt) HBO.out (fun i hi hik => by
            intro r h1 h2
            rw [HOB.out, ← hU] at h2
            exact HROW.out.apart i k hi (by rw [outTo_len]; exact hlt) (by omega) (by rw [outTo_len]; omega) hik r h1 h2)
          rw [HSO.out] at h1
          refine ⟨k + 1, _, by omega, by go_num, h1, HAP.out.set (k * 4 + 3) (fun i => by omega) _, fun i hi' r hr => ?_, by simp [go_sem, k0'], ((hB.drew).grown HG4.out (by show _ ≤ wr.heap.size; omega) (fun r hr => own_block_ge HB2.out r hr)).setCell hLg _⟩
          by_cases e : i = k
          · subst e
            rw [getD_set_eq _ _ _ _ (by have := HROW.out.own.1; rw [outTo_len] at this; omega), HOB.out, ← hU] at hr
            exact HLT.out i hi' r hr
          · rw [getD_set_ne _ _ _ _ _ (by omega)] at hr
            exact HLT.out i hi' r hr
        case measure => simp [intOf]; omega
      · obtain rfl : k = p.length := by omega
        rw [outTo_all] at hrow
        have q4 := (hB.cell (p := ⟨w.heap.size + 1, 0, none⟩) (by show w.heap.size + 1 < _; omega)).trans q3
        have u4 := ((bcell hB).2 (w.heap.size + 1) 0 (by omega)).trans u3
        have HROW := Lib.hid hrow
        have HAP := Lib.hid hap
        have hbl : (bareP p).length = p.length := by simp [bareP]
        have HBL2 := Lib.hid hbl
        clear hrow q3 u3 hap hlts hbl
        go_wp2
        exact bodyPost_ret (v := .agg #[.slice (some ⟨g, 0, none⟩) p.length Cg]) (by simp [results, Try.results11, go_sem, q4]) rfl
          ⟨_, xs, rfl, by rw [HRB.out]; exact (PRowX.only HROW.out ((Only.refl (w.heap.size + 1) (w.heap.size + 2) wr).setCell (Nat.le_refl _) (Nat.lt_succ_self _) _) hL1).lo_ (by omega), by rw [HRB.out, HBL2.out]; exact HAP.out, ((HB2.out.trans (HB3.out.mono (by omega))).trans (hB.mono (by omega))).setCell (by show w.heap.size ≤ w.heap.size + 1; omega) _⟩

theorem bareP_size (p : Pr) : (bareP p).size ≤ p.size := by
  have h : ∀ p : Pr, sizes (p.map bareB) ≤ sizes p := fun p => by
    induction p with
    | nil => exact Nat.le_refl _
    | cons k p ih =>
      have h1 : (bareB k).size ≤ k.size := by
        unfold Bk.size bareB
        have := List.length_filter_le (fun s : St => !s.decl) k.body
        simp only
        omega
      simp only [List.map_cons, sizes]
      omega
  have := h p
  unfold Pr.size bareP
  rw [List.length_map]
  omega
theorem rBare_size (p : Pr) : (rBare p).size ≤ p.size := by
  unfold rBare
  split
  · exact bareP_size p
  · simp [Pr.size, sizes]

set_option maxRecDepth 100000 in
theorem S_BareProgram (v : Value) (p : Pr) (lo : Nat) (w : World) (hv : Prog w lo v p) :
    Calls Try.prog 15 #[v] w fun e w' => ∃ sl' xs, e = .returned (.agg #[sl']) ∧ PRow w' w.heap.size sl' xs (rBare p) ∧ Below w.heap.size w w' := by
  obtain ⟨sl, rfl, hv⟩ := hv
  have HV := Lib.hid hv
  obtain ⟨A, C, rfl⟩ := hv.form
  clear hv
  go_enter Try.func15, Try.ntmps15
  go_wp2_with fail
  have d0 : ∀ (w' : World), Below ((w.alloc (.cells #[.slice A p.length C] 25)).alloc (.cells #[.slice none 0 0] 25)).heap.size ((w.alloc (.cells #[.slice A p.length C] 25)).alloc (.cells #[.slice none 0 0] 25)) w' → w'.cell? ⟨w.heap.size, 0, none⟩ = some (.slice A p.length C) ∧ w'.cell? ⟨w.heap.size + 1, 0, none⟩ = some (.slice none 0 0) ∧ w'.frozen? ⟨w.heap.size + 1, 0, none⟩ = false ∧ w.heap.size + 2 ≤ w'.heap.size := fun w' hb => ⟨cell_later hb (by simp [go_sem]), cell_later hb (by simp [go_sem]), ((bcell hb).2 _ _ (by simp)).trans (by simp [go_sem]), by have := hb.size; simp only [World.size_alloc] at this; omega⟩
  have D0 := Lib.hid d0
  clear d0
  refine (S_validShape _ p lo _ ⟨_, rfl, HV.out.keep al2⟩).mono ?_
  rintro e w1 ⟨rfl, hb1⟩
  obtain ⟨c1, q1, u1, z1⟩ := D0.out _ hb1
  have hB1 := bthen (al2 (w := w)) hb1
  have HB1 := Lib.hid hB1
  clear hb1 hB1
  cases hs : shape p
  · have HS := Lib.hid hs
    clear hs
    go_wp2
    refine bodyPost_ret (v := .agg #[.slice none 0 0]) (by simp [results, Try.results15, go_sem, q1]) rfl ⟨_, [], rfl, ?_, HB1.out.setCell (by show w.heap.size ≤ w.heap.size + 1; omega) _⟩
    unfold rBare
    rw [HS.out]
    exact PRowX.nil _ _
  · have hl := shape_len hs
    have hbl : ∀ b, b < p.length → (p.getD b default).body.length ≤ 1000 ∧ (p.getD b default).params.length ≤ 1000 := fun b hb => by
      have h1 := shape_body hs b (by omega) (by omega)
      have h2 := (shape_params hs b (by omega) (by omega)).1
      rw [bk_nat] at h1 h2
      exact ⟨by omega, by omega⟩
    have HBL := Lib.hid hbl
    have hrb : rBare p = bareP p := by unfold rBare; rw [hs]; rfl
    have HRB := Lib.hid hrb
    clear hs hbl hrb
    go_wp2_with fail
    refine (S_bare _ p lo _ ⟨_, rfl, HV.out.keep HB1.out⟩ (by omega) HBL.out).mono ?_
    rintro e w2 ⟨sl2, xs2, rfl, hr2, hb2⟩
    obtain ⟨A2, C2, rfl⟩ := PRowX.form hr2
    have hz2 := hb2.size
    have q2 := cell_later hb2 q1
    have u2 := ((bcell hb2).2 (w.heap.size + 1) 0 (by omega)).trans u1
    have HB2 := Lib.hid (bthen HB1.out hb2)
    have HR2 := Lib.hid (PRowX.lo_ hr2 (lo' := w.heap.size + 2) (by omega))
    clear c1 q1 u1 hb2 hr2 z1 hz2
    go_wp2
    exact bodyPost_ret (v := .agg #[.slice A2 (bareP p).length C2]) (by simp [results, Try.results15, go_sem, q2]) rfl
      ⟨_, xs2, rfl, by rw [HRB.out]; exact (PRowX.only HR2.out ((Only.refl (w.heap.size + 1) (w.heap.size + 2) w2).setCell (Nat.le_refl _) (Nat.lt_succ_self _) _) (Nat.le_refl _)).lo_ (by omega), HB2.out.setCell (by show w.heap.size ≤ w.heap.size + 1; omega) _⟩

end Go.Proofs.Ytiemhadpepbcjaa

namespace Go.Proofs.Ytiemhadpepbcjaa
open Go.RowKit
set_option linter.unusedVariables false

set_option maxRecDepth 100000 in
set_option maxHeartbeats 8000000 in
theorem S_ownersOf (sl : Value) (p : Pr) (lo : Nat) (w : World) (hv : Blks w lo sl p) (hs : shape p = true) :
    Calls Try.prog 65 #[.agg #[sl]] w fun e w' => ∃ v' us, e = .returned v' ∧ RowsOf w' w.heap.size v' us (ownRows p p.length) ∧ Below w.heap.size w w' := by
  have hl := shape_len hs
  obtain ⟨g, C, rfl, hg⟩ := hv.formS (by omega)
  have HV := Lib.hid hv
  have HSH := Lib.hid hs
  clear hv hs
  go_enter Try.func65, Try.ntmps65
  go_wp2
  obtain ⟨W0, hW0⟩ : ∃ W0 : World, W0 = w.alloc (.cells #[.slice (some ⟨g, 0, none⟩) p.length C] 25) := ⟨_, rfl⟩
  have c0 : W0.cell? ⟨w.heap.size, 0, none⟩ = some (.slice (some ⟨g, 0, none⟩) p.length C) := by rw [hW0]; simp [go_sem]
  have hb0 : Below w.heap.size w W0 := by rw [hW0]; exact al1
  have z0 : W0.heap.size = w.heap.size + 1 := by rw [hW0]; simp
  have HZ := Lib.hid z0
  have hz0 : w.heap.size ≤ W0.heap.size := by omega
  have HB0 := Lib.hid hb0
  rw [← hW0]
  clear hW0 hb0 z0
  go_loopw [3, 4] (fun o i wi => ∃ (k : Nat) (us : List Value), k ≤ p.length ∧ i = .int .i64 k ∧ RowsOf wi W0.heap.size o us (ownRows p k) ∧ Below W0.heap.size W0 wi) (fun _ i _ => p.length - (intOf i).toNat)
  case atStart => exact ⟨0, [], Nat.zero_le _, rfl, RowsOf.zero HZ.out (Nat.le_of_eq HZ.out), al1⟩
  case round =>
    obtain ⟨wo, rfl⟩ : ∃ wo : World, wo = wr := ⟨_, rfl⟩
    obtain ⟨k, us, hk, rfl, hrow, hB⟩ := hrel
    have c1 := cell_later hB c0
    have HV1 := Lib.hid (HV.out.keep (bthen HB0.out hB))
    have HROW := Lib.hid hrow
    have hzo := hB.size
    clear hrow
    by_cases hlt : k < p.length
    · have hlr : (readF p k).length ≤ 8 := nms_len _
      have hlb : (boundF p k).length ≤ 8 := nms_len _
      have hat := fun (x : Nat) (h : x < 8) => ownAt_eq (p := p) (c := (k : Int)) (x := (x : Int)) (by omega) (by omega)
      have hk0 : (0 : Int) ≤ (k : Int) := by omega
      have hk1 : (k : Int) < (p.length : Int) := by omega
      have HAT := Lib.hid hat
      clear hat
      go_wp2
      obtain ⟨W1, hW1⟩ : ∃ W1 : World, W1 = wo.alloc (.cells #[] 3) := ⟨_, rfl⟩
      have hx : Below wo.heap.size wo W1 := by rw [hW1]; exact al1
      have li : Ints W1 wo.heap.size (.slice (some ⟨wo.heap.size, 0, none⟩) 0 0) [] := by rw [hW1]; exact Ints.zero wo _ (Nat.le_refl _)
      have c2 := cell_later hx c1
      have HV2 := Lib.hid (HV1.out.keep hx)
      have hz1 := hx.size
      rw [← hW1]
      have hcur : Below W1.heap.size W1 W1.drew := (below0 _).drew
      have HX := Lib.hid hx
      have HLI := Lib.hid li
      clear hW1 hx li
      go_region_held3 (fun w' => w'.cell? ⟨w.heap.size, 0, none⟩ = some (.slice (some ⟨g, 0, none⟩) p.length C))
        (first | go_keep | exact cell_later hcur c2)
        (first
          | (go_at_call 93
             refine (S_read _ p lo k _ ⟨_, rfl, HV2.out.keep hcur⟩ hk0 hk1 (by omega) (Nat.le_trans (shape_body HSH.out k hk0 hk1) (by omega))).mono ?_
             rintro e wa ⟨vr, rfl, ir, br⟩
             have ir := ir.lo_ hcur.size
             have hcur := bthen hcur br)
          | (go_at_call 94
             refine (S_bound _ p lo k _ ⟨_, rfl, HV2.out.keep hcur⟩ hk0 hk1 (by omega) (Nat.le_trans (shape_body HSH.out k hk0 hk1) (by omega)) (Nat.le_trans (shape_params HSH.out k hk0 hk1).1 (by omega))).mono ?_
             rintro e wb ⟨vb, rfl, ib, bb⟩
             have ib := ib.lo_ hcur.size
             have ir := ir.keep bb
             have hcur := bthen hcur bb)
          | (refine step_append_ints rfl _ _ rfl vr vb _ _ W1.heap.size _ rfl rfl ir ib (by omega) hcur.size ?_
             intro v1 w1 i1 g1 b1 f1
             have hcur := hcur.trans b1))
      obtain ⟨LS, hLS⟩ : ∃ LS : List Int, LS = readF p k ++ boundF p k := ⟨_, rfl⟩
      have hat := HAT.out
      rw [← hLS] at i1 hat
      have HAT2 := Lib.hid hat
      obtain ⟨vA, vC, rfl⟩ := i1.form
      have c3 := cell_later hcur c2
      have hBw := bthen HX.out hcur
      have HV3 := Lib.hid (HV2.out.keep hcur)
      have hap0 : Apart (.slice (some ⟨wo.heap.size, 0, none⟩) 0 0) (.slice vA LS.length vC) := Apart.mk_ HLI.out i1 (Nat.le_refl _)
      have HI := Lib.hid i1
      have HLI2 := Lib.hid (HLI.out.keep hcur)
      clear hat hLS i1
      go_wp2
      go_loopw [5, 7] (fun r i wi => ∃ m : Nat, m ≤ 8 ∧ i = .int .i64 m ∧ Ints wi wo.heap.size r (ownTo p k m) ∧ Apart r (.slice vA LS.length vC) ∧ Ints wi W1.heap.size (.slice vA LS.length vC) LS ∧ Below wo.heap.size wo wi) (fun _ i _ => 8 - (intOf i).toNat)
      case atStart => exact ⟨0, by omega, rfl, HLI2.out, hap0, HI.out, hBw⟩
      case round =>
        obtain ⟨m, hm, rfl, hr, hap, hi, hBi⟩ := hrel
        have c4 := cell_later hBi c1
        have HV4 := Lib.hid (HV1.out.keep hBi)
        have hzi := hBi.size
        by_cases hlm : m < 8
        · have hle : (m : Int) ≤ 7 := by omega
          have hat := HAT2.out m hlm
          cases hh : hasF LS m
          · rw [hh] at hat
            have hat : ownAt p k m = -2 := hat
            have HE := Lib.hid hat
            clear hat
            go_wp2_with (first
              | (go_at_call 77; refine (S_has _ LS _ m _ hi).mono ?_; rintro e w' ⟨rfl, rfl⟩; rw [hh])
              | (at_builtin; refine wpList_append_ints rfl _ _ rfl _ _ _ [-2] wo.heap.size _ rfl rfl (hr.keep al1) (Ints.one' _ _ (by first | rfl | simp only [World.size_alloc]) _ _ (Nat.le_refl _)) (by show _ + 1 ≤ _; rw [ownTo_len]; omega) (by simp only [World.size_alloc]; omega) ?_; intro v9 w9 hown9 hgrow9 hbel9 hfrom9))
            have hi9 := (hi.keep al1).kept hgrow9 hap.kept
            have hap9 := hap.from hfrom9 (fun r hr => own_block_lt (hi.keep al1) r hr)
            go_roundw
            case rel => exact ⟨m + 1, by omega, by go_num, by rw [ownTo, HE.out]; exact hown9, hap9, hi9, (bal hBi _).trans hbel9⟩
            case measure => simp [intOf]; omega
          · rw [hh] at hat
            have hat : ownAt p k m = ownerF p k m := hat
            have HE := Lib.hid hat
            clear hat
            go_wp2_with fail
            refine (S_has _ LS _ m _ hi).mono ?_
            rintro e w' ⟨rfl, rfl⟩
            rw [hh]
            go_wp2_with fail
            refine (S_owner _ p lo k m _ HV4.out HSH.out hk0 hk1 (by omega) (by omega)).mono ?_
            rintro e w7 ⟨rfl, hb7⟩
            have hr := hr.keep hb7
            have hi := hi.keep hb7
            have hBi := bthen hBi hb7
            have hzi := hBi.size
            go_wp2_with (at_builtin; refine wpList_append_ints rfl _ _ rfl _ _ _ [(ownerF p k m)] wo.heap.size _ rfl rfl (hr.keep al1) (Ints.one' _ _ (by first | rfl | simp only [World.size_alloc]) _ _ (Nat.le_refl _)) (by show _ + 1 ≤ _; rw [ownTo_len]; omega) (by simp only [World.size_alloc]; omega) ?_; intro v9 w9 hown9 hgrow9 hbel9 hfrom9)
            have hi9 := (hi.keep al1).kept hgrow9 hap.kept
            have hap9 := hap.from hfrom9 (fun r hr => own_block_lt (hi.keep al1) r hr)
            go_roundw
            case rel => exact ⟨m + 1, by omega, by go_num, by rw [ownTo, HE.out]; exact hown9, hap9, hi9, (bal hBi _).trans hbel9⟩
            case measure => simp [intOf]; omega
        · obtain rfl : m = 8 := by omega
          have hle : ¬ (((8 : Nat) : Int) ≤ 7) := by omega
          have hrl := ownTo_len p k 8
          have hrows := HROW.out.keep hBi
          have hapr : ∀ i, i < (ownRows p k).length → Apart (us.getD i undef) _ := fun i hi' => Apart.mk_ (HROW.out.2.1 i hi') hr (Nat.le_refl _)
          obtain ⟨rA, rC, rfl⟩ := hr.form
          obtain ⟨oA, oC, rfl⟩ := HROW.out.form
          clear hrl
          go_wp2_with (at_builtin; go_loud (refine wpList_append_row rfl _ _ rfl (.slice oA (ownRows p k).length oC) (.slice rA (ownTo p k 8).length rC) us (ownRows p k) (ownTo p k 8) W0.heap.size _ rfl rfl rfl hrows (hr.lo_ hzo) hapr (by rw [ownRows_len]; omega) (by omega) ?_); intro v9 w9 hrow9 hbel9)
          go_roundw
          case rel => exact ⟨k + 1, _, by omega, by go_num, hrow9, (bthen hB hBi).trans hbel9⟩
          case measure => simp [intOf]; omega
    · obtain rfl : k = p.length := by omega
      go_wp2
      go_ret
      exact ⟨_, us, rfl, HROW.out.lo_ hz0, HB0.out.trans (hB.mono hz0)⟩

end Go.Proofs.Ytiemhadpepbcjaa

namespace Go.Proofs.Ytiemhadpepbcjaa
open Go.RowKit
set_option linter.unusedVariables false

/-- append of one inner row. -/
theorem wpList_append_rowT (T : TypeId) (hT : Try.prog.underlying T = some (.slice 31)) {w : World} {ops : Array Oper} {rest : List Oper} {o : Oper} {a : Act} {Q : Exit → Act → World → Prop} (hgd : o.guard = none) (s x : Operand)
    (ho : o.op = .call { callee := .builtin .append, args := #[s, x], argTypes := #[T, T] })
    (v U : Value) (us : List Value) (ll : List (List Int)) (L : List Int) (base B : Nat) (hB : w.heap.size = B) (hs : a.eval s = v) (hx : a.eval x = .slice (some ⟨B, 0, none⟩) 1 1)
    (hr : RowsOf w base v us ll) (hu : Ints w base U L) (hap : ∀ i, i < ll.length → Apart (us.getD i undef) U) (hlen : ll.length + 1 ≤ 1000) (hbase : base ≤ w.heap.size)
    (h : ∀ v' w', RowsOf w' base v' (us ++ [U]) (ll ++ [L]) → Below base w w' → wpList Try.prog ops Q rest (a.put o.dst v') w') :
    wpList Try.prog ops Q (o :: rest) a (w.alloc (.cells #[U] 31)) := by
  obtain ⟨A1, C1, e1⟩ := hu.form
  have hul : us.length = ll.length := by have := hr.1.1; omega
  refine wpList_append_rows hgd s x _ ho base base 31 (.slice none 0 0) 1 24 hT (by kernel_rfl) rfl (by decide) v _ ll.length 1 us [U] hs hx (own_keep hr.1 al1) (own_one hB (by omega) U) (fun u hu' => by rw [List.mem_singleton.1 hu', e1]; rfl) (by unfold maxLen; omega) (by omega) (by rw [World.size_alloc]; omega) ?_
  intro v' w' h2 h3 h4 _
  have hk : ∀ (V : Value) (l : List Int), Ints w base V l → Ints w' base V l := fun V l hV => by
    have hV1 : Ints (w.alloc (.cells #[U] 31)) base V l := hV.keep al1
    have hr1 : (w.alloc (.cells #[U] 31)).ownsRow base 31 1 v ll.length us := own_keep hr.1 al1
    exact Ints.kept hV1 h3 (own_types hV1 hr1 (by decide))
  have hg : ∀ i, i < us.length → (us ++ [U]).getD i undef = us.getD i undef := fun i hi => by simp [List.getD, List.getElem?_append_left hi]
  have hgl : (us ++ [U]).getD us.length undef = U := by simp [List.getD]
  refine h v' w' ⟨by rw [List.length_append]; exact h2, fun i hi => ?_, fun i j hi hj hij => ?_⟩ ((al1.mono hbase).trans h4)
  · rw [List.length_append] at hi
    by_cases e : i < ll.length
    · rw [hg i (by omega), show (ll ++ [L]).getD i [] = ll.getD i [] by simp [List.getD, List.getElem?_append_left e]]
      exact hk _ _ (hr.2.1 i e)
    · obtain rfl : i = ll.length := by simp at hi; omega
      rw [← hul, hgl, show (ll ++ [L]).getD us.length [] = L by rw [hul]; simp [List.getD]]
      exact hk _ _ hu
  · rw [List.length_append] at hi hj
    simp at hi hj
    by_cases ei : i < ll.length
    · rw [hg i (by omega)]
      by_cases ej : j < ll.length
      · rw [hg j (by omega)]
        exact hr.2.2 i j ei ej hij
      · obtain rfl : j = ll.length := by omega
        rw [← hul, hgl]
        exact hap i ei
    · obtain rfl : i = ll.length := by omega
      have ej : j < ll.length := by omega
      rw [← hul, hgl, hg j (by omega)]
      exact fun k hk1 hk2 => hap j ej k hk2 hk1


theorem RowsOf.only {w w' : World} {lo hi b : Nat} {v : Value} {us : List Value} {ll : List (List Int)} (h : RowsOf w b v us ll) (ho : Only lo hi w w') (hb : hi ≤ b) : RowsOf w' b v us ll :=
  ⟨own_only h.1 ho fun r hr => .inr (Nat.le_trans hb (own_block_ge h.1 r hr)), fun i hi => own_only (h.2.1 i hi) ho fun r hr => .inr (Nat.le_trans hb (own_block_ge (h.2.1 i hi) r hr)), h.2.2⟩
theorem ownRows_sum (p : Pr) : ∀ n, ((ownRows p n).map List.length).sum = 8 * n
  | 0 => rfl
  | n + 1 => by rw [ownRows, List.map_append, List.sum_append, ownRows_sum p n]; simp [ownTo_len]; omega
theorem rOwners_sum (p : Pr) : ((rOwners p).map List.length).sum ≤ 56 := by
  unfold rOwners
  cases h : validP p
  · simp
  · have := shape_len (validP_shape h)
    simp only [if_true]
    rw [ownRows_sum]
    omega
theorem ownTo_succ (p : Pr) (c : Int) (m : Nat) (l : List Int) (r : Nat) (hr : r = 8 - m) (hm : m < 8) (y : Int) (hy : ownAt p c m = y) : (ownTo p c m ++ List.replicate r 0).set m y = ownTo p c (m + 1) ++ List.replicate (8 - (m + 1)) 0 := by
  subst hy hr
  rw [List.set_append_right _ _ (by rw [ownTo_len]; exact Nat.le_refl _), ownTo_len, Nat.sub_self, show 8 - m = (8 - (m + 1)) + 1 by omega, List.replicate_succ, List.set_cons_zero, ownTo, List.append_assoc]
  rfl
theorem ownAt_if (p : Pr) (k : Nat) (m : Nat) : ownAt p k m = if (p.bk k).readB m || (p.bk k).boundB m then ownerF p k m else -2 := rfl
theorem ints_made (w : World) (n : Nat) (hn : n ≤ 1000) : Ints (w.alloc (.cells (madeCells #[.int .i64 0] n) 3)) w.heap.size (.slice (some ⟨w.heap.size, 0, none⟩) n n) (List.replicate n 0) := by
  have h := ints_of_row (w := w.alloc (.cells (madeCells #[.int .i64 0] n) 3)) (lo := w.heap.size) (b := w.heap.size) (l := List.replicate n 0) (f := fun _ => .int .i64 0) (by rw [List.length_replicate]; exact World.rowIs_made w (.int .i64 0) n 3) (Nat.le_refl _) (by rw [List.length_replicate]; unfold maxLen; omega) (fun j hj => by rw [List.length_replicate] at hj; simp [List.getD, hj])
  rwa [List.length_replicate] at h

theorem owners_valid {p : Pr} (h : (rOwners p).length ≠ 0) : validP p = true := by
  unfold rOwners at h
  cases hv : validP p
  · rw [hv] at h; exact absurd rfl h
  · rfl
theorem owners_len {p : Pr} (h : validP p = true) : (rOwners p).length = p.length := by unfold rOwners; rw [if_pos h, ownRows_len]
theorem ownRows_getD (p : Pr) : ∀ n k : Nat, k < n → (ownRows p n).getD k [] = ownTo p k 8
  | 0, _, h => absurd h (Nat.not_lt_zero _)
  | n + 1, k, h => by
    rw [ownRows, List.getD_eq_getElem?_getD]
    by_cases e : k < n
    · rw [List.getElem?_append_left (by rw [ownRows_len]; exact e), ← List.getD_eq_getElem?_getD, ownRows_getD p n k e]
    · obtain rfl : k = n := by omega
      rw [List.getElem?_append_right (by rw [ownRows_len]; exact Nat.le_refl _), ownRows_len, Nat.sub_self]
      rfl
theorem ownTo_getD (p : Pr) (c : Int) : ∀ n k : Nat, k < n → (ownTo p c n).getD k 0 = ownAt p c k
  | 0, _, h => absurd h (Nat.not_lt_zero _)
  | n + 1, k, h => by
    rw [ownTo, List.getD_eq_getElem?_getD]
    by_cases e : k < n
    · rw [List.getElem?_append_left (by rw [ownTo_len]; exact e), ← List.getD_eq_getElem?_getD, ownTo_getD p c n k e]
    · obtain rfl : k = n := by omega
      rw [List.getElem?_append_right (by rw [ownTo_len]; exact Nat.le_refl _), ownTo_len, Nat.sub_self]
      rfl
theorem owners_row {p : Pr} (h : validP p = true) (k : Nat) (hk : k < p.length) : (rOwners p).getD k [] = ownTo p k 8 := by unfold rOwners; rw [if_pos h, ownRows_getD p _ k hk]
theorem owners_law {p : Pr} (hv : validP p = true) (k m : Nat) (hk : k < p.length) (hm : m < 8) : ownAt p k m = if hasF (rRead p k) m || hasF (rBound p k) m then rOwner p k m else -2 := by
  have h1 : shapeAt p k = true := shapeAt_iff.2 ⟨validP_shape hv, by omega, by omega⟩
  have h2 : (validB p k && isNm (m : Int)) = true := by rw [validB_iff.2 ⟨hv, by omega, by omega⟩, isNm_iff.2 ⟨by omega, by omega⟩]; rfl
  unfold rRead rBound rOwner
  rw [if_pos h1, if_pos h1, if_pos h2]
  unfold readF boundF ownAt
  rw [hasF_nms _ _ (by omega) (by omega), hasF_nms _ _ (by omega) (by omega)]

set_option maxRecDepth 100000 in
set_option maxHeartbeats 1000000 in
theorem I_ownersOf (sl : Value) (p : Pr) (lo : Nat) (w : World) (hv : Blks w lo sl p) (hs : shape p = true) :
    Calls Try.prog 56 #[.agg #[sl]] w fun e w' => ∃ v' us, e = .returned v' ∧ RowsOf w' w.heap.size v' us (ownRows p p.length) ∧ Below w.heap.size w w' := by
  have hl := shape_len hs
  have HV := Lib.hid hv
  have HSH := Lib.hid hs
  obtain ⟨A, C, rfl⟩ := hv.form
  clear hv hs
  have hmk : ∀ W : World, (Instr.makeSlice 31 (.int .i64 8) (.int .i64 8)).run Try.prog W = .ok (.slice (some ⟨W.heap.size, 0, none⟩) 8 8) (W.alloc (.cells (madeCells #[.int .i64 0] 8) 3)) :=
    fun W => run_make_row' (P := Try.prog) 31 3 (.int .i64 0) 8 Try.underlying31 Try.info3 rfl .i64 .i64 8 (by omega) (by omega) W
  go_enter Try.func56, Try.ntmps56
  go_wp2_with fail
  refine (I_scopesOf _ p lo _ (HV.out.keep al1) HSH.out).mono ?_
  rintro e w5 ⟨A', Bs, rfl, hBs, hrow, hsc, hb5⟩
  have hB5 := bthen (al1 (w := w)) hb5
  have hz5 := hB5.size
  have HROW := Lib.hid hrow
  have HSC := Lib.hid hsc
  clear hrow hsc hb5
  go_wp2
  go_loopw [3, 11] (fun o v wr => ∃ (k : Nat) (us : List Value), k ≤ p.length ∧ v = .int .i64 k ∧ RowsOf wr w5.heap.size o us (ownRows p k) ∧ Below w5.heap.size w5 wr) (fun _ v _ => p.length - (intOf v).toNat)
  case atStart => exact ⟨0, [], Nat.zero_le _, rfl, RowsOf.nil _ _, Below.refl _ _⟩
  case round =>
    obtain ⟨wo, rfl⟩ : ∃ wo : World, wo = wr := ⟨_, rfl⟩
    obtain ⟨k, us, hk, rfl, hrowo, hB⟩ := hrel
    have hsz := hB.size
    obtain ⟨oA, oC, rfl⟩ := hrowo.form
    have HO := Lib.hid hrowo
    clear hrowo
    by_cases hlt : k < p.length
    · have hrow := World.rowIs.of_block HROW.out (hB.block Bs (World.rowIs.lt HROW.out))
      have cr := hrow.cell (i := k) hlt
      have hgr := World.rowIs.lt hrow
      have HSK := Lib.hid (HSC.out.keep hB)
      have hgk := World.rowIs.lt (HSK.out k hlt).2
      have hmw := hmk wo
      have hi0 := ints_made wo 8 (by omega)
      have hbm : Below wo.heap.size wo (wo.alloc (.cells (madeCells #[.int .i64 0] 8) 3)) := al1
      clear hrow hmk
      go_wp2
      clear hmw
      generalize wo.alloc (.cells (madeCells #[.int .i64 0] 8) 3) = W1 at *
      go_loopw [18] (fun v wi => ∃ m : Nat, m ≤ 8 ∧ v = .int .i64 m ∧ Ints wi wo.heap.size (.slice (some ⟨wo.heap.size, 0, none⟩) 8 8) (ownTo p k m ++ List.replicate (8 - m) 0) ∧ Below wo.heap.size wo wi) (fun v _ => 8 - (intOf v).toNat)
      case atStart => exact ⟨0, by omega, rfl, hi0, hbm⟩
      case round =>
        clear hi0 hbm
        obtain ⟨m, hm, rfl, hi, hBi⟩ := hrel
        by_cases hlm : m < 8
        · have hlen : (ownTo p k m ++ List.replicate (8 - m) 0).length = 8 := by rw [List.length_append, ownTo_len, List.length_replicate]; omega
          obtain ⟨_, _, g1, e1, _, _, hA1, hg1, hcell, hf⟩ := hi.rd
          rw [hlen] at e1 hA1 hg1 hcell hf
          have e2 := hA1 (by omega)
          subst e2
          simp only [Value.slice.injEq, Option.some.injEq, Addr.mk.injEq, and_true, true_and] at e1
          obtain ⟨rfl, rfl⟩ := e1
          have c0 := hcell m hlm
          have f0 := hf (by omega) m
          have hgl := (hg1 (by omega)).2
          have hsc := HSK.out.keep hBi
          obtain ⟨_, hs⟩ := hsc k hlt
          have c1 : wr.cell? ⟨A' k, 11 + m, none⟩ = some (.bool ((p.bk k).readB m)) := by simpa using hs.cR m (by omega) (by omega)
          have c2 : wr.cell? ⟨A' k, 19 + m, none⟩ = some (.bool ((p.bk k).boundB m)) := by simpa using hs.cB m (by omega) (by omega)
          have hne : A' k ≠ wo.heap.size := by omega
          have hne' : wo.heap.size ≠ A' k := by omega
          have hm1 : (m : Int) < 8 := by omega
          have hgs := World.rowIs.lt hs
          have HI := Lib.hid hi
          have HSI := Lib.hid hsc
          have HST := Lib.hid (fun y => ownTo_succ p k m [] (8 - m) rfl hlm y)
          have hif := ownAt_if p k m
          clear hlen hA1 hg1 hcell hf hsc hs hi
          by_cases hrb : ((p.bk k).readB m || (p.bk k).boundB m) = true
          · have HE := Lib.hid (show ownAt p k m = ownerF p k m by rw [hif, if_pos hrb])
            generalize (p.bk k).readB m = R1 at *
            generalize (p.bk k).boundB m = R2 at *
            clear hif
            have fin : ∀ (w' : World), Below (wr.setCell ⟨wo.heap.size, m, none⟩ (.int .i64 (-2))).heap.size (wr.setCell ⟨wo.heap.size, m, none⟩ (.int .i64 (-2))) w' → w'.cell? ⟨wo.heap.size, m, none⟩ = some (.int .i64 (-2)) ∧ w'.frozen? ⟨wo.heap.size, m, none⟩ = false := fun w' hb => by
              have h2 := (HI.out.stored m (-2)).1
              have h3 := h2.keep hb
              obtain ⟨_, _, g1, e1, _, _, hA1, hg1, hcell, hf⟩ := h3.rd
              have hlen : ((ownTo p k m ++ List.replicate (8 - m) 0).set m (-2)).length = 8 := by rw [List.length_set, List.length_append, ownTo_len, List.length_replicate]; omega
              rw [hlen] at e1 hA1 hg1 hcell hf
              have e2 := hA1 (by omega)
              subst e2
              simp only [Value.slice.injEq, Option.some.injEq, Addr.mk.injEq, and_true, true_and] at e1
              obtain ⟨rfl, rfl⟩ := e1
              refine ⟨?_, hf (by omega) m⟩
              rw [hcell m hlm, getD_set_eq _ _ _ _ (by rw [← List.length_set, hlen]; omega)]
            have FIN := Lib.hid fin
            have hB2 := hBi.setCell (p := ⟨wo.heap.size, m, none⟩) (Nat.le_refl _) (.int .i64 (-2))
            have HB2 := Lib.hid hB2
            have HI2 := Lib.hid (HI.out.stored m (-2)).1
            have HS2 := Lib.hid (HSK.out.keep hB2)
            clear fin hB2
            have arm : R1 = true ∨ R1 = false ∧ R2 = true := by
              rcases R1 with _ | _
              · right; exact ⟨rfl, by simpa using hrb⟩
              · left; rfl
            clear hrb
            rcases arm with rfl | ⟨rfl, rfl⟩
            all_goals
              go_wp2_with fail
              refine (I_owner A' p _ k _ m HS2.out hlt HSH.out (by omega) (by omega)).mono ?_
              rintro e w7 ⟨rfl, hb7⟩
              obtain ⟨d0, d1⟩ := FIN.out w7 hb7
              have hz7 := hb7.size
              rw [World.size_setCell] at hz7
              have HI3 := Lib.hid (HI2.out.keep hb7)
              have HB3 := Lib.hid (bthen HB2.out hb7)
              clear hb7 c0 f0 c1 c2
              go_wp2
              go_roundw
              case rel =>
                have h4 := (HI3.out.stored m (ownerF p k m)).1
                rw [List.set_set, HST.out _ HE.out] at h4
                exact ⟨m + 1, by omega, by go_num, h4, HB3.out.setCell (p := ⟨wo.heap.size, m, none⟩) (Nat.le_refl _) _⟩
              case measure => simp [intOf]; omega
          · have HE := Lib.hid (show ownAt p k m = -2 by rw [hif, if_neg hrb])
            obtain ⟨h1, h2⟩ : (p.bk k).readB m = false ∧ (p.bk k).boundB m = false := by simpa using hrb
            rw [h1] at c1
            rw [h2] at c2
            clear hif hrb h1 h2
            go_wp2
            go_roundw
            case rel =>
              have h4 := (HI.out.stored m (-2)).1
              rw [HST.out _ HE.out] at h4
              exact ⟨m + 1, by omega, by go_num, h4, hBi.setCell (p := ⟨wo.heap.size, m, none⟩) (Nat.le_refl _) _⟩
            case measure => simp [intOf]; omega
        · obtain rfl : m = 8 := by omega
          rw [Nat.sub_self, List.replicate_zero, List.append_nil] at hi
          have hrows := HO.out.keep hBi
          have hapr : ∀ i, i < (ownRows p k).length → Apart (us.getD i undef) (.slice (some ⟨wo.heap.size, 0, none⟩) 8 8) := fun i hi' => Apart.mk_ (HO.out.2.1 i hi') hi (Nat.le_refl _)
          have HR := Lib.hid hrows
          have HAP := Lib.hid hapr
          have HI := Lib.hid hi
          clear hrows hapr hi
          go_wp2_with (at_builtin; refine wpList_append_rowT 84 Try.underlying84 rfl _ _ rfl (.slice oA (ownRows p k).length oC) (.slice (some ⟨wo.heap.size, 0, none⟩) 8 8) us (ownRows p k) (ownTo p k 8) w5.heap.size _ rfl rfl rfl HR.out (HI.out.lo_ hsz) HAP.out (by rw [ownRows_len]; omega) (by have := hBi.size; omega) ?_; intro v9 w9 hrow9 hbel9)
          go_roundw
          case rel => exact ⟨k + 1, _, by omega, by go_num, hrow9, (bthen hB hBi).trans hbel9⟩
          case measure => simp [intOf]; omega
    · obtain rfl : k = p.length := by omega
      go_wp2
      go_ret
      exact ⟨_, us, rfl, HO.out.lo_ hz5, hB5.trans (hB.mono hz5)⟩

end Go.Proofs.Ytiemhadpepbcjaa

namespace Go.Proofs.Ytiemhadpepbcjaa
open Go.RowKit
set_option linter.unusedVariables false

set_option maxRecDepth 100000 in
theorem I_sEqInts (va vb : Value) (la lb : List Int) (l1 l2 : Nat) (w : World) (ha : Ints w l1 va la) (hb : Ints w l2 vb lb) :
    Calls Try.prog 98 #[va, vb] w fun e w' => e = .returned (.bool (la == lb)) ∧ Below w.heap.size w w' := by
  obtain ⟨A, C, g, rfl, hn, hc, hA, hg, hcell, hf⟩ := ha.rd
  obtain ⟨A', C', g', rfl, hn', hc', hA', hg', hcell', hf'⟩ := hb.rd
  clear ha hb hf hf'
  unfold maxLen at hc hc'
  by_cases hl : la.length = lb.length
  · have H := Lib.hid hl
    have hb0 : ((la.length : Int) != (lb.length : Int)) = false := by rw [hl]; simp
    have hn1 : la.length ≤ lb.length := by omega
    clear hl
    go_enter Try.func98, Try.ntmps98
    go_wp2
    go_loopw [13] (fun i wr => ∃ k : Nat, k ≤ la.length ∧ i = .int .i64 k ∧ Below w.heap.size w wr ∧ ∀ j, j < k → la.getD j 0 = lb.getD j 0) (fun i _ => la.length - (intOf i).toNat)
    case atStart => exact ⟨0, Nat.zero_le _, rfl, Below.refl _ _, fun j hj => absurd hj (Nat.not_lt_zero _)⟩
    case round =>
      obtain ⟨k, hk, rfl, hB, hp⟩ := hrel
      have HP := Lib.hid hp
      clear hp
      by_cases hlt : k < la.length
      · have c1 := (hB.cell (p := ⟨g, k, none⟩) (hg (by omega)).2).trans (hcell k hlt)
        have c2 := (hB.cell (p := ⟨g', k, none⟩) (hg' (by omega)).2).trans (hcell' k (by omega))
        obtain rfl := hA (by omega)
        obtain rfl := hA' (by omega)
        clear hA hA' hcell hcell' hg hg'
        generalize hx : la.getD k 0 = x at c1
        generalize hy : lb.getD k 0 = y at c2
        have HX := Lib.hid hx
        have HY := Lib.hid hy
        clear hx hy
        by_cases hxy : x = y
        · have HE := Lib.hid hxy
          have hb1 : (x != y) = false := by simp [hxy]
          clear hxy
          go_wp2
          go_quiet (fail)
          go_wp2
          go_roundw
          case rel => exact ⟨k + 1, by omega, by go_num, below_drewN hB _, fun j hj => by
            rcases Nat.lt_succ_iff_lt_or_eq.1 hj with h | rfl
            · exact HP.out j h
            · rw [HX.out, HY.out, HE.out]⟩
          case measure => simp [intOf]; omega
        · have HE := Lib.hid hxy
          have hb1 : (x != y) = true := by simp [hxy]
          clear hxy
          go_wp2
          go_quiet (fail)
          go_wp2
          go_ret
          refine ⟨ret_bool ?_, below_drewN hB _⟩
          rw [eq_comm, beq_eq_false_iff_ne]
          rintro rfl
          exact HE.out (by rw [← HX.out, ← HY.out])
      · go_wp2
        go_ret
        refine ⟨ret_bool ?_, hB⟩
        obtain rfl : k = la.length := by omega
        rw [eq_comm, beq_iff_eq]
        refine List.ext_getElem H.out fun i h1 h2 => ?_
        have := HP.out i h1
        simpa [List.getD, h1, h2] using this
  · have hb0 : ((la.length : Int) != (lb.length : Int)) = true := by simp; omega
    go_enter Try.func98, Try.ntmps98
    go_wp2
    go_ret
    refine ⟨ret_bool ?_, Below.refl _ _⟩
    rw [eq_comm, beq_eq_false_iff_ne]
    intro h
    exact absurd (congrArg _ h) hl

set_option maxRecDepth 100000 in
theorem I_sEqStmts (va vb : Value) (la lb : List St) (l1 l2 : Nat) (w : World) (ha : Stmts w l1 va la) (hb : Stmts w l2 vb lb) :
    Calls Try.prog 99 #[va, vb] w fun e w' => e = .returned (.bool (la == lb)) ∧ Below w.heap.size w w' := by
  obtain ⟨A, C, g, rfl, hn, hc, hA, hg, hcell, hf⟩ := ha.rd
  obtain ⟨A', C', g', rfl, hn', hc', hA', hg', hcell', hf'⟩ := hb.rd
  clear ha hb hf hf'
  unfold maxLen at hc hc'
  by_cases hl : la.length = lb.length
  · have H := Lib.hid hl
    have hb0 : ((la.length : Int) != (lb.length : Int)) = false := by rw [hl]; simp
    have hn1 : la.length ≤ lb.length := by omega
    clear hl
    go_enter Try.func99, Try.ntmps99
    go_wp2
    go_loopw [13] (fun i wr => ∃ k : Nat, k ≤ la.length ∧ i = .int .i64 k ∧ Below w.heap.size w wr ∧ ∀ j, j < k → la.getD j default = lb.getD j default) (fun i _ => la.length - (intOf i).toNat)
    case atStart => exact ⟨0, Nat.zero_le _, rfl, Below.refl _ _, fun j hj => absurd hj (Nat.not_lt_zero _)⟩
    case round =>
      obtain ⟨k, hk, rfl, hB, hp⟩ := hrel
      have HP := Lib.hid hp
      clear hp
      by_cases hlt : k < la.length
      · obtain ⟨c1, c2, c3, c4⟩ := hcell k hlt
        obtain ⟨d1, d2, d3, d4⟩ := hcell' k (by omega)
        have hgl := (hg (by omega)).2
        have hgl' := (hg' (by omega)).2
        rw [← hB.cell (p := ⟨g, _, none⟩) hgl] at c1 c2 c3 c4
        rw [← hB.cell (p := ⟨g', _, none⟩) hgl'] at d1 d2 d3 d4
        obtain rfl := hA (by omega)
        obtain rfl := hA' (by omega)
        clear hA hA' hcell hcell' hg hg'
        generalize hx : la.getD k default = x at c1 c2 c3 c4
        generalize hy : lb.getD k default = y at d1 d2 d3 d4
        have HX := Lib.hid hx
        have HY := Lib.hid hy
        clear hx hy
        have hi1 : (k : Int) < (la.length : Int) := by omega
        have hi2 : (k : Int) < (lb.length : Int) := by omega
        obtain ⟨xk, xt, xa, xb⟩ := x
        obtain ⟨yk, yt, ya, yb⟩ := y
        simp only at c1 c2 c3 c4 d1 d2 d3 d4
        by_cases hxy : xk = yk ∧ xt = yt ∧ xa = ya ∧ xb = yb
        · obtain ⟨rfl, rfl, rfl, rfl⟩ := hxy
          go_wp2
          go_quiet (fail)
          go_wp2
          go_roundw
          case rel => exact ⟨k + 1, by omega, by go_num, below_drewN hB _, fun j hj => by
            rcases Nat.lt_succ_iff_lt_or_eq.1 hj with h | rfl
            · exact HP.out j h
            · rw [HX.out, HY.out]⟩
          case measure => simp [intOf]; omega
        · have HE := Lib.hid hxy
          have fin : ∀ w9, Below w.heap.size w w9 → Ending.returned (.bool false) = .returned (.bool (la == lb)) ∧ Below w.heap.size w w9 := fun w9 h9 => by
            refine ⟨ret_bool ?_, h9⟩
            rw [eq_comm, beq_eq_false_iff_ne]
            rintro rfl
            have h9 := HX.out.symm.trans HY.out
            simp only [St.mk.injEq] at h9
            exact HE.out h9
          have FIN := Lib.hid fin
          clear fin
          cases h1 : (xk == yk) <;> cases h2 : (xt == yt) <;> cases h3 : (xa == ya) <;> cases h4 : (xb == yb)
          case true.true.true.true => exact absurd ⟨beq_iff_eq.1 h1, beq_iff_eq.1 h2, beq_iff_eq.1 h3, beq_iff_eq.1 h4⟩ hxy
          all_goals
            clear hxy
            go_wp2
            go_quiet (fail)
            go_wp2
            go_ret
            exact FIN.out _ (below_drewN hB _)
      · go_wp2
        go_ret
        refine ⟨ret_bool ?_, hB⟩
        obtain rfl : k = la.length := by omega
        rw [eq_comm, beq_iff_eq]
        refine List.ext_getElem H.out fun i h1 h2 => ?_
        have := HP.out i h1
        simpa [List.getD, h1, h2] using this
  · have hb0 : ((la.length : Int) != (lb.length : Int)) = true := by simp; omega
    go_enter Try.func99, Try.ntmps99
    go_wp2
    go_ret
    refine ⟨ret_bool ?_, Below.refl _ _⟩
    rw [eq_comm, beq_eq_false_iff_ne]
    intro h
    exact absurd (congrArg _ h) hl

set_option maxRecDepth 100000 in
theorem I_eqBlk (x y : Bk) (pv bv pv' bv' : Value) (l1 l2 l3 l4 : Nat) (w : World) (hp : Ints w l1 pv x.params) (hb : Stmts w l2 bv x.body) (hp' : Ints w l3 pv' y.params) (hb' : Stmts w l4 bv' y.body) :
    Calls Try.prog 97 #[bkVal x pv bv, bkVal y pv' bv'] w fun e w' => e = .returned (.bool (x == y)) ∧ Below w.heap.size w w' := by
  have e : (x == y) = (x.kind == y.kind && (x.parent == y.parent && (x.params == y.params && x.body == y.body))) := by
    obtain ⟨a1, a2, a3, a4⟩ := x
    obtain ⟨b1, b2, b3, b4⟩ := y
    rw [Bool.eq_iff_iff]
    simp
  have E := Lib.hid e
  clear e
  obtain ⟨xk, xp, xps, xb⟩ := x
  obtain ⟨yk, yp, yps, yb⟩ := y
  simp only at E hp hb hp' hb'
  by_cases h1 : xk = yk
  · subst h1
    by_cases h2 : xp = yp
    · subst h2
      by_cases h3 : xps = yps
      · have HE := Lib.hid h3
        have hq : (xps == yps) = true := by simp [h3]
        clear h3
        go_enter Try.func97, Try.ntmps97
        go_wp2_with (first
          | (go_at_call 98
             refine (I_sEqInts pv pv' xps yps l1 l3 _ (hp.keep (al2)) (hp'.keep (al2))).mono ?_
             rintro e w3 ⟨rfl, hb3⟩
             have hB3 : Below w.heap.size w w3 := bthen al2 hb3
             have q0 : w3.cell? ⟨w.heap.size, 3, none⟩ = some bv := cell_later hb3 (by simp [go_sem])
             have q1 : w3.cell? ⟨w.heap.size + 1, 3, none⟩ = some bv' := cell_later hb3 (by simp [go_sem]))
          | (go_at_call 99
             refine (I_sEqStmts bv bv' xb yb l2 l4 _ (hb.keep hB3) (hb'.keep hB3)).mono ?_
             rintro e w4 ⟨rfl, hb4⟩
             have hB4 : Below w.heap.size w w4 := bthen hB3 hb4))
        go_ret
        exact ⟨ret_bool (by rw [E.out]; simp [HE.out]), hB4⟩
      · have HE := Lib.hid h3
        have hq : (xps == yps) = false := by simp [h3]
        clear h3
        go_enter Try.func97, Try.ntmps97
        go_wp2_with (first
          | (go_at_call 98
             refine (I_sEqInts pv pv' xps yps l1 l3 _ (hp.keep (al2)) (hp'.keep (al2))).mono ?_
             rintro e w3 ⟨rfl, hb3⟩
             have hB3 : Below w.heap.size w w3 := bthen al2 hb3))
        go_ret
        exact ⟨ret_bool (by rw [E.out]; simp [HE.out]), hB3⟩
    · have hq : (xp == yp) = false := by simp [h2]
      go_enter Try.func97, Try.ntmps97
      go_wp2
      go_ret
      exact ⟨ret_bool (by rw [E.out]; simp [h2]), al2⟩
  · have hq : (xk == yk) = false := by simp [h1]
    go_enter Try.func97, Try.ntmps97
    go_wp2
    go_ret
    exact ⟨ret_bool (by rw [E.out]; simp [h1]), al2⟩

set_option maxRecDepth 100000 in
theorem I_eqFunc (va vb : Value) (la lb : Pr) (l1 l2 : Nat) (w : World) (ha : Blks w l1 va la) (hb : Blks w l2 vb lb) :
    Calls Try.prog 96 #[va, vb, .func (.func 97) #[] #[]] w fun e w' => e = .returned (.bool (la == lb)) ∧ Below w.heap.size w w' := by
  obtain ⟨A, C, g, rfl, hn, hc, hA, hg, hcell, hf⟩ := ha.rd
  obtain ⟨A', C', g', rfl, hn', hc', hA', hg', hcell', hf'⟩ := hb.rd
  clear ha hb hf hf'
  unfold maxLen at hc hc'
  by_cases hl : la.length = lb.length
  · have H := Lib.hid hl
    have hb0 : ((la.length : Int) != (lb.length : Int)) = false := by rw [hl]; simp
    have hn1 : la.length ≤ lb.length := by omega
    clear hl
    go_enter Try.func96, Try.ntmps96
    go_wp2
    go_loopw [17] (fun i wr => ∃ k : Nat, k ≤ la.length ∧ i = .int .i64 k ∧ Below w.heap.size w wr ∧ ∀ j, j < k → la.getD j default = lb.getD j default) (fun i _ => la.length - (intOf i).toNat)
    case atStart => exact ⟨0, Nat.zero_le _, rfl, Below.refl _ _, fun j hj => absurd hj (Nat.not_lt_zero _)⟩
    case round =>
      obtain ⟨k, hk, rfl, hB, hp⟩ := hrel
      have HP := Lib.hid hp
      clear hp
      by_cases hlt : k < la.length
      · obtain ⟨pv, bv, c1, c2, c3, c4, hp1, hb1⟩ := hcell k hlt
        obtain ⟨pv', bv', d1, d2, d3, d4, hp2, hb2⟩ := hcell' k (by omega)
        have hgl := (hg (by omega)).2
        have hgl' := (hg' (by omega)).2
        rw [← hB.cell (p := ⟨g, _, none⟩) hgl] at c1 c2 c3 c4
        rw [← hB.cell (p := ⟨g', _, none⟩) hgl'] at d1 d2 d3 d4
        obtain rfl := hA (by omega)
        obtain rfl := hA' (by omega)
        clear hA hA' hcell hcell' hg hg'
        generalize hx : la.getD k default = x at c1 c2 c3 c4 hp1 hb1
        generalize hy : lb.getD k default = y at d1 d2 d3 d4 hp2 hb2
        obtain ⟨pA1, pC1, rfl⟩ := hp1.form
        obtain ⟨pA2, pC2, rfl⟩ := hb1.form
        obtain ⟨pA3, pC3, rfl⟩ := hp2.form
        obtain ⟨pA4, pC4, rfl⟩ := hb2.form
        have HX := Lib.hid hx
        have HY := Lib.hid hy
        clear hx hy
        have hi1 : (k : Int) < (la.length : Int) := by omega
        have hi2 : (k : Int) < (lb.length : Int) := by omega
        have hgw := World.block_lt_of_cell? _ _ c1
        have hgw' := World.block_lt_of_cell? _ _ d1
        simp only at hgw hgw'
        have hB1 := hB
        clear hB
        by_cases hxy : x = y
        · have HE := Lib.hid hxy
          have hbq : (x == y) = true := by simp [hxy]
          clear hxy
          go_wp2_with (go_at_call 97; refine (I_eqBlk x y _ _ _ _ l1 l1 l2 l2 _ ((hp1.keep hB1).keep al2) ((hb1.keep hB1).keep al2) ((hp2.keep hB1).keep al2) ((hb2.keep hB1).keep al2)).mono ?_; rintro e w3 ⟨rfl, hb3⟩)
          go_roundw
          case rel => exact ⟨k + 1, by omega, by go_num, bthen (hB1.trans (al2.mono hB1.size)) hb3, fun j hj => by
            rcases Nat.lt_succ_iff_lt_or_eq.1 hj with h | rfl
            · exact HP.out j h
            · rw [HX.out, HY.out, HE.out]⟩
          case measure => simp [intOf]; omega
        · have HE := Lib.hid hxy
          have hbq : (x == y) = false := by simp [hxy]
          clear hxy
          go_wp2_with (go_at_call 97; refine (I_eqBlk x y _ _ _ _ l1 l1 l2 l2 _ ((hp1.keep hB1).keep al2) ((hb1.keep hB1).keep al2) ((hp2.keep hB1).keep al2) ((hb2.keep hB1).keep al2)).mono ?_; rintro e w3 ⟨rfl, hb3⟩)
          go_ret
          refine ⟨ret_bool ?_, bthen (hB1.trans (al2.mono hB1.size)) hb3⟩
          rw [eq_comm, beq_eq_false_iff_ne]
          rintro rfl
          exact HE.out (by rw [← HX.out, ← HY.out])
      · go_wp2
        go_ret
        refine ⟨ret_bool ?_, hB⟩
        obtain rfl : k = la.length := by omega
        rw [eq_comm, beq_iff_eq]
        refine List.ext_getElem H.out fun i h1 h2 => ?_
        have := HP.out i h1
        simpa [List.getD, h1, h2] using this
  · have hb0 : ((la.length : Int) != (lb.length : Int)) = true := by simp; omega
    go_enter Try.func96, Try.ntmps96
    go_wp2
    go_ret
    refine ⟨ret_bool ?_, Below.refl _ _⟩
    rw [eq_comm, beq_eq_false_iff_ne]
    intro h
    exact absurd (congrArg _ h) hl

set_option maxRecDepth 100000 in
theorem I_equalPrograms (sa sb : Value) (p q : Pr) (l1 l2 : Nat) (w : World) (ha : Blks w l1 sa p) (hb : Blks w l2 sb q) :
    Calls Try.prog 66 #[.agg #[sa], .agg #[sb]] w fun e w' => e = .returned (.bool (p == q)) ∧ Below w.heap.size w w' := by
  go_enter Try.func66, Try.ntmps66
  go_wp2_with fail
  refine (I_eqFunc sa sb p q l1 l2 _ (ha.keep (al2)) (hb.keep (al2))).mono ?_
  rintro e w3 ⟨rfl, hb3⟩
  go_wp2
  go_ret
  exact ⟨rfl, bthen al2 hb3⟩

set_option maxRecDepth 100000 in
theorem I_gridEqual (va vb : Value) (ua ub : List Value) (la lb : List (List Int)) (l1 l2 : Nat) (w : World) (ha : RowsOf w l1 va ua la) (hb : RowsOf w l2 vb ub lb) :
    Calls Try.prog 67 #[va, vb] w fun e w' => e = .returned (.bool (la == lb)) ∧ Below w.heap.size w w' := by
  obtain ⟨A, C, g, rfl, hn, hc, hA, hg, hcell, hf⟩ := own_rd ha.1
  obtain ⟨A', C', g', rfl, hn', hc', hA', hg', hcell', hf'⟩ := own_rd hb.1
  have hia := ha.2.1
  have hib := hb.2.1
  have HIA := Lib.hid hia
  have HIB := Lib.hid hib
  clear ha hb hf hf' hia hib
  unfold maxLen at hc hc'
  by_cases hl : la.length = lb.length
  · have H := Lib.hid hl
    have hb0 : ((la.length : Int) != (lb.length : Int)) = false := by rw [hl]; simp
    have hn1 : la.length ≤ lb.length := by omega
    clear hl
    go_enter Try.func67, Try.ntmps67
    go_wp2
    go_loopw [14] (fun i wr => ∃ k : Nat, k ≤ la.length ∧ i = .int .i64 k ∧ Below w.heap.size w wr ∧ ∀ j, j < k → la.getD j [] = lb.getD j []) (fun i _ => la.length - (intOf i).toNat)
    case atStart => exact ⟨0, Nat.zero_le _, rfl, Below.refl _ _, fun j hj => absurd hj (Nat.not_lt_zero _)⟩
    case round =>
      obtain ⟨k, hk, rfl, hB, hp⟩ := hrel
      have HP := Lib.hid hp
      clear hp
      by_cases hlt : k < la.length
      · have c1 := hcell k (by omega)
        have d1 := hcell' k (by omega)
        have hp1 := HIA.out k hlt
        have hp2 := HIB.out k (by omega)
        have hgl := (hg (by omega)).2
        have hgl' := (hg' (by omega)).2
        rw [← hB.cell (p := ⟨g, _, none⟩) hgl] at c1
        rw [← hB.cell (p := ⟨g', _, none⟩) hgl'] at d1
        obtain rfl := hA (by omega)
        obtain rfl := hA' (by omega)
        clear hA hA' hcell hcell' hg hg'
        generalize hx : la.getD k [] = x at hp1
        generalize hy : lb.getD k [] = y at hp2
        have HX := Lib.hid hx
        have HY := Lib.hid hy
        obtain ⟨A1, C1, e1⟩ := hp1.form
        obtain ⟨A2, C2, e2⟩ := hp2.form
        rw [e1] at c1 hp1
        rw [e2] at d1 hp2
        clear hx hy e1 e2
        have hi1 : (k : Int) < (la.length : Int) := by omega
        have hi2 : (k : Int) < (lb.length : Int) := by omega
        have hB1 := hB
        clear hB
        by_cases hxy : x = y
        · have HE := Lib.hid hxy
          have hbq : (x == y) = true := by simp [hxy]
          clear hxy
          go_wp2_with (go_at_call 98; refine (I_sEqInts _ _ x y l1 l2 _ (hp1.keep hB1) (hp2.keep hB1)).mono ?_; rintro e w3 ⟨rfl, hb3⟩)
          go_roundw
          case rel => exact ⟨k + 1, by omega, by go_num, hB1.trans (hb3.mono hB1.size), fun j hj => by
            rcases Nat.lt_succ_iff_lt_or_eq.1 hj with h | rfl
            · exact HP.out j h
            · rw [HX.out, HY.out, HE.out]⟩
          case measure => simp [intOf]; omega
        · have HE := Lib.hid hxy
          have hbq : (x == y) = false := by simp [hxy]
          clear hxy
          go_wp2_with (go_at_call 98; refine (I_sEqInts _ _ x y l1 l2 _ (hp1.keep hB1) (hp2.keep hB1)).mono ?_; rintro e w3 ⟨rfl, hb3⟩)
          go_ret
          refine ⟨ret_bool ?_, hB1.trans (hb3.mono hB1.size)⟩
          rw [eq_comm, beq_eq_false_iff_ne]
          rintro rfl
          exact HE.out (by rw [← HX.out, ← HY.out])
      · go_wp2
        go_ret
        refine ⟨ret_bool ?_, hB⟩
        obtain rfl : k = la.length := by omega
        rw [eq_comm, beq_iff_eq]
        refine List.ext_getElem H.out fun i h1 h2 => ?_
        have := HP.out i h1
        simpa [List.getD, h1, h2] using this
  · have hb0 : ((la.length : Int) != (lb.length : Int)) = true := by simp; omega
    go_enter Try.func67, Try.ntmps67
    go_wp2
    go_ret
    refine ⟨ret_bool ?_, Below.refl _ _⟩
    rw [eq_comm, beq_eq_false_iff_ne]
    intro h
    exact absurd (congrArg _ h) hl


end Go.Proofs.Ytiemhadpepbcjaa

namespace Go.Proofs.Ytiemhadpepbcjaa
open Go.RowKit
set_option linter.unusedVariables false

set_option maxRecDepth 100000 in
set_option maxHeartbeats 4000000 in
theorem S_samePrograms (sa sb : Value) (la lb : Pr) (l1 l2 : Nat) (w : World) (ha : Blks w l1 sa la) (hb : Blks w l2 sb lb) (hpar : ∀ i, i < la.length → (la.getD i default).params.length ≤ 1) :
    Calls Try.prog 63 #[.agg #[sa], .agg #[sb]] w fun e w' => e = .returned (.bool (la == lb)) ∧ Below w.heap.size w w' := by
  obtain ⟨A, C, g, rfl, hn, hc, hA, hg, hcell, hf⟩ := ha.rd
  obtain ⟨A', C', g', rfl, hn', hc', hA', hg', hcell', hf'⟩ := hb.rd
  have HPAR := Lib.hid hpar
  have HCELL := Lib.hid hcell
  have HCELL' := Lib.hid hcell'
  clear ha hb hf hf' hpar hcell hcell'
  unfold maxLen at hc hc'
  by_cases hl : la.length = lb.length
  · have H := Lib.hid hl
    have hb0 : ((la.length : Int) != (lb.length : Int)) = false := by rw [hl]; simp
    have hn1 : la.length ≤ lb.length := by omega
    clear hl
    go_enter Try.func63, Try.ntmps63
    go_wp2
    go_loopw [5] (fun i wr => ∃ k : Nat, k ≤ la.length ∧ i = .int .i64 k ∧ Below w.heap.size w wr ∧ wr.cell? ⟨w.heap.size, 0, none⟩ = some (.slice A la.length C) ∧ wr.cell? ⟨w.heap.size + 1, 0, none⟩ = some (.slice A' lb.length C') ∧ ∀ j, j < k → la.getD j default = lb.getD j default) (fun i _ => la.length - (intOf i).toNat)
    case atStart => exact ⟨0, Nat.zero_le _, rfl, al2, by simp [go_sem], by simp [go_sem], fun j hj => absurd hj (Nat.not_lt_zero _)⟩
    case round =>
      obtain ⟨k, hk, rfl, hB, ca, cb, hp⟩ := hrel
      obtain ⟨wo, hwo⟩ : ∃ wo : World, wo = wr := ⟨_, rfl⟩
      subst hwo
      have HP := Lib.hid hp
      clear hp
      by_cases hlt : k < la.length
      · obtain ⟨pv, bv, c1, c2, c3, c4, hp1, hb1⟩ := HCELL.out k hlt
        obtain ⟨pv', bv', d1, d2, d3, d4, hp2, hb2⟩ := HCELL'.out k (by omega)
        have hp1l := HPAR.out k hlt
        have hgl := (hg (by omega)).2
        have hgl' := (hg' (by omega)).2
        rw [← hB.cell (p := ⟨g, _, none⟩) hgl] at c1 c2 c3 c4
        rw [← hB.cell (p := ⟨g', _, none⟩) hgl'] at d1 d2 d3 d4
        obtain rfl := hA (by omega)
        obtain rfl := hA' (by omega)
        generalize hx : la.getD k default = x at c1 c2 c3 c4 hp1 hb1 hp1l
        generalize hy : lb.getD k default = y at d1 d2 d3 d4 hp2 hb2
        have hgw := World.block_lt_of_cell? _ _ c1
        have hgw' := World.block_lt_of_cell? _ _ d1
        have hgb := World.block_lt_of_cell? _ _ cb
        simp only at hgw hgw' hgb
        replace hp1 := hp1.keep hB
        replace hp2 := hp2.keep hB
        replace hb1 := hb1.keep hB
        replace hb2 := hb2.keep hB
        have HX := Lib.hid hx
        have HY := Lib.hid hy
        obtain ⟨xk, xp, xps, xb⟩ := x
        obtain ⟨yk, yp, yps, yb⟩ := y
        simp only at c1 c2 d1 d2 hp1 hp2 hb1 hb2 hp1l
        obtain ⟨pA1, pC1, rfl⟩ := hp1.form
        obtain ⟨pA2, pC2, rfl⟩ := hb1.form
        obtain ⟨pA3, pC3, rfl⟩ := hp2.form
        obtain ⟨pA4, pC4, rfl⟩ := hb2.form
        have hi1 : (k : Int) < (la.length : Int) := by omega
        have hi2 : (k : Int) < (lb.length : Int) := by omega
        clear hA hA' hg hg' hx hy
        have no : ∀ (w9 : World), Below w.heap.size w w9 → (⟨xk, xp, xps, xb⟩ : Bk) ≠ ⟨yk, yp, yps, yb⟩ → Ending.returned (.bool false) = .returned (.bool (la == lb)) ∧ Below w.heap.size w w9 := fun w9 h9 hne => by
          refine ⟨ret_bool ?_, h9⟩
          rw [eq_comm, beq_eq_false_iff_ne]
          rintro rfl
          exact hne (HX.out.symm.trans HY.out)
        have NO := Lib.hid no
        clear no
        have hBw := fun (o o' : Obj) => bthen hB (al2 (w := wo) (o := o) (o' := o'))
        have HBW := Lib.hid hBw
        clear hBw
        by_cases h1 : xk = yk
        case neg =>
          have q1 : (xk != yk) = true := by simp [h1]
          have H1 := Lib.hid h1
          clear h1
          go_wp2
          go_quiet (fail)
          go_wp2
          go_ret
          exact NO.out _ (below_drewN (HBW.out _ _) _) (fun h => H1.out (by injection h))
        subst h1
        have q1 : (xk != xk) = false := by simp
        by_cases h2 : xp = yp
        case neg =>
          have q2 : (xp != yp) = true := by simp [h2]
          have H2 := Lib.hid h2
          clear h2
          go_wp2
          go_quiet (fail)
          go_wp2
          go_ret
          exact NO.out _ (below_drewN (HBW.out _ _) _) (fun h => H2.out (by injection h))
        subst h2
        have q2 : (xp != xp) = false := by simp
        by_cases h3 : xps.length = yps.length
        case neg =>
          have q3 : ((xps.length : Int) != (yps.length : Int)) = true := by rw [bne_iff_ne]; omega
          have H3 := Lib.hid h3
          clear h3
          go_wp2
          go_quiet (fail)
          go_wp2
          go_ret
          exact NO.out _ (below_drewN (HBW.out _ _) _) (fun h => H3.out (by injection h with _ _ h _; rw [h]))
        have q3 : ((xps.length : Int) != (yps.length : Int)) = false := by rw [bne_eq_false_iff_eq]; omega
        by_cases h4 : xb.length = yb.length
        case neg =>
          have q4 : ((xb.length : Int) != (yb.length : Int)) = true := by rw [bne_iff_ne]; omega
          have H4 := Lib.hid h4
          clear h4 h3
          go_wp2
          go_quiet (fail)
          go_wp2
          go_ret
          exact NO.out _ (below_drewN (HBW.out _ _) _) (fun h => H4.out (by injection h with _ _ _ h; rw [h]))
        have q4 : ((xb.length : Int) != (yb.length : Int)) = false := by rw [bne_eq_false_iff_eq]; omega
        have H4 := Lib.hid h4
        clear h4
        have fin : ∀ (w9 : World), Below wo.heap.size wo w9 → (xps = yps) → (∀ j, j < xb.length → xb.getD j default = yb.getD j default) → Below w.heap.size w w9 ∧ (w9.cell? ⟨w.heap.size, 0, none⟩ = some (.slice (some ⟨g, 0, none⟩) la.length C)) ∧ (w9.cell? ⟨w.heap.size + 1, 0, none⟩ = some (.slice (some ⟨g', 0, none⟩) lb.length C')) ∧ ∀ j, j < k + 1 → la.getD j default = lb.getD j default := fun w9 h9 hps hbs => by
          refine ⟨bthen hB h9, cell_later h9 ca, cell_later h9 cb, fun j hj => ?_⟩
          rcases Nat.lt_succ_iff_lt_or_eq.1 hj with h | rfl
          · exact HP.out j h
          · rw [HX.out, HY.out, hps]
            congr 1
            refine List.ext_getElem H4.out fun i h1 h2 => ?_
            have := hbs i h1
            simpa [List.getD, h1, h2] using this
        have FIN := Lib.hid fin
        clear fin
        have HB1 := Lib.hid hb1
        have HB2 := Lib.hid hb2
        have HC := Lib.hid (And.intro hB (And.intro ca cb))
        have par : (xps = [] ∧ yps = []) ∨ ∃ u v, xps = [u] ∧ yps = [v] := by
          match xps, yps, h3, hp1l with
          | [], [], _, _ => exact .inl ⟨rfl, rfl⟩
          | [u], [v], _, _ => exact .inr ⟨u, v, rfl, rfl⟩
        rcases par with ⟨rfl, rfl⟩ | ⟨u, v, rfl, rfl⟩
        · have hps : True := trivial
          clear h3 hp1l
          go_wp2
          go_quiet (fail)
          go_wp2
          go_loopw [8] (fun i wi => ∃ j : Nat, j ≤ xb.length ∧ i = .int .i64 j ∧ Below wo.heap.size wo wi ∧ wi.cell? ⟨wo.heap.size, 3, none⟩ = some (.slice pA2 xb.length pC2) ∧ wi.cell? ⟨wo.heap.size + 1, 3, none⟩ = some (.slice pA4 yb.length pC4) ∧ ∀ q, q < j → xb.getD q default = yb.getD q default) (fun i _ => xb.length - (intOf i).toNat)
          case atStart => exact ⟨0, Nat.zero_le _, rfl, below_drewN al2 _, by simp [go_sem], by simp [go_sem], fun j hj => absurd hj (Nat.not_lt_zero _)⟩
          case round =>
            clear ca cb hB
            obtain ⟨j, hj, rfl, hBi, ea, eb, hpj⟩ := hrel
            have HPJ := Lib.hid hpj
            have HBI := Lib.hid hBi
            clear hpj
            by_cases hjl : j < xb.length
            · have hjy : j < yb.length := by have := H4.out; omega
              obtain ⟨_, _, g3, e3, _, m3, hA3, hg3, hs3, _⟩ := (HB1.out.keep hBi).rd
              obtain ⟨_, _, g4, e4, _, m4, hA4, hg4, hs4, _⟩ := (HB2.out.keep hBi).rd
              simp only [Value.slice.injEq] at e3 e4
              obtain ⟨rfl, _, rfl⟩ := e3
              obtain ⟨rfl, _, rfl⟩ := e4
              obtain rfl := hA3 (by omega)
              obtain rfl := hA4 (by omega)
              obtain ⟨s1, s2, s3, s4⟩ := hs3 j hjl
              obtain ⟨r1, r2, r3, r4⟩ := hs4 j hjy
              generalize hsx : xb.getD j default = X at *
              generalize hsy : yb.getD j default = Y at *
              have HSX := Lib.hid hsx
              have HSY := Lib.hid hsy
              obtain ⟨Xk, Xt, Xa, Xb⟩ := X
              obtain ⟨Yk, Yt, Ya, Yb⟩ := Y
              simp only at s1 s2 s3 s4 r1 r2 r3 r4
              unfold maxLen at m3 m4
              have hj1 : (j : Int) < (xb.length : Int) := by omega
              have hj2 : (j : Int) < (yb.length : Int) := by omega
              clear hA3 hA4 hg3 hg4 hs3 hs4 hsx hsy
              by_cases hxy : Xk = Yk ∧ Xt = Yt ∧ Xa = Ya ∧ Xb = Yb
              · obtain ⟨rfl, rfl, rfl, rfl⟩ := hxy
                go_wp2
                go_quiet (fail)
                go_wp2
                go_roundw
                case rel => exact ⟨j + 1, by omega, by go_num, below_drewN HBI.out _, ea, eb, fun q hq => by
                  rcases Nat.lt_succ_iff_lt_or_eq.1 hq with h | rfl
                  · exact HPJ.out q h
                  · rw [HSX.out, HSY.out]⟩
                case measure => simp [intOf]; omega
              · have HE := Lib.hid hxy
                have HNE := Lib.hid (show xb ≠ yb from fun h => by
                  have h9 := HSX.out.symm.trans ((congrArg (fun l : List St => l.getD j default) h).trans HSY.out)
                  simp only [St.mk.injEq] at h9
                  exact HE.out h9)
                cases b1 : (Xk == Yk) <;> cases b2 : (Xt == Yt) <;> cases b3 : (Xa == Ya) <;> cases b4 : (Xb == Yb)
                case true.true.true.true => exact absurd ⟨beq_iff_eq.1 b1, beq_iff_eq.1 b2, beq_iff_eq.1 b3, beq_iff_eq.1 b4⟩ hxy
                all_goals
                  clear hxy
                  go_wp2
                  go_quiet (fail)
                  go_wp2
                  go_ret
                  exact NO.out _ (below_drewN (bthen HC.out.1 HBI.out) _) (fun h => HNE.out (by injection h))
            · obtain rfl : j = xb.length := by omega
              go_wp2
              go_roundw
              case rel =>
                obtain ⟨f1, f2, f3, f4⟩ := FIN.out _ HBI.out (by first | rfl | trivial) HPJ.out
                exact ⟨k + 1, by omega, by go_num, f1, f2, f3, f4⟩
              case measure => simp [intOf]; omega
        · obtain ⟨pA5, pC5, gp1, e5, _, pc5, hA5, hg5, hcell5, _⟩ := hp1.rd
          obtain ⟨pA6, pC6, gp2, e6, _, pc6, hA6, hg6, hcell6, _⟩ := hp2.rd
          obtain rfl := hA5 (by simp)
          obtain rfl := hA6 (by simp)
          simp only [Value.slice.injEq] at e5 e6
          obtain ⟨rfl, _, rfl⟩ := e5
          obtain ⟨rfl, _, rfl⟩ := e6
          have p1 := hcell5 0 (by simp)
          have p2 := hcell6 0 (by simp)
          have gw1 := World.block_lt_of_cell? _ _ p1
          have gw2 := World.block_lt_of_cell? _ _ p2
          simp only [List.getD_cons_zero] at p1 p2 gw1 gw2
          simp only [List.length_cons, List.length_nil, Nat.reduceAdd] at c3 d3 p1 p2
          clear q3
          unfold maxLen at pc5 pc6
          clear hA5 hA6 hg5 hg6 hcell5 hcell6 hp1 hp2 h3 hp1l
          by_cases h5 : u = v
          case neg =>
            have q5 : (u != v) = true := by simp [h5]
            have H5 := Lib.hid h5
            clear h5
            go_wp2
            go_quiet (fail)
            go_wp2
            go_ret
            exact NO.out _ (below_drewN (HBW.out _ _) _) (fun h => H5.out (by injection h with _ _ h _; injection h))
          subst h5
          have q5 : (u != u) = false := by simp
          go_wp2
          go_quiet (fail)
          go_wp2
          go_loopw [8] (fun i wi => ∃ j : Nat, j ≤ xb.length ∧ i = .int .i64 j ∧ Below wo.heap.size wo wi ∧ wi.cell? ⟨wo.heap.size, 3, none⟩ = some (.slice pA2 xb.length pC2) ∧ wi.cell? ⟨wo.heap.size + 1, 3, none⟩ = some (.slice pA4 yb.length pC4) ∧ ∀ q, q < j → xb.getD q default = yb.getD q default) (fun i _ => xb.length - (intOf i).toNat)
          case atStart => exact ⟨0, Nat.zero_le _, rfl, below_drewN al2 _, by simp [go_sem], by simp [go_sem], fun j hj => absurd hj (Nat.not_lt_zero _)⟩
          case round =>
            clear ca cb hB
            obtain ⟨j, hj, rfl, hBi, ea, eb, hpj⟩ := hrel
            have HPJ := Lib.hid hpj
            have HBI := Lib.hid hBi
            clear hpj
            by_cases hjl : j < xb.length
            · have hjy : j < yb.length := by have := H4.out; omega
              obtain ⟨_, _, g3, e3, _, m3, hA3, hg3, hs3, _⟩ := (HB1.out.keep hBi).rd
              obtain ⟨_, _, g4, e4, _, m4, hA4, hg4, hs4, _⟩ := (HB2.out.keep hBi).rd
              simp only [Value.slice.injEq] at e3 e4
              obtain ⟨rfl, _, rfl⟩ := e3
              obtain ⟨rfl, _, rfl⟩ := e4
              obtain rfl := hA3 (by omega)
              obtain rfl := hA4 (by omega)
              obtain ⟨s1, s2, s3, s4⟩ := hs3 j hjl
              obtain ⟨r1, r2, r3, r4⟩ := hs4 j hjy
              generalize hsx : xb.getD j default = X at *
              generalize hsy : yb.getD j default = Y at *
              have HSX := Lib.hid hsx
              have HSY := Lib.hid hsy
              obtain ⟨Xk, Xt, Xa, Xb⟩ := X
              obtain ⟨Yk, Yt, Ya, Yb⟩ := Y
              simp only at s1 s2 s3 s4 r1 r2 r3 r4
              unfold maxLen at m3 m4
              have hj1 : (j : Int) < (xb.length : Int) := by omega
              have hj2 : (j : Int) < (yb.length : Int) := by omega
              clear hA3 hA4 hg3 hg4 hs3 hs4 hsx hsy
              by_cases hxy : Xk = Yk ∧ Xt = Yt ∧ Xa = Ya ∧ Xb = Yb
              · obtain ⟨rfl, rfl, rfl, rfl⟩ := hxy
                go_wp2
                go_quiet (fail)
                go_wp2
                go_roundw
                case rel => exact ⟨j + 1, by omega, by go_num, below_drewN HBI.out _, ea, eb, fun q hq => by
                  rcases Nat.lt_succ_iff_lt_or_eq.1 hq with h | rfl
                  · exact HPJ.out q h
                  · rw [HSX.out, HSY.out]⟩
                case measure => simp [intOf]; omega
              · have HE := Lib.hid hxy
                have HNE := Lib.hid (show xb ≠ yb from fun h => by
                  have h9 := HSX.out.symm.trans ((congrArg (fun l : List St => l.getD j default) h).trans HSY.out)
                  simp only [St.mk.injEq] at h9
                  exact HE.out h9)
                cases b1 : (Xk == Yk) <;> cases b2 : (Xt == Yt) <;> cases b3 : (Xa == Ya) <;> cases b4 : (Xb == Yb)
                case true.true.true.true => exact absurd ⟨beq_iff_eq.1 b1, beq_iff_eq.1 b2, beq_iff_eq.1 b3, beq_iff_eq.1 b4⟩ hxy
                all_goals
                  clear hxy
                  go_wp2
                  go_quiet (fail)
                  go_wp2
                  go_ret
                  exact NO.out _ (below_drewN (bthen HC.out.1 HBI.out) _) (fun h => HNE.out (by injection h))
            · obtain rfl : j = xb.length := by omega
              go_wp2
              go_roundw
              case rel =>
                obtain ⟨f1, f2, f3, f4⟩ := FIN.out _ HBI.out (by first | rfl | trivial) HPJ.out
                exact ⟨k + 1, by omega, by go_num, f1, f2, f3, f4⟩
              case measure => simp [intOf]; omega
      · go_wp2
        go_ret
        refine ⟨ret_bool ?_, hB⟩
        obtain rfl : k = la.length := by omega
        rw [eq_comm, beq_iff_eq]
        refine List.ext_getElem H.out fun i h1 h2 => ?_
        have := HP.out i h1
        simpa [List.getD, h1, h2] using this
  · have hb0 : ((la.length : Int) != (lb.length : Int)) = true := by simp; omega
    go_enter Try.func63, Try.ntmps63
    go_wp2
    go_ret
    refine ⟨ret_bool ?_, al2⟩
    rw [eq_comm, beq_eq_false_iff_ne]
    intro h
    exact absurd (congrArg _ h) hl

end Go.Proofs.Ytiemhadpepbcjaa

namespace Go.Proofs.Ytiemhadpepbcjaa
open Go.RowKit
set_option linter.unusedVariables false

set_option maxRecDepth 100000 in
set_option maxHeartbeats 1000000 in
theorem S_sameTable (va vb : Value) (ua ub : List Value) (la lb : List (List Int)) (l1 l2 : Nat) (w : World) (ha : RowsOf w l1 va ua la) (hb : RowsOf w l2 vb ub lb) (hl : la.length = lb.length) (hin : ∀ i, i < la.length → (la.getD i []).length = (lb.getD i []).length) :
    Calls Try.prog 64 #[va, vb] w fun e w' => e = .returned (.bool (la == lb)) ∧ Below w.heap.size w w' := by
  obtain ⟨A, C, g, rfl, hn, hc, hA, hg, hcell, hf⟩ := own_rd ha.1
  obtain ⟨A', C', g', rfl, hn', hc', hA', hg', hcell', hf'⟩ := own_rd hb.1
  have hia := ha.2.1
  have hib := hb.2.1
  have HIA := Lib.hid hia
  have HIB := Lib.hid hib
  have HIN := Lib.hid hin
  have H := Lib.hid hl
  have HC1 := Lib.hid hcell
  have HC2 := Lib.hid hcell'
  have hn1 : la.length ≤ lb.length := by omega
  have hbl : ((la.length : Int) == (lb.length : Int)) = true := by rw [hl]; simp
  clear ha hb hf hf' hia hib hin hl hcell hcell'
  unfold maxLen at hc hc'
  go_enter Try.func64, Try.ntmps64
  go_wp2
  go_loopw [5] (fun i wr => ∃ k : Nat, k ≤ la.length ∧ i = .int .i64 k ∧ Below w.heap.size w wr ∧ ∀ j, j < k → la.getD j [] = lb.getD j []) (fun i _ => la.length - (intOf i).toNat)
  case atStart => exact ⟨0, Nat.zero_le _, rfl, Below.refl _ _, fun j hj => absurd hj (Nat.not_lt_zero _)⟩
  case round =>
    obtain ⟨k, hk, rfl, hB, hp⟩ := hrel
    obtain ⟨wo, hwo⟩ : ∃ wo : World, wo = wr := ⟨_, rfl⟩
    subst hwo
    have HP := Lib.hid hp
    clear hp
    by_cases hlt : k < la.length
    · have c1 := HC1.out k (by omega)
      have d1 := HC2.out k (by omega)
      have hp1 := HIA.out k hlt
      have hp2 := HIB.out k (by omega)
      have hxy := HIN.out k hlt
      have hgl := (hg (by omega)).2
      have hgl' := (hg' (by omega)).2
      rw [← hB.cell (p := ⟨g, _, none⟩) hgl] at c1
      rw [← hB.cell (p := ⟨g', _, none⟩) hgl'] at d1
      obtain rfl := hA (by omega)
      obtain rfl := hA' (by omega)
      replace hp1 := hp1.keep hB
      replace hp2 := hp2.keep hB
      generalize hx : la.getD k [] = x at hp1 hxy
      generalize hy : lb.getD k [] = y at hp2 hxy
      have HX := Lib.hid hx
      have HY := Lib.hid hy
      obtain ⟨A1, C1, gx, e1, _, cx, hA1, hgx, hcx, _⟩ := hp1.rd
      obtain ⟨A2, C2, gy, e2, _, cy, hA2, hgy, hcy, _⟩ := hp2.rd
      rw [e1] at c1
      rw [e2] at d1
      have HCX := Lib.hid hcx
      have HCY := Lib.hid hcy
      have hgw := World.block_lt_of_cell? _ _ c1
      have hgw' := World.block_lt_of_cell? _ _ d1
      simp only at hgw hgw'
      have hi1 : (k : Int) < (la.length : Int) := by omega
      have hi2 : (k : Int) < (lb.length : Int) := by omega
      have hi0 : (0 : Int) ≤ (k : Int) := by omega
      unfold maxLen at cx cy
      have HXY := Lib.hid hxy
      clear hA hA' hg hg' hx hy e1 e2 hp1 hp2 hcx hcy hgl hgl' hxy
      go_wp2
      go_loopw [6] (fun i wi => ∃ m : Nat, m ≤ x.length ∧ i = .int .i64 m ∧ Below wo.heap.size wo wi ∧ ∀ q, q < m → x.getD q 0 = y.getD q 0) (fun i _ => x.length - (intOf i).toNat)
      case atStart => exact ⟨0, Nat.zero_le _, rfl, Below.refl _ _, fun j hj => absurd hj (Nat.not_lt_zero _)⟩
      case round =>
        obtain ⟨m, hm, rfl, hBi, hpm⟩ := hrel
        have HPM := Lib.hid hpm
        clear hpm
        have c2 := cell_later hBi c1
        have d2 := cell_later hBi d1
        by_cases hml : m < x.length
        · have hmy : m < y.length := by have := HXY.out; omega
          have x1 := cell_later hBi (HCX.out m hml)
          have y1 := cell_later hBi (HCY.out m hmy)
          obtain rfl := hA1 (by omega)
          obtain rfl := hA2 (by omega)
          generalize hxv : x.getD m 0 = X at x1
          generalize hyv : y.getD m 0 = Y at y1
          have HXV := Lib.hid hxv
          have HYV := Lib.hid hyv
          have hj1 : (m : Int) < (x.length : Int) := by omega
          have hj2 : (m : Int) < (y.length : Int) := by omega
          have hj0 : (0 : Int) ≤ (m : Int) := by omega
          clear hxv hyv hA1 hA2 hgx hgy
          by_cases hXY : X = Y
          · subst hXY
            have hb1 : (X != X) = false := by simp
            go_wp2
            go_quiet (fail)
            go_wp2
            go_roundw
            case rel => exact ⟨m + 1, by omega, by go_num, below_drewN hBi _, fun j hj => by
              rcases Nat.lt_succ_iff_lt_or_eq.1 hj with h | rfl
              · exact HPM.out j h
              · rw [HXV.out, HYV.out]⟩
            case measure => simp [intOf]; omega
          · have HE := Lib.hid hXY
            have hb1 : (X != Y) = true := by simp [hXY]
            clear hXY
            go_wp2
            go_quiet (fail)
            go_wp2
            go_ret
            refine ⟨ret_bool ?_, below_drewN (hB.trans (hBi.mono hB.size)) _⟩
            rw [eq_comm, beq_eq_false_iff_ne]
            rintro rfl
            exact HE.out (by rw [← HXV.out, ← HYV.out, ← HX.out, ← HY.out])
        · obtain rfl : m = x.length := by omega
          go_wp2
          go_roundw
          case rel => exact ⟨k + 1, by omega, by go_num, hB.trans (hBi.mono hB.size), fun j hj => by
            rcases Nat.lt_succ_iff_lt_or_eq.1 hj with h | rfl
            · exact HP.out j h
            · rw [HX.out, HY.out]
              refine List.ext_getElem HXY.out fun i h1 h2 => ?_
              have := HPM.out i h1
              simpa [List.getD, h1, h2] using this⟩
          case measure => simp [intOf]; omega
    · obtain rfl : k = la.length := by omega
      go_wp2
      go_ret
      refine ⟨ret_bool ?_, hB⟩
      rw [eq_comm, beq_iff_eq]
      refine List.ext_getElem H.out fun i h1 h2 => ?_
      have := HP.out i h1
      simpa [List.getD, h1, h2] using this

def rSame (p q : Pr) : Bool := (validP p && validP q) && (bareP p == bareP q && ownRows p p.length == ownRows q q.length)
theorem ownRows_rows {p q : Pr} (h : p.length = q.length) : (ownRows p p.length).length = (ownRows q q.length).length ∧ ∀ i, i < (ownRows p p.length).length → ((ownRows p p.length).getD i []).length = ((ownRows q q.length).getD i []).length := by
  rw [ownRows_len, ownRows_len]
  refine ⟨h, fun i hi => ?_⟩
  rw [ownRows_getD p _ i hi, ownRows_getD q _ i (by omega), ownTo_len, ownTo_len]
theorem bareP_len (p : Pr) : (bareP p).length = p.length := by simp [bareP]
theorem bareP_pars {p : Pr} (hs : shape p = true) : ∀ i, i < (bareP p).length → ((bareP p).getD i default).params.length ≤ 1 := fun i hi => by
  rw [bareP_len] at hi
  have h1 := (shape_params hs i (by omega) (by omega)).1
  rw [bk_nat] at h1
  have e : (bareP p).getD i default = bareB (p.getD i default) := by simp [bareP, List.getD, hi]
  rw [e]
  exact h1
theorem small_of_shape {p : Pr} (hs : shape p = true) : p.length ≤ 1000 ∧ ∀ b, b < p.length → (p.getD b default).body.length ≤ 1000 ∧ (p.getD b default).params.length ≤ 1000 := by
  have hl := shape_len hs
  refine ⟨by omega, fun b hb => ?_⟩
  have h1 := shape_body hs b (by omega) (by omega)
  have h2 := (shape_params hs b (by omega) (by omega)).1
  rw [bk_nat] at h1 h2
  exact ⟨by omega, by omega⟩
theorem rBare_of_shape {p : Pr} (hs : shape p = true) : rBare p = bareP p := by unfold rBare; rw [hs]; rfl

set_option maxRecDepth 100000 in
set_option maxHeartbeats 2000000 in
theorem S_SameMeaning (v u : Value) (p q : Pr) (l1 l2 : Nat) (w : World) (hv : Prog w l1 v p) (hu : Prog w l2 u q) :
    Calls Try.prog 27 #[v, u] w fun e w' => e = .returned (.bool (rSame p q)) ∧ Below w.heap.size w w' := by
  obtain ⟨sp, rfl, hv⟩ := hv
  obtain ⟨sq, rfl, hu⟩ := hu
  have HV := Lib.hid hv
  have HU := Lib.hid hu
  obtain ⟨A, C, rfl⟩ := hv.form
  obtain ⟨A2, C2, rfl⟩ := hu.form
  clear hv hu
  cases hp : validP p
  · have HP := Lib.hid hp
    clear hp
    go_enter Try.func27, Try.ntmps27
    go_wp2
    obtain ⟨W1, hW1⟩ : ∃ W1 : World, W1 = ((w.alloc (.cells #[(.slice A p.length C)] 25)).alloc (.cells #[(.slice A2 q.length C2)] 25)).drew := ⟨_, rfl⟩
    have hB : Below w.heap.size w W1 := by rw [hW1]; exact al2.drew
    have c0 : W1.cell? ⟨w.heap.size, 0, none⟩ = some (.slice A p.length C) := by rw [hW1]; simp [go_sem]
    have c1 : W1.cell? ⟨w.heap.size + 1, 0, none⟩ = some (.slice A2 q.length C2) := by rw [hW1]; simp [go_sem]
    have hcur := below0 W1
    have hS := And.intro c0 c1
    refine wp_region_T 21 (by kernel_rfl) (fun w' => w'.cell? ⟨w.heap.size, 0, none⟩ = some (.slice A p.length C) ∧ w'.cell? ⟨w.heap.size + 1, 0, none⟩ = some (.slice A2 q.length C2)) ?_
    rw [← hW1]
    clear hW1
    refine wpAnyT_take (i := 0) (oi := ⟨_, _, _, _, _, _⟩) (v := ?vr1_0) (by kernel_rfl) (by decide) rfl (by kernel_rfl) (by kernel_rfl) (by kernel_rfl) (fun _ _ _ h => h) (Or.inl ⟨by rfl, ?hyr1_0⟩) hS ?restr1_0
    case hyr1_0 =>
      intro w' hSw
      obtain ⟨s0, s1⟩ := hSw
      go_simp
      try with_reducible rfl
    try simp only [Act.put, List.setIfInBounds_toArray, List.set_cons_zero, List.set_cons_succ]
    refine wpAnyT_ready1 (i := 1) (o := ⟨_, _, _, _, _, _⟩) (by kernel_rfl) rfl (fun KC_ hK => ?_)
    go_simp
    go_at_call 35
    refine (S_validProgram _ p l1 _ (HV.out.keep (bthen hB hcur))).mono ?_
    rintro e w2 ⟨rfl, hb⟩
    rw [HP.out]
    have hcur := bthen hcur hb
    clear hb
    have hS := And.intro (cell_later hcur c0) (cell_later hcur c1)
    refine hK _ _ (fun _ => hS) ?_
    try simp only [Act.put, List.setIfInBounds_toArray, List.set_cons_zero, List.set_cons_succ]
    refine wpAnyT_take (i := 2) (oi := ⟨_, _, _, _, _, _⟩) (v := ?vr1_2) (by kernel_rfl) (by decide) rfl (by kernel_rfl) (by kernel_rfl) (by kernel_rfl) (fun _ _ _ h => h) (Or.inl ⟨by rfl, ?hyr1_2⟩) hS ?restr1_2
    case hyr1_2 =>
      intro w' hSw
      obtain ⟨s0, s1⟩ := hSw
      go_simp
      try with_reducible rfl
    try simp only [Act.put, List.setIfInBounds_toArray, List.set_cons_zero, List.set_cons_succ]
    refine wpAnyT_take (i := 3) (oi := ⟨_, _, _, _, _, _⟩) (v := undef) (by kernel_rfl) (by decide) rfl (by kernel_rfl) (by kernel_rfl) (by kernel_rfl) (fun _ _ _ h => h) (Or.inr ⟨by first | rfl | (show (some _ == some _) = false; simp; done) | (show (some _ == some _) = false; simp; omega), rfl⟩) hS ?restr1_3
    try simp only [Act.put, List.setIfInBounds_toArray, List.set_cons_zero, List.set_cons_succ]
    refine wpAnyT_ready1 (i := 4) (o := ⟨_, _, _, _, _, _⟩) (by kernel_rfl) rfl (fun KC_ hK => ?_)
    go_simp
    refine hK _ _ (fun _ => hS) ?_
    try simp only [Act.put, List.setIfInBounds_toArray, List.set_cons_zero, List.set_cons_succ]
    refine wpAnyT_take (i := 5) (oi := ⟨_, _, _, _, _, _⟩) (v := ?vr1_5) (by kernel_rfl) (by decide) rfl (by kernel_rfl) (by kernel_rfl) (by kernel_rfl) (fun _ _ _ h => h) (Or.inl ⟨by rfl, ?hyr1_5⟩) hS ?restr1_5
    case hyr1_5 =>
      intro w' hSw
      obtain ⟨s0, s1⟩ := hSw
      go_simp
      try with_reducible rfl
    try simp only [Act.put, List.setIfInBounds_toArray, List.set_cons_zero, List.set_cons_succ]
    refine wpAnyT_take (i := 6) (oi := ⟨_, _, _, _, _, _⟩) (v := ?vr1_6) (by kernel_rfl) (by decide) rfl (by kernel_rfl) (by kernel_rfl) (by kernel_rfl) (fun _ _ _ h => h) (Or.inl ⟨by rfl, ?hyr1_6⟩) hS ?restr1_6
    case hyr1_6 =>
      intro w' hSw
      obtain ⟨s0, s1⟩ := hSw
      go_simp
      try with_reducible rfl
    try simp only [Act.put, List.setIfInBounds_toArray, List.set_cons_zero, List.set_cons_succ]
    refine wpAnyT_take (i := 7) (oi := ⟨_, _, _, _, _, _⟩) (v := undef) (by kernel_rfl) (by decide) rfl (by kernel_rfl) (by kernel_rfl) (by kernel_rfl) (fun _ _ _ h => h) (Or.inr ⟨by first | rfl | (show (some _ == some _) = false; simp; done) | (show (some _ == some _) = false; simp; omega), rfl⟩) hS ?restr1_7
    try simp only [Act.put, List.setIfInBounds_toArray, List.set_cons_zero, List.set_cons_succ]
    refine wpAnyT_take (i := 9) (oi := ⟨_, _, _, _, _, _⟩) (v := undef) (by kernel_rfl) (by decide) rfl (by kernel_rfl) (by kernel_rfl) (by kernel_rfl) (fun _ _ _ h => h) (Or.inr ⟨by first | rfl | (show (some _ == some _) = false; simp; done) | (show (some _ == some _) = false; simp; omega), rfl⟩) hS ?restr1_9
    try simp only [Act.put, List.setIfInBounds_toArray, List.set_cons_zero, List.set_cons_succ]
    refine wpAnyT_ready1 (i := 8) (o := ⟨_, _, _, _, _, _⟩) (by kernel_rfl) rfl (fun KC_ hK => ?_)
    go_simp
    refine hK _ _ (fun _ => hS) ?_
    try simp only [Act.put, List.setIfInBounds_toArray, List.set_cons_zero, List.set_cons_succ]
    refine wpAnyT_ready1 (i := 10) (o := ⟨_, _, _, _, _, _⟩) (by kernel_rfl) rfl (fun KC_ hK => ?_)
    go_simp
    refine hK _ _ (fun _ => hS) ?_
    try simp only [Act.put, List.setIfInBounds_toArray, List.set_cons_zero, List.set_cons_succ]
    refine wpAnyT_ready1 (i := 11) (o := ⟨_, _, _, _, _, _⟩) (by kernel_rfl) rfl (fun KC_ hK => ?_)
    go_simp
    refine hK _ _ (fun _ => hS) ?_
    try simp only [Act.put, List.setIfInBounds_toArray, List.set_cons_zero, List.set_cons_succ]
    refine wpAnyT_take (i := 12) (oi := ⟨_, _, _, _, _, _⟩) (v := ?vr1_12) (by kernel_rfl) (by decide) rfl (by kernel_rfl) (by kernel_rfl) (by kernel_rfl) (fun _ _ _ h => h) (Or.inl ⟨by rfl, ?hyr1_12⟩) hS ?restr1_12
    case hyr1_12 =>
      intro w' hSw
      obtain ⟨s0, s1⟩ := hSw
      go_simp
      try with_reducible rfl
    try simp only [Act.put, List.setIfInBounds_toArray, List.set_cons_zero, List.set_cons_succ]
    refine wpAnyT_take (i := 13) (oi := ⟨_, _, _, _, _, _⟩) (v := ?vr1_13) (by kernel_rfl) (by decide) rfl (by kernel_rfl) (by kernel_rfl) (by kernel_rfl) (fun _ _ _ h => h) (Or.inl ⟨by rfl, ?hyr1_13⟩) hS ?restr1_13
    case hyr1_13 =>
      intro w' hSw
      obtain ⟨s0, s1⟩ := hSw
      go_simp
      try with_reducible rfl
    try simp only [Act.put, List.setIfInBounds_toArray, List.set_cons_zero, List.set_cons_succ]
    refine wpAnyT_take (i := 14) (oi := ⟨_, _, _, _, _, _⟩) (v := undef) (by kernel_rfl) (by decide) rfl (by kernel_rfl) (by kernel_rfl) (by kernel_rfl) (fun _ _ _ h => h) (Or.inr ⟨by first | rfl | (show (some _ == some _) = false; simp; done) | (show (some _ == some _) = false; simp; omega), rfl⟩) hS ?restr1_14
    try simp only [Act.put, List.setIfInBounds_toArray, List.set_cons_zero, List.set_cons_succ]
    refine wpAnyT_take (i := 16) (oi := ⟨_, _, _, _, _, _⟩) (v := undef) (by kernel_rfl) (by decide) rfl (by kernel_rfl) (by kernel_rfl) (by kernel_rfl) (fun _ _ _ h => h) (Or.inr ⟨by first | rfl | (show (some _ == some _) = false; simp; done) | (show (some _ == some _) = false; simp; omega), rfl⟩) hS ?restr1_16
    try simp only [Act.put, List.setIfInBounds_toArray, List.set_cons_zero, List.set_cons_succ]
    refine wpAnyT_ready1 (i := 15) (o := ⟨_, _, _, _, _, _⟩) (by kernel_rfl) rfl (fun KC_ hK => ?_)
    go_simp
    refine hK _ _ (fun _ => hS) ?_
    try simp only [Act.put, List.setIfInBounds_toArray, List.set_cons_zero, List.set_cons_succ]
    refine wpAnyT_ready1 (i := 17) (o := ⟨_, _, _, _, _, _⟩) (by kernel_rfl) rfl (fun KC_ hK => ?_)
    go_simp
    refine hK _ _ (fun _ => hS) ?_
    try simp only [Act.put, List.setIfInBounds_toArray, List.set_cons_zero, List.set_cons_succ]
    refine wpAnyT_ready1 (i := 18) (o := ⟨_, _, _, _, _, _⟩) (by kernel_rfl) rfl (fun KC_ hK => ?_)
    go_simp
    refine hK _ _ (fun _ => hS) ?_
    try simp only [Act.put, List.setIfInBounds_toArray, List.set_cons_zero, List.set_cons_succ]
    refine wpAnyT_take (i := 19) (oi := ⟨_, _, _, _, _, _⟩) (v := ?vr1_19) (by kernel_rfl) (by decide) rfl (by kernel_rfl) (by kernel_rfl) (by kernel_rfl) (fun _ _ _ h => h) (Or.inl ⟨by rfl, ?hyr1_19⟩) hS ?restr1_19
    case hyr1_19 =>
      intro w' hSw
      obtain ⟨s0, s1⟩ := hSw
      go_simp
      try with_reducible rfl
    try simp only [Act.put, List.setIfInBounds_toArray, List.set_cons_zero, List.set_cons_succ]
    refine wpAnyT_take (i := 20) (oi := ⟨_, _, _, _, _, _⟩) (v := ?vr1_20) (by kernel_rfl) (by decide) rfl (by kernel_rfl) (by kernel_rfl) (by kernel_rfl) (fun _ _ _ h => h) (Or.inl ⟨by rfl, ?hyr1_20⟩) hS ?restr1_20
    case hyr1_20 =>
      intro w' hSw
      obtain ⟨s0, s1⟩ := hSw
      go_simp
      try with_reducible rfl
    try simp only [Act.put, List.setIfInBounds_toArray, List.set_cons_zero, List.set_cons_succ]
    refine wpAnyT_done (by kernel_rfl) ?_ _
    go_wp2
    go_ret
    exact ⟨ret_bool (by unfold rSame; rw [HP.out]; simp), bthen hB hcur⟩
  have HP := Lib.hid hp
  clear hp
  cases hq : validP q
  · have HQ := Lib.hid hq
    clear hq
    go_enter Try.func27, Try.ntmps27
    go_wp2
    obtain ⟨W1, hW1⟩ : ∃ W1 : World, W1 = ((w.alloc (.cells #[(.slice A p.length C)] 25)).alloc (.cells #[(.slice A2 q.length C2)] 25)).drew := ⟨_, rfl⟩
    have hB : Below w.heap.size w W1 := by rw [hW1]; exact al2.drew
    have c0 : W1.cell? ⟨w.heap.size, 0, none⟩ = some (.slice A p.length C) := by rw [hW1]; simp [go_sem]
    have c1 : W1.cell? ⟨w.heap.size + 1, 0, none⟩ = some (.slice A2 q.length C2) := by rw [hW1]; simp [go_sem]
    have hcur := below0 W1
    have hS := And.intro c0 c1
    refine wp_region_T 21 (by kernel_rfl) (fun w' => w'.cell? ⟨w.heap.size, 0, none⟩ = some (.slice A p.length C) ∧ w'.cell? ⟨w.heap.size + 1, 0, none⟩ = some (.slice A2 q.length C2)) ?_
    rw [← hW1]
    clear hW1
    refine wpAnyT_take (i := 0) (oi := ⟨_, _, _, _, _, _⟩) (v := ?vr2_0) (by kernel_rfl) (by decide) rfl (by kernel_rfl) (by kernel_rfl) (by kernel_rfl) (fun _ _ _ h => h) (Or.inl ⟨by rfl, ?hyr2_0⟩) hS ?restr2_0
    case hyr2_0 =>
      intro w' hSw
      obtain ⟨s0, s1⟩ := hSw
      go_simp
      try with_reducible rfl
    try simp only [Act.put, List.setIfInBounds_toArray, List.set_cons_zero, List.set_cons_succ]
    refine wpAnyT_ready1 (i := 1) (o := ⟨_, _, _, _, _, _⟩) (by kernel_rfl) rfl (fun KC_ hK => ?_)
    go_simp
    go_at_call 35
    refine (S_validProgram _ p l1 _ (HV.out.keep (bthen hB hcur))).mono ?_
    rintro e w2 ⟨rfl, hb⟩
    rw [HP.out]
    have hcur := bthen hcur hb
    clear hb
    have hS := And.intro (cell_later hcur c0) (cell_later hcur c1)
    refine hK _ _ (fun _ => hS) ?_
    try simp only [Act.put, List.setIfInBounds_toArray, List.set_cons_zero, List.set_cons_succ]
    refine wpAnyT_take (i := 2) (oi := ⟨_, _, _, _, _, _⟩) (v := ?vr2_2) (by kernel_rfl) (by decide) rfl (by kernel_rfl) (by kernel_rfl) (by kernel_rfl) (fun _ _ _ h => h) (Or.inl ⟨by rfl, ?hyr2_2⟩) hS ?restr2_2
    case hyr2_2 =>
      intro w' hSw
      obtain ⟨s0, s1⟩ := hSw
      go_simp
      try with_reducible rfl
    try simp only [Act.put, List.setIfInBounds_toArray, List.set_cons_zero, List.set_cons_succ]
    refine wpAnyT_take (i := 3) (oi := ⟨_, _, _, _, _, _⟩) (v := ?vr2_3) (by kernel_rfl) (by decide) rfl (by kernel_rfl) (by kernel_rfl) (by kernel_rfl) (fun _ _ _ h => h) (Or.inl ⟨by first | rfl | (show (some _ == some _) = true; simp; done) | (show (some _ == some _) = true; simp; omega), ?hyr2_3⟩) hS ?restr2_3
    case hyr2_3 =>
      intro w' hSw
      obtain ⟨s0, s1⟩ := hSw
      go_simp
      try with_reducible rfl
    try simp only [Act.put, List.setIfInBounds_toArray, List.set_cons_zero, List.set_cons_succ]
    refine wpAnyT_ready1 (i := 4) (o := ⟨_, _, _, _, _, _⟩) (by kernel_rfl) rfl (fun KC_ hK => ?_)
    try rw [if_pos (by first | rfl | (show (some _ == some _) = true; simp; done) | (show (some _ == some _) = true; simp; omega))]
    go_simp
    go_at_call 35
    refine (S_validProgram _ q l2 _ (HU.out.keep (bthen hB hcur))).mono ?_
    rintro e w3 ⟨rfl, hb⟩
    rw [HQ.out]
    have hcur := bthen hcur hb
    clear hb
    have hS := And.intro (cell_later hcur c0) (cell_later hcur c1)
    refine hK _ _ (fun _ => hS) ?_
    try simp only [Act.put, List.setIfInBounds_toArray, List.set_cons_zero, List.set_cons_succ]
    refine wpAnyT_take (i := 5) (oi := ⟨_, _, _, _, _, _⟩) (v := ?vr2_5) (by kernel_rfl) (by decide) rfl (by kernel_rfl) (by kernel_rfl) (by kernel_rfl) (fun _ _ _ h => h) (Or.inl ⟨by rfl, ?hyr2_5⟩) hS ?restr2_5
    case hyr2_5 =>
      intro w' hSw
      obtain ⟨s0, s1⟩ := hSw
      go_simp
      try with_reducible rfl
    try simp only [Act.put, List.setIfInBounds_toArray, List.set_cons_zero, List.set_cons_succ]
    refine wpAnyT_take (i := 6) (oi := ⟨_, _, _, _, _, _⟩) (v := ?vr2_6) (by kernel_rfl) (by decide) rfl (by kernel_rfl) (by kernel_rfl) (by kernel_rfl) (fun _ _ _ h => h) (Or.inl ⟨by rfl, ?hyr2_6⟩) hS ?restr2_6
    case hyr2_6 =>
      intro w' hSw
      obtain ⟨s0, s1⟩ := hSw
      go_simp
      try with_reducible rfl
    try simp only [Act.put, List.setIfInBounds_toArray, List.set_cons_zero, List.set_cons_succ]
    refine wpAnyT_take (i := 7) (oi := ⟨_, _, _, _, _, _⟩) (v := undef) (by kernel_rfl) (by decide) rfl (by kernel_rfl) (by kernel_rfl) (by kernel_rfl) (fun _ _ _ h => h) (Or.inr ⟨by first | rfl | (show (some _ == some _) = false; simp; done) | (show (some _ == some _) = false; simp; omega), rfl⟩) hS ?restr2_7
    try simp only [Act.put, List.setIfInBounds_toArray, List.set_cons_zero, List.set_cons_succ]
    refine wpAnyT_take (i := 9) (oi := ⟨_, _, _, _, _, _⟩) (v := undef) (by kernel_rfl) (by decide) rfl (by kernel_rfl) (by kernel_rfl) (by kernel_rfl) (fun _ _ _ h => h) (Or.inr ⟨by first | rfl | (show (some _ == some _) = false; simp; done) | (show (some _ == some _) = false; simp; omega), rfl⟩) hS ?restr2_9
    try simp only [Act.put, List.setIfInBounds_toArray, List.set_cons_zero, List.set_cons_succ]
    refine wpAnyT_ready1 (i := 8) (o := ⟨_, _, _, _, _, _⟩) (by kernel_rfl) rfl (fun KC_ hK => ?_)
    go_simp
    refine hK _ _ (fun _ => hS) ?_
    try simp only [Act.put, List.setIfInBounds_toArray, List.set_cons_zero, List.set_cons_succ]
    refine wpAnyT_ready1 (i := 10) (o := ⟨_, _, _, _, _, _⟩) (by kernel_rfl) rfl (fun KC_ hK => ?_)
    go_simp
    refine hK _ _ (fun _ => hS) ?_
    try simp only [Act.put, List.setIfInBounds_toArray, List.set_cons_zero, List.set_cons_succ]
    refine wpAnyT_ready1 (i := 11) (o := ⟨_, _, _, _, _, _⟩) (by kernel_rfl) rfl (fun KC_ hK => ?_)
    go_simp
    refine hK _ _ (fun _ => hS) ?_
    try simp only [Act.put, List.setIfInBounds_toArray, List.set_cons_zero, List.set_cons_succ]
    refine wpAnyT_take (i := 12) (oi := ⟨_, _, _, _, _, _⟩) (v := ?vr2_12) (by kernel_rfl) (by decide) rfl (by kernel_rfl) (by kernel_rfl) (by kernel_rfl) (fun _ _ _ h => h) (Or.inl ⟨by rfl, ?hyr2_12⟩) hS ?restr2_12
    case hyr2_12 =>
      intro w' hSw
      obtain ⟨s0, s1⟩ := hSw
      go_simp
      try with_reducible rfl
    try simp only [Act.put, List.setIfInBounds_toArray, List.set_cons_zero, List.set_cons_succ]
    refine wpAnyT_take (i := 13) (oi := ⟨_, _, _, _, _, _⟩) (v := ?vr2_13) (by kernel_rfl) (by decide) rfl (by kernel_rfl) (by kernel_rfl) (by kernel_rfl) (fun _ _ _ h => h) (Or.inl ⟨by rfl, ?hyr2_13⟩) hS ?restr2_13
    case hyr2_13 =>
      intro w' hSw
      obtain ⟨s0, s1⟩ := hSw
      go_simp
      try with_reducible rfl
    try simp only [Act.put, List.setIfInBounds_toArray, List.set_cons_zero, List.set_cons_succ]
    refine wpAnyT_take (i := 14) (oi := ⟨_, _, _, _, _, _⟩) (v := undef) (by kernel_rfl) (by decide) rfl (by kernel_rfl) (by kernel_rfl) (by kernel_rfl) (fun _ _ _ h => h) (Or.inr ⟨by first | rfl | (show (some _ == some _) = false; simp; done) | (show (some _ == some _) = false; simp; omega), rfl⟩) hS ?restr2_14
    try simp only [Act.put, List.setIfInBounds_toArray, List.set_cons_zero, List.set_cons_succ]
    refine wpAnyT_take (i := 16) (oi := ⟨_, _, _, _, _, _⟩) (v := undef) (by kernel_rfl) (by decide) rfl (by kernel_rfl) (by kernel_rfl) (by kernel_rfl) (fun _ _ _ h => h) (Or.inr ⟨by first | rfl | (show (some _ == some _) = false; simp; done) | (show (some _ == some _) = false; simp; omega), rfl⟩) hS ?restr2_16
    try simp only [Act.put, List.setIfInBounds_toArray, List.set_cons_zero, List.set_cons_succ]
    refine wpAnyT_ready1 (i := 15) (o := ⟨_, _, _, _, _, _⟩) (by kernel_rfl) rfl (fun KC_ hK => ?_)
    go_simp
    refine hK _ _ (fun _ => hS) ?_
    try simp only [Act.put, List.setIfInBounds_toArray, List.set_cons_zero, List.set_cons_succ]
    refine wpAnyT_ready1 (i := 17) (o := ⟨_, _, _, _, _, _⟩) (by kernel_rfl) rfl (fun KC_ hK => ?_)
    go_simp
    refine hK _ _ (fun _ => hS) ?_
    try simp only [Act.put, List.setIfInBounds_toArray, List.set_cons_zero, List.set_cons_succ]
    refine wpAnyT_ready1 (i := 18) (o := ⟨_, _, _, _, _, _⟩) (by kernel_rfl) rfl (fun KC_ hK => ?_)
    go_simp
    refine hK _ _ (fun _ => hS) ?_
    try simp only [Act.put, List.setIfInBounds_toArray, List.set_cons_zero, List.set_cons_succ]
    refine wpAnyT_take (i := 19) (oi := ⟨_, _, _, _, _, _⟩) (v := ?vr2_19) (by kernel_rfl) (by decide) rfl (by kernel_rfl) (by kernel_rfl) (by kernel_rfl) (fun _ _ _ h => h) (Or.inl ⟨by rfl, ?hyr2_19⟩) hS ?restr2_19
    case hyr2_19 =>
      intro w' hSw
      obtain ⟨s0, s1⟩ := hSw
      go_simp
      try with_reducible rfl
    try simp only [Act.put, List.setIfInBounds_toArray, List.set_cons_zero, List.set_cons_succ]
    refine wpAnyT_take (i := 20) (oi := ⟨_, _, _, _, _, _⟩) (v := ?vr2_20) (by kernel_rfl) (by decide) rfl (by kernel_rfl) (by kernel_rfl) (by kernel_rfl) (fun _ _ _ h => h) (Or.inl ⟨by rfl, ?hyr2_20⟩) hS ?restr2_20
    case hyr2_20 =>
      intro w' hSw
      obtain ⟨s0, s1⟩ := hSw
      go_simp
      try with_reducible rfl
    try simp only [Act.put, List.setIfInBounds_toArray, List.set_cons_zero, List.set_cons_succ]
    refine wpAnyT_done (by kernel_rfl) ?_ _
    go_wp2
    go_ret
    exact ⟨ret_bool (by unfold rSame; rw [HP.out, HQ.out]; simp), bthen hB hcur⟩
  have HQ := Lib.hid hq
  clear hq
  cases he : (bareP p == bareP q)
  · have HE := Lib.hid he
    clear he
    go_enter Try.func27, Try.ntmps27
    go_wp2
    obtain ⟨W1, hW1⟩ : ∃ W1 : World, W1 = ((w.alloc (.cells #[(.slice A p.length C)] 25)).alloc (.cells #[(.slice A2 q.length C2)] 25)).drew := ⟨_, rfl⟩
    have hB : Below w.heap.size w W1 := by rw [hW1]; exact al2.drew
    have c0 : W1.cell? ⟨w.heap.size, 0, none⟩ = some (.slice A p.length C) := by rw [hW1]; simp [go_sem]
    have c1 : W1.cell? ⟨w.heap.size + 1, 0, none⟩ = some (.slice A2 q.length C2) := by rw [hW1]; simp [go_sem]
    have hcur := below0 W1
    have hS := And.intro c0 c1
    refine wp_region_T 21 (by kernel_rfl) (fun w' => w'.cell? ⟨w.heap.size, 0, none⟩ = some (.slice A p.length C) ∧ w'.cell? ⟨w.heap.size + 1, 0, none⟩ = some (.slice A2 q.length C2)) ?_
    rw [← hW1]
    clear hW1
    refine wpAnyT_take (i := 0) (oi := ⟨_, _, _, _, _, _⟩) (v := ?vr3_0) (by kernel_rfl) (by decide) rfl (by kernel_rfl) (by kernel_rfl) (by kernel_rfl) (fun _ _ _ h => h) (Or.inl ⟨by rfl, ?hyr3_0⟩) hS ?restr3_0
    case hyr3_0 =>
      intro w' hSw
      obtain ⟨s0, s1⟩ := hSw
      go_simp
      try with_reducible rfl
    try simp only [Act.put, List.setIfInBounds_toArray, List.set_cons_zero, List.set_cons_succ]
    refine wpAnyT_ready1 (i := 1) (o := ⟨_, _, _, _, _, _⟩) (by kernel_rfl) rfl (fun KC_ hK => ?_)
    go_simp
    go_at_call 35
    refine (S_validProgram _ p l1 _ (HV.out.keep (bthen hB hcur))).mono ?_
    rintro e w2 ⟨rfl, hb⟩
    rw [HP.out]
    have hcur := bthen hcur hb
    clear hb
    have hS := And.intro (cell_later hcur c0) (cell_later hcur c1)
    refine hK _ _ (fun _ => hS) ?_
    try simp only [Act.put, List.setIfInBounds_toArray, List.set_cons_zero, List.set_cons_succ]
    refine wpAnyT_take (i := 2) (oi := ⟨_, _, _, _, _, _⟩) (v := ?vr3_2) (by kernel_rfl) (by decide) rfl (by kernel_rfl) (by kernel_rfl) (by kernel_rfl) (fun _ _ _ h => h) (Or.inl ⟨by rfl, ?hyr3_2⟩) hS ?restr3_2
    case hyr3_2 =>
      intro w' hSw
      obtain ⟨s0, s1⟩ := hSw
      go_simp
      try with_reducible rfl
    try simp only [Act.put, List.setIfInBounds_toArray, List.set_cons_zero, List.set_cons_succ]
    refine wpAnyT_take (i := 3) (oi := ⟨_, _, _, _, _, _⟩) (v := ?vr3_3) (by kernel_rfl) (by decide) rfl (by kernel_rfl) (by kernel_rfl) (by kernel_rfl) (fun _ _ _ h => h) (Or.inl ⟨by first | rfl | (show (some _ == some _) = true; simp; done) | (show (some _ == some _) = true; simp; omega), ?hyr3_3⟩) hS ?restr3_3
    case hyr3_3 =>
      intro w' hSw
      obtain ⟨s0, s1⟩ := hSw
      go_simp
      try with_reducible rfl
    try simp only [Act.put, List.setIfInBounds_toArray, List.set_cons_zero, List.set_cons_succ]
    refine wpAnyT_ready1 (i := 4) (o := ⟨_, _, _, _, _, _⟩) (by kernel_rfl) rfl (fun KC_ hK => ?_)
    try rw [if_pos (by first | rfl | (show (some _ == some _) = true; simp; done) | (show (some _ == some _) = true; simp; omega))]
    go_simp
    go_at_call 35
    refine (S_validProgram _ q l2 _ (HU.out.keep (bthen hB hcur))).mono ?_
    rintro e w3 ⟨rfl, hb⟩
    rw [HQ.out]
    have hcur := bthen hcur hb
    clear hb
    have hS := And.intro (cell_later hcur c0) (cell_later hcur c1)
    refine hK _ _ (fun _ => hS) ?_
    try simp only [Act.put, List.setIfInBounds_toArray, List.set_cons_zero, List.set_cons_succ]
    refine wpAnyT_take (i := 5) (oi := ⟨_, _, _, _, _, _⟩) (v := ?vr3_5) (by kernel_rfl) (by decide) rfl (by kernel_rfl) (by kernel_rfl) (by kernel_rfl) (fun _ _ _ h => h) (Or.inl ⟨by rfl, ?hyr3_5⟩) hS ?restr3_5
    case hyr3_5 =>
      intro w' hSw
      obtain ⟨s0, s1⟩ := hSw
      go_simp
      try with_reducible rfl
    try simp only [Act.put, List.setIfInBounds_toArray, List.set_cons_zero, List.set_cons_succ]
    refine wpAnyT_take (i := 6) (oi := ⟨_, _, _, _, _, _⟩) (v := ?vr3_6) (by kernel_rfl) (by decide) rfl (by kernel_rfl) (by kernel_rfl) (by kernel_rfl) (fun _ _ _ h => h) (Or.inl ⟨by rfl, ?hyr3_6⟩) hS ?restr3_6
    case hyr3_6 =>
      intro w' hSw
      obtain ⟨s0, s1⟩ := hSw
      go_simp
      try with_reducible rfl
    try simp only [Act.put, List.setIfInBounds_toArray, List.set_cons_zero, List.set_cons_succ]
    refine wpAnyT_take (i := 7) (oi := ⟨_, _, _, _, _, _⟩) (v := ?vr3_7) (by kernel_rfl) (by decide) rfl (by kernel_rfl) (by kernel_rfl) (by kernel_rfl) (fun _ _ _ h => h) (Or.inl ⟨by first | rfl | (show (some _ == some _) = true; simp; done) | (show (some _ == some _) = true; simp; omega), ?hyr3_7⟩) hS ?restr3_7
    case hyr3_7 =>
      intro w' hSw
      obtain ⟨s0, s1⟩ := hSw
      go_simp
      try with_reducible rfl
    try simp only [Act.put, List.setIfInBounds_toArray, List.set_cons_zero, List.set_cons_succ]
    refine wpAnyT_take (i := 9) (oi := ⟨_, _, _, _, _, _⟩) (v := ?vr3_9) (by kernel_rfl) (by decide) rfl (by kernel_rfl) (by kernel_rfl) (by kernel_rfl) (fun _ _ _ h => h) (Or.inl ⟨by first | rfl | (show (some _ == some _) = true; simp; done) | (show (some _ == some _) = true; simp; omega), ?hyr3_9⟩) hS ?restr3_9
    case hyr3_9 =>
      intro w' hSw
      obtain ⟨s0, s1⟩ := hSw
      go_simp
      try with_reducible rfl
    try simp only [Act.put, List.setIfInBounds_toArray, List.set_cons_zero, List.set_cons_succ]
    refine wpAnyT_ready1 (i := 8) (o := ⟨_, _, _, _, _, _⟩) (by kernel_rfl) rfl (fun KC_ hK => ?_)
    try rw [if_pos (by first | rfl | (show (some _ == some _) = true; simp; done) | (show (some _ == some _) = true; simp; omega))]
    go_simp
    go_at_call 47
    refine (S_bare _ p l1 _ ⟨_, rfl, HV.out.keep (bthen hB hcur)⟩ (small_of_shape (validP_shape HP.out)).1 (small_of_shape (validP_shape HP.out)).2).mono ?_
    rintro e w4 ⟨sl4, xs4, rfl, hr4, hb⟩
    have hr4 := PRowX.blks hr4
    have hcur := bthen hcur hb
    clear hb
    have hS := And.intro (cell_later hcur c0) (cell_later hcur c1)
    refine hK _ _ (fun _ => hS) ?_
    try simp only [Act.put, List.setIfInBounds_toArray, List.set_cons_zero, List.set_cons_succ]
    refine wpAnyT_ready1 (i := 10) (o := ⟨_, _, _, _, _, _⟩) (by kernel_rfl) rfl (fun KC_ hK => ?_)
    try rw [if_pos (by first | rfl | (show (some _ == some _) = true; simp; done) | (show (some _ == some _) = true; simp; omega))]
    go_simp
    go_at_call 47
    refine (S_bare _ q l2 _ ⟨_, rfl, HU.out.keep (bthen hB hcur)⟩ (small_of_shape (validP_shape HQ.out)).1 (small_of_shape (validP_shape HQ.out)).2).mono ?_
    rintro e w5 ⟨sl5, xs5, rfl, hr5, hb⟩
    have hr5 := PRowX.blks hr5
    have hr4 := hr4.keep hb
    have hcur := bthen hcur hb
    clear hb
    have hS := And.intro (cell_later hcur c0) (cell_later hcur c1)
    refine hK _ _ (fun _ => hS) ?_
    try simp only [Act.put, List.setIfInBounds_toArray, List.set_cons_zero, List.set_cons_succ]
    refine wpAnyT_ready1 (i := 11) (o := ⟨_, _, _, _, _, _⟩) (by kernel_rfl) rfl (fun KC_ hK => ?_)
    try rw [if_pos (by first | rfl | (show (some _ == some _) = true; simp; done) | (show (some _ == some _) = true; simp; omega))]
    go_simp
    go_at_call 63
    refine (S_samePrograms _ _ _ _ _ _ _ hr4 hr5 (bareP_pars (validP_shape HP.out))).mono ?_
    rintro e w6 ⟨rfl, hb⟩
    rw [HE.out]
    have hcur := bthen hcur hb
    clear hb
    have hS := And.intro (cell_later hcur c0) (cell_later hcur c1)
    refine hK _ _ (fun _ => hS) ?_
    try simp only [Act.put, List.setIfInBounds_toArray, List.set_cons_zero, List.set_cons_succ]
    refine wpAnyT_take (i := 12) (oi := ⟨_, _, _, _, _, _⟩) (v := ?vr3_12) (by kernel_rfl) (by decide) rfl (by kernel_rfl) (by kernel_rfl) (by kernel_rfl) (fun _ _ _ h => h) (Or.inl ⟨by rfl, ?hyr3_12⟩) hS ?restr3_12
    case hyr3_12 =>
      intro w' hSw
      obtain ⟨s0, s1⟩ := hSw
      go_simp
      try with_reducible rfl
    try simp only [Act.put, List.setIfInBounds_toArray, List.set_cons_zero, List.set_cons_succ]
    refine wpAnyT_take (i := 13) (oi := ⟨_, _, _, _, _, _⟩) (v := ?vr3_13) (by kernel_rfl) (by decide) rfl (by kernel_rfl) (by kernel_rfl) (by kernel_rfl) (fun _ _ _ h => h) (Or.inl ⟨by rfl, ?hyr3_13⟩) hS ?restr3_13
    case hyr3_13 =>
      intro w' hSw
      obtain ⟨s0, s1⟩ := hSw
      go_simp
      try with_reducible rfl
    try simp only [Act.put, List.setIfInBounds_toArray, List.set_cons_zero, List.set_cons_succ]
    refine wpAnyT_take (i := 14) (oi := ⟨_, _, _, _, _, _⟩) (v := undef) (by kernel_rfl) (by decide) rfl (by kernel_rfl) (by kernel_rfl) (by kernel_rfl) (fun _ _ _ h => h) (Or.inr ⟨by first | rfl | (show (some _ == some _) = false; simp; done) | (show (some _ == some _) = false; simp; omega), rfl⟩) hS ?restr3_14
    try simp only [Act.put, List.setIfInBounds_toArray, List.set_cons_zero, List.set_cons_succ]
    refine wpAnyT_take (i := 16) (oi := ⟨_, _, _, _, _, _⟩) (v := undef) (by kernel_rfl) (by decide) rfl (by kernel_rfl) (by kernel_rfl) (by kernel_rfl) (fun _ _ _ h => h) (Or.inr ⟨by first | rfl | (show (some _ == some _) = false; simp; done) | (show (some _ == some _) = false; simp; omega), rfl⟩) hS ?restr3_16
    try simp only [Act.put, List.setIfInBounds_toArray, List.set_cons_zero, List.set_cons_succ]
    refine wpAnyT_ready1 (i := 15) (o := ⟨_, _, _, _, _, _⟩) (by kernel_rfl) rfl (fun KC_ hK => ?_)
    go_simp
    refine hK _ _ (fun _ => hS) ?_
    try simp only [Act.put, List.setIfInBounds_toArray, List.set_cons_zero, List.set_cons_succ]
    refine wpAnyT_ready1 (i := 17) (o := ⟨_, _, _, _, _, _⟩) (by kernel_rfl) rfl (fun KC_ hK => ?_)
    go_simp
    refine hK _ _ (fun _ => hS) ?_
    try simp only [Act.put, List.setIfInBounds_toArray, List.set_cons_zero, List.set_cons_succ]
    refine wpAnyT_ready1 (i := 18) (o := ⟨_, _, _, _, _, _⟩) (by kernel_rfl) rfl (fun KC_ hK => ?_)
    go_simp
    refine hK _ _ (fun _ => hS) ?_
    try simp only [Act.put, List.setIfInBounds_toArray, List.set_cons_zero, List.set_cons_succ]
    refine wpAnyT_take (i := 19) (oi := ⟨_, _, _, _, _, _⟩) (v := ?vr3_19) (by kernel_rfl) (by decide) rfl (by kernel_rfl) (by kernel_rfl) (by kernel_rfl) (fun _ _ _ h => h) (Or.inl ⟨by rfl, ?hyr3_19⟩) hS ?restr3_19
    case hyr3_19 =>
      intro w' hSw
      obtain ⟨s0, s1⟩ := hSw
      go_simp
      try with_reducible rfl
    try simp only [Act.put, List.setIfInBounds_toArray, List.set_cons_zero, List.set_cons_succ]
    refine wpAnyT_take (i := 20) (oi := ⟨_, _, _, _, _, _⟩) (v := ?vr3_20) (by kernel_rfl) (by decide) rfl (by kernel_rfl) (by kernel_rfl) (by kernel_rfl) (fun _ _ _ h => h) (Or.inl ⟨by rfl, ?hyr3_20⟩) hS ?restr3_20
    case hyr3_20 =>
      intro w' hSw
      obtain ⟨s0, s1⟩ := hSw
      go_simp
      try with_reducible rfl
    try simp only [Act.put, List.setIfInBounds_toArray, List.set_cons_zero, List.set_cons_succ]
    refine wpAnyT_done (by kernel_rfl) ?_ _
    go_wp2
    go_ret
    exact ⟨ret_bool (by unfold rSame; rw [HP.out, HQ.out, HE.out]; simp), bthen hB hcur⟩
  have HE := Lib.hid he
  clear he
  have HLEN := Lib.hid (show p.length = q.length by have := congrArg List.length (beq_iff_eq.1 HE.out); rwa [bareP_len, bareP_len] at this)
  go_enter Try.func27, Try.ntmps27
  go_wp2
  obtain ⟨W1, hW1⟩ : ∃ W1 : World, W1 = ((w.alloc (.cells #[(.slice A p.length C)] 25)).alloc (.cells #[(.slice A2 q.length C2)] 25)).drew := ⟨_, rfl⟩
  have hB : Below w.heap.size w W1 := by rw [hW1]; exact al2.drew
  have c0 : W1.cell? ⟨w.heap.size, 0, none⟩ = some (.slice A p.length C) := by rw [hW1]; simp [go_sem]
  have c1 : W1.cell? ⟨w.heap.size + 1, 0, none⟩ = some (.slice A2 q.length C2) := by rw [hW1]; simp [go_sem]
  have hcur := below0 W1
  have hS := And.intro c0 c1
  refine wp_region_T 21 (by kernel_rfl) (fun w' => w'.cell? ⟨w.heap.size, 0, none⟩ = some (.slice A p.length C) ∧ w'.cell? ⟨w.heap.size + 1, 0, none⟩ = some (.slice A2 q.length C2)) ?_
  rw [← hW1]
  clear hW1
  refine wpAnyT_take (i := 0) (oi := ⟨_, _, _, _, _, _⟩) (v := ?vr4_0) (by kernel_rfl) (by decide) rfl (by kernel_rfl) (by kernel_rfl) (by kernel_rfl) (fun _ _ _ h => h) (Or.inl ⟨by rfl, ?hyr4_0⟩) hS ?restr4_0
  case hyr4_0 =>
    intro w' hSw
    obtain ⟨s0, s1⟩ := hSw
    go_simp
    try with_reducible rfl
  try simp only [Act.put, List.setIfInBounds_toArray, List.set_cons_zero, List.set_cons_succ]
  refine wpAnyT_ready1 (i := 1) (o := ⟨_, _, _, _, _, _⟩) (by kernel_rfl) rfl (fun KC_ hK => ?_)
  go_simp
  go_at_call 35
  refine (S_validProgram _ p l1 _ (HV.out.keep (bthen hB hcur))).mono ?_
  rintro e w2 ⟨rfl, hb⟩
  rw [HP.out]
  have hcur := bthen hcur hb
  clear hb
  have hS := And.intro (cell_later hcur c0) (cell_later hcur c1)
  refine hK _ _ (fun _ => hS) ?_
  try simp only [Act.put, List.setIfInBounds_toArray, List.set_cons_zero, List.set_cons_succ]
  refine wpAnyT_take (i := 2) (oi := ⟨_, _, _, _, _, _⟩) (v := ?vr4_2) (by kernel_rfl) (by decide) rfl (by kernel_rfl) (by kernel_rfl) (by kernel_rfl) (fun _ _ _ h => h) (Or.inl ⟨by rfl, ?hyr4_2⟩) hS ?restr4_2
  case hyr4_2 =>
    intro w' hSw
    obtain ⟨s0, s1⟩ := hSw
    go_simp
    try with_reducible rfl
  try simp only [Act.put, List.setIfInBounds_toArray, List.set_cons_zero, List.set_cons_succ]
  refine wpAnyT_take (i := 3) (oi := ⟨_, _, _, _, _, _⟩) (v := ?vr4_3) (by kernel_rfl) (by decide) rfl (by kernel_rfl) (by kernel_rfl) (by kernel_rfl) (fun _ _ _ h => h) (Or.inl ⟨by first | rfl | (show (some _ == some _) = true; simp; done) | (show (some _ == some _) = true; simp; omega), ?hyr4_3⟩) hS ?restr4_3
  case hyr4_3 =>
    intro w' hSw
    obtain ⟨s0, s1⟩ := hSw
    go_simp
    try with_reducible rfl
  try simp only [Act.put, List.setIfInBounds_toArray, List.set_cons_zero, List.set_cons_succ]
  refine wpAnyT_ready1 (i := 4) (o := ⟨_, _, _, _, _, _⟩) (by kernel_rfl) rfl (fun KC_ hK => ?_)
  try rw [if_pos (by first | rfl | (show (some _ == some _) = true; simp; done) | (show (some _ == some _) = true; simp; omega))]
  go_simp
  go_at_call 35
  refine (S_validProgram _ q l2 _ (HU.out.keep (bthen hB hcur))).mono ?_
  rintro e w3 ⟨rfl, hb⟩
  rw [HQ.out]
  have hcur := bthen hcur hb
  clear hb
  have hS := And.intro (cell_later hcur c0) (cell_later hcur c1)
  refine hK _ _ (fun _ => hS) ?_
  try simp only [Act.put, List.setIfInBounds_toArray, List.set_cons_zero, List.set_cons_succ]
  refine wpAnyT_take (i := 5) (oi := ⟨_, _, _, _, _, _⟩) (v := ?vr4_5) (by kernel_rfl) (by decide) rfl (by kernel_rfl) (by kernel_rfl) (by kernel_rfl) (fun _ _ _ h => h) (Or.inl ⟨by rfl, ?hyr4_5⟩) hS ?restr4_5
  case hyr4_5 =>
    intro w' hSw
    obtain ⟨s0, s1⟩ := hSw
    go_simp
    try with_reducible rfl
  try simp only [Act.put, List.setIfInBounds_toArray, List.set_cons_zero, List.set_cons_succ]
  refine wpAnyT_take (i := 6) (oi := ⟨_, _, _, _, _, _⟩) (v := ?vr4_6) (by kernel_rfl) (by decide) rfl (by kernel_rfl) (by kernel_rfl) (by kernel_rfl) (fun _ _ _ h => h) (Or.inl ⟨by rfl, ?hyr4_6⟩) hS ?restr4_6
  case hyr4_6 =>
    intro w' hSw
    obtain ⟨s0, s1⟩ := hSw
    go_simp
    try with_reducible rfl
  try simp only [Act.put, List.setIfInBounds_toArray, List.set_cons_zero, List.set_cons_succ]
  refine wpAnyT_take (i := 7) (oi := ⟨_, _, _, _, _, _⟩) (v := ?vr4_7) (by kernel_rfl) (by decide) rfl (by kernel_rfl) (by kernel_rfl) (by kernel_rfl) (fun _ _ _ h => h) (Or.inl ⟨by first | rfl | (show (some _ == some _) = true; simp; done) | (show (some _ == some _) = true; simp; omega), ?hyr4_7⟩) hS ?restr4_7
  case hyr4_7 =>
    intro w' hSw
    obtain ⟨s0, s1⟩ := hSw
    go_simp
    try with_reducible rfl
  try simp only [Act.put, List.setIfInBounds_toArray, List.set_cons_zero, List.set_cons_succ]
  refine wpAnyT_take (i := 9) (oi := ⟨_, _, _, _, _, _⟩) (v := ?vr4_9) (by kernel_rfl) (by decide) rfl (by kernel_rfl) (by kernel_rfl) (by kernel_rfl) (fun _ _ _ h => h) (Or.inl ⟨by first | rfl | (show (some _ == some _) = true; simp; done) | (show (some _ == some _) = true; simp; omega), ?hyr4_9⟩) hS ?restr4_9
  case hyr4_9 =>
    intro w' hSw
    obtain ⟨s0, s1⟩ := hSw
    go_simp
    try with_reducible rfl
  try simp only [Act.put, List.setIfInBounds_toArray, List.set_cons_zero, List.set_cons_succ]
  refine wpAnyT_ready1 (i := 8) (o := ⟨_, _, _, _, _, _⟩) (by kernel_rfl) rfl (fun KC_ hK => ?_)
  try rw [if_pos (by first | rfl | (show (some _ == some _) = true; simp; done) | (show (some _ == some _) = true; simp; omega))]
  go_simp
  go_at_call 47
  refine (S_bare _ p l1 _ ⟨_, rfl, HV.out.keep (bthen hB hcur)⟩ (small_of_shape (validP_shape HP.out)).1 (small_of_shape (validP_shape HP.out)).2).mono ?_
  rintro e w4 ⟨sl4, xs4, rfl, hr4, hb⟩
  have hr4 := PRowX.blks hr4
  have hcur := bthen hcur hb
  clear hb
  have hS := And.intro (cell_later hcur c0) (cell_later hcur c1)
  refine hK _ _ (fun _ => hS) ?_
  try simp only [Act.put, List.setIfInBounds_toArray, List.set_cons_zero, List.set_cons_succ]
  refine wpAnyT_ready1 (i := 10) (o := ⟨_, _, _, _, _, _⟩) (by kernel_rfl) rfl (fun KC_ hK => ?_)
  try rw [if_pos (by first | rfl | (show (some _ == some _) = true; simp; done) | (show (some _ == some _) = true; simp; omega))]
  go_simp
  go_at_call 47
  refine (S_bare _ q l2 _ ⟨_, rfl, HU.out.keep (bthen hB hcur)⟩ (small_of_shape (validP_shape HQ.out)).1 (small_of_shape (validP_shape HQ.out)).2).mono ?_
  rintro e w5 ⟨sl5, xs5, rfl, hr5, hb⟩
  have hr5 := PRowX.blks hr5
  have hr4 := hr4.keep hb
  have hcur := bthen hcur hb
  clear hb
  have hS := And.intro (cell_later hcur c0) (cell_later hcur c1)
  refine hK _ _ (fun _ => hS) ?_
  try simp only [Act.put, List.setIfInBounds_toArray, List.set_cons_zero, List.set_cons_succ]
  refine wpAnyT_ready1 (i := 11) (o := ⟨_, _, _, _, _, _⟩) (by kernel_rfl) rfl (fun KC_ hK => ?_)
  try rw [if_pos (by first | rfl | (show (some _ == some _) = true; simp; done) | (show (some _ == some _) = true; simp; omega))]
  go_simp
  go_at_call 63
  refine (S_samePrograms _ _ _ _ _ _ _ hr4 hr5 (bareP_pars (validP_shape HP.out))).mono ?_
  rintro e w6 ⟨rfl, hb⟩
  rw [HE.out]
  have hcur := bthen hcur hb
  clear hb
  have hS := And.intro (cell_later hcur c0) (cell_later hcur c1)
  refine hK _ _ (fun _ => hS) ?_
  try simp only [Act.put, List.setIfInBounds_toArray, List.set_cons_zero, List.set_cons_succ]
  refine wpAnyT_take (i := 12) (oi := ⟨_, _, _, _, _, _⟩) (v := ?vr4_12) (by kernel_rfl) (by decide) rfl (by kernel_rfl) (by kernel_rfl) (by kernel_rfl) (fun _ _ _ h => h) (Or.inl ⟨by rfl, ?hyr4_12⟩) hS ?restr4_12
  case hyr4_12 =>
    intro w' hSw
    obtain ⟨s0, s1⟩ := hSw
    go_simp
    try with_reducible rfl
  try simp only [Act.put, List.setIfInBounds_toArray, List.set_cons_zero, List.set_cons_succ]
  refine wpAnyT_take (i := 13) (oi := ⟨_, _, _, _, _, _⟩) (v := ?vr4_13) (by kernel_rfl) (by decide) rfl (by kernel_rfl) (by kernel_rfl) (by kernel_rfl) (fun _ _ _ h => h) (Or.inl ⟨by rfl, ?hyr4_13⟩) hS ?restr4_13
  case hyr4_13 =>
    intro w' hSw
    obtain ⟨s0, s1⟩ := hSw
    go_simp
    try with_reducible rfl
  try simp only [Act.put, List.setIfInBounds_toArray, List.set_cons_zero, List.set_cons_succ]
  refine wpAnyT_take (i := 14) (oi := ⟨_, _, _, _, _, _⟩) (v := ?vr4_14) (by kernel_rfl) (by decide) rfl (by kernel_rfl) (by kernel_rfl) (by kernel_rfl) (fun _ _ _ h => h) (Or.inl ⟨by first | rfl | (show (some _ == some _) = true; simp; done) | (show (some _ == some _) = true; simp; omega), ?hyr4_14⟩) hS ?restr4_14
  case hyr4_14 =>
    intro w' hSw
    obtain ⟨s0, s1⟩ := hSw
    go_simp
    try with_reducible rfl
  try simp only [Act.put, List.setIfInBounds_toArray, List.set_cons_zero, List.set_cons_succ]
  refine wpAnyT_take (i := 16) (oi := ⟨_, _, _, _, _, _⟩) (v := ?vr4_16) (by kernel_rfl) (by decide) rfl (by kernel_rfl) (by kernel_rfl) (by kernel_rfl) (fun _ _ _ h => h) (Or.inl ⟨by first | rfl | (show (some _ == some _) = true; simp; done) | (show (some _ == some _) = true; simp; omega), ?hyr4_16⟩) hS ?restr4_16
  case hyr4_16 =>
    intro w' hSw
    obtain ⟨s0, s1⟩ := hSw
    go_simp
    try with_reducible rfl
  try simp only [Act.put, List.setIfInBounds_toArray, List.set_cons_zero, List.set_cons_succ]
  refine wpAnyT_ready1 (i := 15) (o := ⟨_, _, _, _, _, _⟩) (by kernel_rfl) rfl (fun KC_ hK => ?_)
  try rw [if_pos (by first | rfl | (show (some _ == some _) = true; simp; done) | (show (some _ == some _) = true; simp; omega))]
  go_simp
  go_at_call 65
  refine (S_ownersOf _ p l1 _ (HV.out.keep (bthen hB hcur)) (validP_shape HP.out)).mono ?_
  rintro e w7 ⟨v7, us7, rfl, hr7, hb⟩
  have hcur := bthen hcur hb
  clear hb
  have hS := And.intro (cell_later hcur c0) (cell_later hcur c1)
  refine hK _ _ (fun _ => hS) ?_
  try simp only [Act.put, List.setIfInBounds_toArray, List.set_cons_zero, List.set_cons_succ]
  refine wpAnyT_ready1 (i := 17) (o := ⟨_, _, _, _, _, _⟩) (by kernel_rfl) rfl (fun KC_ hK => ?_)
  try rw [if_pos (by first | rfl | (show (some _ == some _) = true; simp; done) | (show (some _ == some _) = true; simp; omega))]
  go_simp
  go_at_call 65
  refine (S_ownersOf _ q l2 _ (HU.out.keep (bthen hB hcur)) (validP_shape HQ.out)).mono ?_
  rintro e w8 ⟨v8, us8, rfl, hr8, hb⟩
  have hr7 := hr7.keep hb
  have hcur := bthen hcur hb
  clear hb
  have hS := And.intro (cell_later hcur c0) (cell_later hcur c1)
  refine hK _ _ (fun _ => hS) ?_
  try simp only [Act.put, List.setIfInBounds_toArray, List.set_cons_zero, List.set_cons_succ]
  refine wpAnyT_ready1 (i := 18) (o := ⟨_, _, _, _, _, _⟩) (by kernel_rfl) rfl (fun KC_ hK => ?_)
  try rw [if_pos (by first | rfl | (show (some _ == some _) = true; simp; done) | (show (some _ == some _) = true; simp; omega))]
  go_simp
  go_at_call 64
  refine (S_sameTable _ _ _ _ _ _ _ _ _ hr7 hr8 (ownRows_rows HLEN.out).1 (ownRows_rows HLEN.out).2).mono ?_
  rintro e w9 ⟨rfl, hb⟩
  have hcur := bthen hcur hb
  clear hb
  have hS := And.intro (cell_later hcur c0) (cell_later hcur c1)
  refine hK _ _ (fun _ => hS) ?_
  try simp only [Act.put, List.setIfInBounds_toArray, List.set_cons_zero, List.set_cons_succ]
  refine wpAnyT_take (i := 19) (oi := ⟨_, _, _, _, _, _⟩) (v := ?vr4_19) (by kernel_rfl) (by decide) rfl (by kernel_rfl) (by kernel_rfl) (by kernel_rfl) (fun _ _ _ h => h) (Or.inl ⟨by rfl, ?hyr4_19⟩) hS ?restr4_19
  case hyr4_19 =>
    intro w' hSw
    obtain ⟨s0, s1⟩ := hSw
    go_simp
    try with_reducible rfl
  try simp only [Act.put, List.setIfInBounds_toArray, List.set_cons_zero, List.set_cons_succ]
  refine wpAnyT_take (i := 20) (oi := ⟨_, _, _, _, _, _⟩) (v := ?vr4_20) (by kernel_rfl) (by decide) rfl (by kernel_rfl) (by kernel_rfl) (by kernel_rfl) (fun _ _ _ h => h) (Or.inl ⟨by rfl, ?hyr4_20⟩) hS ?restr4_20
  case hyr4_20 =>
    intro w' hSw
    obtain ⟨s0, s1⟩ := hSw
    go_simp
    try with_reducible rfl
  try simp only [Act.put, List.setIfInBounds_toArray, List.set_cons_zero, List.set_cons_succ]
  refine wpAnyT_done (by kernel_rfl) ?_ _
  go_wp2
  go_ret
  exact ⟨ret_bool (by unfold rSame; rw [HP.out, HQ.out, HE.out]; simp), bthen hB hcur⟩

set_option maxRecDepth 100000 in
set_option maxHeartbeats 2000000 in
theorem I_SameMeaning (v u : Value) (p q : Pr) (l1 l2 : Nat) (w : World) (hv : Prog w l1 v p) (hu : Prog w l2 u q) :
    Calls Try.prog 28 #[v, u] w fun e w' => e = .returned (.bool (rSame p q)) ∧ Below w.heap.size w w' := by
  obtain ⟨sp, rfl, hv⟩ := hv
  obtain ⟨sq, rfl, hu⟩ := hu
  have HV := Lib.hid hv
  have HU := Lib.hid hu
  obtain ⟨A, C, rfl⟩ := hv.form
  obtain ⟨A2, C2, rfl⟩ := hu.form
  clear hv hu
  have hz : ∀ (w' : World), Below ((w.alloc (.cells #[(.slice A p.length C)] 25)).alloc (.cells #[(.slice A2 q.length C2)] 25)).heap.size ((w.alloc (.cells #[(.slice A p.length C)] 25)).alloc (.cells #[(.slice A2 q.length C2)] 25)) w' → w'.cell? ⟨w.heap.size, 0, none⟩ = some (.slice A p.length C) ∧ w'.cell? ⟨w.heap.size + 1, 0, none⟩ = some (.slice A2 q.length C2) := fun w' hb => ⟨cell_later hb (by simp [go_sem]), cell_later hb (by simp [go_sem])⟩
  have HZ := Lib.hid hz
  clear hz
  cases hp : validP p
  · have HP := Lib.hid hp
    clear hp
    go_enter Try.func28, Try.ntmps28
    go_wp2_with fail
    refine (I_ValidProgram _ p l1 _ ⟨_, rfl, HV.out.keep al2⟩).mono ?_
    rintro e w2 ⟨rfl, hb⟩
    rw [HP.out]
    obtain ⟨c0, c1⟩ := HZ.out _ hb
    have hB2 := bthen al2 hb
    clear hb
    go_wp2
    go_ret
    exact ⟨ret_bool (by unfold rSame; rw [HP.out]; simp), hB2⟩
  have HP := Lib.hid hp
  clear hp
  cases hq : validP q
  · have HQ := Lib.hid hq
    clear hq
    go_enter Try.func28, Try.ntmps28
    go_wp2_with fail
    refine (I_ValidProgram _ p l1 _ ⟨_, rfl, HV.out.keep al2⟩).mono ?_
    rintro e w2 ⟨rfl, hb⟩
    rw [HP.out]
    obtain ⟨c0, c1⟩ := HZ.out _ hb
    have hB2 := bthen al2 hb
    clear hb
    go_wp2_with fail
    refine (I_ValidProgram _ q l2 _ ⟨_, rfl, HU.out.keep hB2⟩).mono ?_
    rintro e w3 ⟨rfl, hb⟩
    rw [HQ.out]
    have hB3 := bthen hB2 hb
    have c0 := cell_later hb c0
    have c1 := cell_later hb c1
    clear hb
    go_wp2
    go_ret
    exact ⟨ret_bool (by unfold rSame; rw [HP.out, HQ.out]; simp), hB3⟩
  have HQ := Lib.hid hq
  clear hq
  cases he : (bareP p == bareP q)
  · have HE := Lib.hid he
    clear he
    go_enter Try.func28, Try.ntmps28
    go_wp2_with fail
    refine (I_ValidProgram _ p l1 _ ⟨_, rfl, HV.out.keep al2⟩).mono ?_
    rintro e w2 ⟨rfl, hb⟩
    rw [HP.out]
    obtain ⟨c0, c1⟩ := HZ.out _ hb
    have hB2 := bthen al2 hb
    clear hb
    go_wp2_with fail
    refine (I_ValidProgram _ q l2 _ ⟨_, rfl, HU.out.keep hB2⟩).mono ?_
    rintro e w3 ⟨rfl, hb⟩
    rw [HQ.out]
    have hB3 := bthen hB2 hb
    have c0 := cell_later hb c0
    have c1 := cell_later hb c1
    clear hb
    go_wp2
    obtain ⟨W1, hW1⟩ : ∃ W1 : World, W1 = w3.drew := ⟨_, rfl⟩
    have hB : Below w.heap.size w W1 := by rw [hW1]; exact hB3.drew
    have c0 : W1.cell? ⟨w.heap.size, 0, none⟩ = some (.slice A p.length C) := by rw [hW1]; exact c0
    have c1 : W1.cell? ⟨w.heap.size + 1, 0, none⟩ = some (.slice A2 q.length C2) := by rw [hW1]; exact c1
    have hcur := below0 W1
    have hS := And.intro c0 c1
    refine wp_region_T 13 (by kernel_rfl) (fun w' => w'.cell? ⟨w.heap.size, 0, none⟩ = some (.slice A p.length C) ∧ w'.cell? ⟨w.heap.size + 1, 0, none⟩ = some (.slice A2 q.length C2)) ?_
    rw [← hW1]
    clear hW1
    refine wpAnyT_take (i := 0) (oi := ⟨_, _, _, _, _, _⟩) (v := ?vr5_0) (by kernel_rfl) (by decide) rfl (by kernel_rfl) (by kernel_rfl) (by kernel_rfl) (fun _ _ _ h => h) (Or.inl ⟨by rfl, ?hyr5_0⟩) hS ?restr5_0
    case hyr5_0 =>
      intro w' hSw
      obtain ⟨s0, s1⟩ := hSw
      go_simp
      try with_reducible rfl
    try simp only [Act.put, List.setIfInBounds_toArray, List.set_cons_zero, List.set_cons_succ]
    refine wpAnyT_take (i := 2) (oi := ⟨_, _, _, _, _, _⟩) (v := ?vr5_2) (by kernel_rfl) (by decide) rfl (by kernel_rfl) (by kernel_rfl) (by kernel_rfl) (fun _ _ _ h => h) (Or.inl ⟨by rfl, ?hyr5_2⟩) hS ?restr5_2
    case hyr5_2 =>
      intro w' hSw
      obtain ⟨s0, s1⟩ := hSw
      go_simp
      try with_reducible rfl
    try simp only [Act.put, List.setIfInBounds_toArray, List.set_cons_zero, List.set_cons_succ]
    refine wpAnyT_ready1 (i := 1) (o := ⟨_, _, _, _, _, _⟩) (by kernel_rfl) rfl (fun KC_ hK => ?_)
    go_simp
    go_at_call 11
    refine (I_BareProgram _ p l1 _ ⟨_, rfl, HV.out.keep (bthen hB hcur)⟩).mono ?_
    rintro e w4 ⟨sl4, xs4, rfl, hr4, _, hb⟩
    rw [rBare_of_shape (validP_shape HP.out)] at hr4
    have hr4 := PRowX.blks hr4
    have hcur := bthen hcur hb
    clear hb
    have hS := And.intro (cell_later hcur c0) (cell_later hcur c1)
    refine hK _ _ (fun _ => hS) ?_
    try simp only [Act.put, List.setIfInBounds_toArray, List.set_cons_zero, List.set_cons_succ]
    refine wpAnyT_ready1 (i := 3) (o := ⟨_, _, _, _, _, _⟩) (by kernel_rfl) rfl (fun KC_ hK => ?_)
    go_simp
    go_at_call 11
    refine (I_BareProgram _ q l2 _ ⟨_, rfl, HU.out.keep (bthen hB hcur)⟩).mono ?_
    rintro e w5 ⟨sl5, xs5, rfl, hr5, _, hb⟩
    rw [rBare_of_shape (validP_shape HQ.out)] at hr5
    have hr5 := PRowX.blks hr5
    have hr4 := hr4.keep hb
    have hcur := bthen hcur hb
    clear hb
    have hS := And.intro (cell_later hcur c0) (cell_later hcur c1)
    refine hK _ _ (fun _ => hS) ?_
    try simp only [Act.put, List.setIfInBounds_toArray, List.set_cons_zero, List.set_cons_succ]
    refine wpAnyT_ready1 (i := 4) (o := ⟨_, _, _, _, _, _⟩) (by kernel_rfl) rfl (fun KC_ hK => ?_)
    go_simp
    go_at_call 66
    refine (I_equalPrograms _ _ _ _ _ _ _ hr4 hr5).mono ?_
    rintro e w6 ⟨rfl, hb⟩
    rw [HE.out]
    have hcur := bthen hcur hb
    clear hb
    have hS := And.intro (cell_later hcur c0) (cell_later hcur c1)
    refine hK _ _ (fun _ => hS) ?_
    try simp only [Act.put, List.setIfInBounds_toArray, List.set_cons_zero, List.set_cons_succ]
    refine wpAnyT_take (i := 5) (oi := ⟨_, _, _, _, _, _⟩) (v := ?vr5_5) (by kernel_rfl) (by decide) rfl (by kernel_rfl) (by kernel_rfl) (by kernel_rfl) (fun _ _ _ h => h) (Or.inl ⟨by rfl, ?hyr5_5⟩) hS ?restr5_5
    case hyr5_5 =>
      intro w' hSw
      obtain ⟨s0, s1⟩ := hSw
      go_simp
      try with_reducible rfl
    try simp only [Act.put, List.setIfInBounds_toArray, List.set_cons_zero, List.set_cons_succ]
    refine wpAnyT_take (i := 6) (oi := ⟨_, _, _, _, _, _⟩) (v := undef) (by kernel_rfl) (by decide) rfl (by kernel_rfl) (by kernel_rfl) (by kernel_rfl) (fun _ _ _ h => h) (Or.inr ⟨by first | rfl | (show (some _ == some _) = false; simp; done) | (show (some _ == some _) = false; simp; omega), rfl⟩) hS ?restr5_6
    try simp only [Act.put, List.setIfInBounds_toArray, List.set_cons_zero, List.set_cons_succ]
    refine wpAnyT_take (i := 8) (oi := ⟨_, _, _, _, _, _⟩) (v := undef) (by kernel_rfl) (by decide) rfl (by kernel_rfl) (by kernel_rfl) (by kernel_rfl) (fun _ _ _ h => h) (Or.inr ⟨by first | rfl | (show (some _ == some _) = false; simp; done) | (show (some _ == some _) = false; simp; omega), rfl⟩) hS ?restr5_8
    try simp only [Act.put, List.setIfInBounds_toArray, List.set_cons_zero, List.set_cons_succ]
    refine wpAnyT_ready1 (i := 7) (o := ⟨_, _, _, _, _, _⟩) (by kernel_rfl) rfl (fun KC_ hK => ?_)
    go_simp
    refine hK _ _ (fun _ => hS) ?_
    try simp only [Act.put, List.setIfInBounds_toArray, List.set_cons_zero, List.set_cons_succ]
    refine wpAnyT_ready1 (i := 9) (o := ⟨_, _, _, _, _, _⟩) (by kernel_rfl) rfl (fun KC_ hK => ?_)
    go_simp
    refine hK _ _ (fun _ => hS) ?_
    try simp only [Act.put, List.setIfInBounds_toArray, List.set_cons_zero, List.set_cons_succ]
    refine wpAnyT_ready1 (i := 10) (o := ⟨_, _, _, _, _, _⟩) (by kernel_rfl) rfl (fun KC_ hK => ?_)
    go_simp
    refine hK _ _ (fun _ => hS) ?_
    try simp only [Act.put, List.setIfInBounds_toArray, List.set_cons_zero, List.set_cons_succ]
    refine wpAnyT_take (i := 11) (oi := ⟨_, _, _, _, _, _⟩) (v := ?vr5_11) (by kernel_rfl) (by decide) rfl (by kernel_rfl) (by kernel_rfl) (by kernel_rfl) (fun _ _ _ h => h) (Or.inl ⟨by rfl, ?hyr5_11⟩) hS ?restr5_11
    case hyr5_11 =>
      intro w' hSw
      obtain ⟨s0, s1⟩ := hSw
      go_simp
      try with_reducible rfl
    try simp only [Act.put, List.setIfInBounds_toArray, List.set_cons_zero, List.set_cons_succ]
    refine wpAnyT_take (i := 12) (oi := ⟨_, _, _, _, _, _⟩) (v := ?vr5_12) (by kernel_rfl) (by decide) rfl (by kernel_rfl) (by kernel_rfl) (by kernel_rfl) (fun _ _ _ h => h) (Or.inl ⟨by rfl, ?hyr5_12⟩) hS ?restr5_12
    case hyr5_12 =>
      intro w' hSw
      obtain ⟨s0, s1⟩ := hSw
      go_simp
      try with_reducible rfl
    try simp only [Act.put, List.setIfInBounds_toArray, List.set_cons_zero, List.set_cons_succ]
    refine wpAnyT_done (by kernel_rfl) ?_ _
    go_wp2
    go_ret
    exact ⟨ret_bool (by unfold rSame; rw [HP.out, HQ.out, HE.out]; simp), bthen hB hcur⟩
  have HE := Lib.hid he
  clear he
  go_enter Try.func28, Try.ntmps28
  go_wp2_with fail
  refine (I_ValidProgram _ p l1 _ ⟨_, rfl, HV.out.keep al2⟩).mono ?_
  rintro e w2 ⟨rfl, hb⟩
  rw [HP.out]
  obtain ⟨c0, c1⟩ := HZ.out _ hb
  have hB2 := bthen al2 hb
  clear hb
  go_wp2_with fail
  refine (I_ValidProgram _ q l2 _ ⟨_, rfl, HU.out.keep hB2⟩).mono ?_
  rintro e w3 ⟨rfl, hb⟩
  rw [HQ.out]
  have hB3 := bthen hB2 hb
  have c0 := cell_later hb c0
  have c1 := cell_later hb c1
  clear hb
  go_wp2
  obtain ⟨W1, hW1⟩ : ∃ W1 : World, W1 = w3.drew := ⟨_, rfl⟩
  have hB : Below w.heap.size w W1 := by rw [hW1]; exact hB3.drew
  have c0 : W1.cell? ⟨w.heap.size, 0, none⟩ = some (.slice A p.length C) := by rw [hW1]; exact c0
  have c1 : W1.cell? ⟨w.heap.size + 1, 0, none⟩ = some (.slice A2 q.length C2) := by rw [hW1]; exact c1
  have hcur := below0 W1
  have hS := And.intro c0 c1
  refine wp_region_T 13 (by kernel_rfl) (fun w' => w'.cell? ⟨w.heap.size, 0, none⟩ = some (.slice A p.length C) ∧ w'.cell? ⟨w.heap.size + 1, 0, none⟩ = some (.slice A2 q.length C2)) ?_
  rw [← hW1]
  clear hW1
  refine wpAnyT_take (i := 0) (oi := ⟨_, _, _, _, _, _⟩) (v := ?vr6_0) (by kernel_rfl) (by decide) rfl (by kernel_rfl) (by kernel_rfl) (by kernel_rfl) (fun _ _ _ h => h) (Or.inl ⟨by rfl, ?hyr6_0⟩) hS ?restr6_0
  case hyr6_0 =>
    intro w' hSw
    obtain ⟨s0, s1⟩ := hSw
    go_simp
    try with_reducible rfl
  try simp only [Act.put, List.setIfInBounds_toArray, List.set_cons_zero, List.set_cons_succ]
  refine wpAnyT_take (i := 2) (oi := ⟨_, _, _, _, _, _⟩) (v := ?vr6_2) (by kernel_rfl) (by decide) rfl (by kernel_rfl) (by kernel_rfl) (by kernel_rfl) (fun _ _ _ h => h) (Or.inl ⟨by rfl, ?hyr6_2⟩) hS ?restr6_2
  case hyr6_2 =>
    intro w' hSw
    obtain ⟨s0, s1⟩ := hSw
    go_simp
    try with_reducible rfl
  try simp only [Act.put, List.setIfInBounds_toArray, List.set_cons_zero, List.set_cons_succ]
  refine wpAnyT_ready1 (i := 1) (o := ⟨_, _, _, _, _, _⟩) (by kernel_rfl) rfl (fun KC_ hK => ?_)
  go_simp
  go_at_call 11
  refine (I_BareProgram _ p l1 _ ⟨_, rfl, HV.out.keep (bthen hB hcur)⟩).mono ?_
  rintro e w4 ⟨sl4, xs4, rfl, hr4, _, hb⟩
  rw [rBare_of_shape (validP_shape HP.out)] at hr4
  have hr4 := PRowX.blks hr4
  have hcur := bthen hcur hb
  clear hb
  have hS := And.intro (cell_later hcur c0) (cell_later hcur c1)
  refine hK _ _ (fun _ => hS) ?_
  try simp only [Act.put, List.setIfInBounds_toArray, List.set_cons_zero, List.set_cons_succ]
  refine wpAnyT_ready1 (i := 3) (o := ⟨_, _, _, _, _, _⟩) (by kernel_rfl) rfl (fun KC_ hK => ?_)
  go_simp
  go_at_call 11
  refine (I_BareProgram _ q l2 _ ⟨_, rfl, HU.out.keep (bthen hB hcur)⟩).mono ?_
  rintro e w5 ⟨sl5, xs5, rfl, hr5, _, hb⟩
  rw [rBare_of_shape (validP_shape HQ.out)] at hr5
  have hr5 := PRowX.blks hr5
  have hr4 := hr4.keep hb
  have hcur := bthen hcur hb
  clear hb
  have hS := And.intro (cell_later hcur c0) (cell_later hcur c1)
  refine hK _ _ (fun _ => hS) ?_
  try simp only [Act.put, List.setIfInBounds_toArray, List.set_cons_zero, List.set_cons_succ]
  refine wpAnyT_ready1 (i := 4) (o := ⟨_, _, _, _, _, _⟩) (by kernel_rfl) rfl (fun KC_ hK => ?_)
  go_simp
  go_at_call 66
  refine (I_equalPrograms _ _ _ _ _ _ _ hr4 hr5).mono ?_
  rintro e w6 ⟨rfl, hb⟩
  rw [HE.out]
  have hcur := bthen hcur hb
  clear hb
  have hS := And.intro (cell_later hcur c0) (cell_later hcur c1)
  refine hK _ _ (fun _ => hS) ?_
  try simp only [Act.put, List.setIfInBounds_toArray, List.set_cons_zero, List.set_cons_succ]
  refine wpAnyT_take (i := 5) (oi := ⟨_, _, _, _, _, _⟩) (v := ?vr6_5) (by kernel_rfl) (by decide) rfl (by kernel_rfl) (by kernel_rfl) (by kernel_rfl) (fun _ _ _ h => h) (Or.inl ⟨by rfl, ?hyr6_5⟩) hS ?restr6_5
  case hyr6_5 =>
    intro w' hSw
    obtain ⟨s0, s1⟩ := hSw
    go_simp
    try with_reducible rfl
  try simp only [Act.put, List.setIfInBounds_toArray, List.set_cons_zero, List.set_cons_succ]
  refine wpAnyT_take (i := 6) (oi := ⟨_, _, _, _, _, _⟩) (v := ?vr6_6) (by kernel_rfl) (by decide) rfl (by kernel_rfl) (by kernel_rfl) (by kernel_rfl) (fun _ _ _ h => h) (Or.inl ⟨by first | rfl | (show (some _ == some _) = true; simp; done) | (show (some _ == some _) = true; simp; omega), ?hyr6_6⟩) hS ?restr6_6
  case hyr6_6 =>
    intro w' hSw
    obtain ⟨s0, s1⟩ := hSw
    go_simp
    try with_reducible rfl
  try simp only [Act.put, List.setIfInBounds_toArray, List.set_cons_zero, List.set_cons_succ]
  refine wpAnyT_take (i := 8) (oi := ⟨_, _, _, _, _, _⟩) (v := ?vr6_8) (by kernel_rfl) (by decide) rfl (by kernel_rfl) (by kernel_rfl) (by kernel_rfl) (fun _ _ _ h => h) (Or.inl ⟨by first | rfl | (show (some _ == some _) = true; simp; done) | (show (some _ == some _) = true; simp; omega), ?hyr6_8⟩) hS ?restr6_8
  case hyr6_8 =>
    intro w' hSw
    obtain ⟨s0, s1⟩ := hSw
    go_simp
    try with_reducible rfl
  try simp only [Act.put, List.setIfInBounds_toArray, List.set_cons_zero, List.set_cons_succ]
  refine wpAnyT_ready1 (i := 7) (o := ⟨_, _, _, _, _, _⟩) (by kernel_rfl) rfl (fun KC_ hK => ?_)
  try rw [if_pos (by first | rfl | (show (some _ == some _) = true; simp; done) | (show (some _ == some _) = true; simp; omega))]
  go_simp
  go_at_call 56
  refine (I_ownersOf _ p l1 _ (HV.out.keep (bthen hB hcur)) (validP_shape HP.out)).mono ?_
  rintro e w7 ⟨v7, us7, rfl, hr7, hb⟩
  have hcur := bthen hcur hb
  clear hb
  have hS := And.intro (cell_later hcur c0) (cell_later hcur c1)
  refine hK _ _ (fun _ => hS) ?_
  try simp only [Act.put, List.setIfInBounds_toArray, List.set_cons_zero, List.set_cons_succ]
  refine wpAnyT_ready1 (i := 9) (o := ⟨_, _, _, _, _, _⟩) (by kernel_rfl) rfl (fun KC_ hK => ?_)
  try rw [if_pos (by first | rfl | (show (some _ == some _) = true; simp; done) | (show (some _ == some _) = true; simp; omega))]
  go_simp
  go_at_call 56
  refine (I_ownersOf _ q l2 _ (HU.out.keep (bthen hB hcur)) (validP_shape HQ.out)).mono ?_
  rintro e w8 ⟨v8, us8, rfl, hr8, hb⟩
  have hr7 := hr7.keep hb
  have hcur := bthen hcur hb
  clear hb
  have hS := And.intro (cell_later hcur c0) (cell_later hcur c1)
  refine hK _ _ (fun _ => hS) ?_
  try simp only [Act.put, List.setIfInBounds_toArray, List.set_cons_zero, List.set_cons_succ]
  refine wpAnyT_ready1 (i := 10) (o := ⟨_, _, _, _, _, _⟩) (by kernel_rfl) rfl (fun KC_ hK => ?_)
  try rw [if_pos (by first | rfl | (show (some _ == some _) = true; simp; done) | (show (some _ == some _) = true; simp; omega))]
  go_simp
  go_at_call 67
  refine (I_gridEqual _ _ _ _ _ _ _ _ _ hr7 hr8).mono ?_
  rintro e w9 ⟨rfl, hb⟩
  have hcur := bthen hcur hb
  clear hb
  have hS := And.intro (cell_later hcur c0) (cell_later hcur c1)
  refine hK _ _ (fun _ => hS) ?_
  try simp only [Act.put, List.setIfInBounds_toArray, List.set_cons_zero, List.set_cons_succ]
  refine wpAnyT_take (i := 11) (oi := ⟨_, _, _, _, _, _⟩) (v := ?vr6_11) (by kernel_rfl) (by decide) rfl (by kernel_rfl) (by kernel_rfl) (by kernel_rfl) (fun _ _ _ h => h) (Or.inl ⟨by rfl, ?hyr6_11⟩) hS ?restr6_11
  case hyr6_11 =>
    intro w' hSw
    obtain ⟨s0, s1⟩ := hSw
    go_simp
    try with_reducible rfl
  try simp only [Act.put, List.setIfInBounds_toArray, List.set_cons_zero, List.set_cons_succ]
  refine wpAnyT_take (i := 12) (oi := ⟨_, _, _, _, _, _⟩) (v := ?vr6_12) (by kernel_rfl) (by decide) rfl (by kernel_rfl) (by kernel_rfl) (by kernel_rfl) (fun _ _ _ h => h) (Or.inl ⟨by rfl, ?hyr6_12⟩) hS ?restr6_12
  case hyr6_12 =>
    intro w' hSw
    obtain ⟨s0, s1⟩ := hSw
    go_simp
    try with_reducible rfl
  try simp only [Act.put, List.setIfInBounds_toArray, List.set_cons_zero, List.set_cons_succ]
  refine wpAnyT_done (by kernel_rfl) ?_ _
  go_wp2
  go_ret
  exact ⟨ret_bool (by unfold rSame; rw [HP.out, HQ.out, HE.out]; simp), bthen hB hcur⟩

end Go.Proofs.Ytiemhadpepbcjaa
