/-
  Walks: the program's copyOf, BareProgram. Condition: the argument reads as a program.
-/
import Derived.Test.YtelhemhbgpfokaaHoldP
import Derived.Test.YtelhemhbgpfokaaDel
import Derived.Test.YtelhemhbgpfokaaImpl3
import Derived.Test.YtelhemhbgpfokaaSpec3
namespace Go.Proofs.Ytelhemhbgpfokaa
open Go.RowKit
set_option linter.unusedVariables false

def cpTo (p : Pr) (k : Nat) : Pr := p.take k ++ List.replicate (p.length - k) default
theorem cpTo_len (p : Pr) (k : Nat) (h : k ≤ p.length) : (cpTo p k).length = p.length := by
  unfold cpTo
  rw [List.length_append, List.length_take, List.length_replicate]
  omega
theorem cpTo_zero (p : Pr) : cpTo p 0 = List.replicate p.length default := by simp [cpTo]
theorem cpTo_all (p : Pr) : cpTo p p.length = p := by simp [cpTo]
theorem cpTo_succ (p : Pr) (k : Nat) (h : k < p.length) : (cpTo p k).set k (p.getD k default) = cpTo p (k + 1) := by
  have e : (p.take k).length = k := by rw [List.length_take]; omega
  unfold cpTo
  rw [List.set_append, if_neg (by omega), e, Nat.sub_self, show p.length - k = (p.length - (k + 1)) + 1 by omega, List.replicate_succ, List.set_cons_zero, List.take_succ_eq_append_getElem h, List.append_assoc]
  simp [List.getD, h]
theorem below_of_none {w w' : World} (h : w.grownBy w' none) : Below w.heap.size w w' := ⟨h.os, h.tape, h.output, h.size, fun k hk => h.block k hk (by simp)⟩
theorem range_getD (f : Nat → Value) (m j : Nat) (h : j < m) : ((List.range m).map f).getD j undef = f j := by simp [List.getD, h]
/-- Zero blocks, made at once. -/
theorem PRowX.made (w : World) (lo n : Nat) (hl : lo ≤ w.heap.size) (hn : n ≤ 1000) :
    ∃ xs, PRow (w.alloc (.cells (madeCells #[.int .i64 0, .int .i64 0, .slice none 0 0, .slice none 0 0] (n * 4)) 59)) lo (.slice (some ⟨w.heap.size, 0, none⟩) n n) xs (List.replicate n default) ∧ ApartP xs n := by
  have h := rowIs_madeN w #[.int .i64 0, .int .i64 0, .slice none 0 0, .slice none 0 0] (n * 4) 59
  have h1 := own_of_row (size := 4) h hl (by unfold maxLen; omega)
  have g0 : ∀ i, i < n → ((List.range (n * 4)).map (fun j => (#[.int .i64 0, .int .i64 0, .slice none 0 0, .slice none 0 0] : Array Value)[j % (#[.int .i64 0, .int .i64 0, .slice none 0 0, .slice none 0 0] : Array Value).size]!)).getD (i * 4) undef = .int .i64 0 := fun i hi => by rw [range_getD _ _ _ (by omega)]; simp
  have g1 : ∀ i, i < n → ((List.range (n * 4)).map (fun j => (#[.int .i64 0, .int .i64 0, .slice none 0 0, .slice none 0 0] : Array Value)[j % (#[.int .i64 0, .int .i64 0, .slice none 0 0, .slice none 0 0] : Array Value).size]!)).getD (i * 4 + 1) undef = .int .i64 0 := fun i hi => by rw [range_getD _ _ _ (by omega)]; simp [Nat.add_mod]
  have g2 : ∀ i, i < n → ((List.range (n * 4)).map (fun j => (#[.int .i64 0, .int .i64 0, .slice none 0 0, .slice none 0 0] : Array Value)[j % (#[.int .i64 0, .int .i64 0, .slice none 0 0, .slice none 0 0] : Array Value).size]!)).getD (i * 4 + 2) undef = .slice none 0 0 := fun i hi => by rw [range_getD _ _ _ (by omega)]; simp [Nat.add_mod]
  have g3 : ∀ i, i < n → ((List.range (n * 4)).map (fun j => (#[.int .i64 0, .int .i64 0, .slice none 0 0, .slice none 0 0] : Array Value)[j % (#[.int .i64 0, .int .i64 0, .slice none 0 0, .slice none 0 0] : Array Value).size]!)).getD (i * 4 + 3) undef = .slice none 0 0 := fun i hi => by rw [range_getD _ _ _ (by omega)]; simp [Nat.add_mod]
  have gd : ∀ i, i < n → (List.replicate n (default : Bk)).getD i default = ⟨0, 0, [], []⟩ := fun i hi => by simp [List.getD, hi]; rfl
  generalize (List.range (n * 4)).map (fun j => (#[.int .i64 0, .int .i64 0, .slice none 0 0, .slice none 0 0] : Array Value)[j % (#[.int .i64 0, .int .i64 0, .slice none 0 0, .slice none 0 0] : Array Value).size]!) = xs at *
  have ap : ∀ V, Apart (.slice none 0 0) V := fun V r hr => by simp [Value.ownBlock] at hr
  refine ⟨xs, ⟨by rw [List.length_replicate]; exact h1, fun i hi => ?_, fun i hi => ?_, fun i hi _ => ?_, fun i j hi hj _ _ hij => ?_⟩, fun i j hi hj hij => ?_⟩
  · rw [List.length_replicate] at hi
    rw [g0 i hi, g1 i hi, gd i hi]
    exact ⟨rfl, rfl⟩
  · rw [List.length_replicate] at hi
    rw [g2 i hi, gd i hi]
    exact Ints.nil _ _
  · rw [List.length_replicate] at hi
    rw [g3 i hi, gd i hi]
    exact Stmts.nil _ _
  · rw [List.length_replicate] at hi
    rw [g3 i hi]
    exact ap _
  · rw [g2 i hi]
    exact ap _
section
variable {w : World} {lo k g n C : Nat} {xs : List Value} {p : Pr}
/-- A whole block is stored. -/
theorem PRowX.setBlock {a b : Int} {pv bv : Value} {ps : List Int} {bd : List St} (h : PRow w lo (.slice (some ⟨g, 0, none⟩) n C) xs p) (hap : ApartP xs p.length) (hk : k < p.length) (hp : Ints w lo pv ps) (hb : Stmts w lo bv bd)
    (hpa : ∀ i, i < p.length → i ≠ k → Apart (xs.getD (i * 4 + 2) undef) pv) (hba : ∀ i, i < p.length → i ≠ k → Apart (xs.getD (i * 4 + 3) undef) bv) :
    ∃ xs', PRow ((((w.setCell ⟨g, k * 4, none⟩ (.int .i64 a)).setCell ⟨g, k * 4 + 1, none⟩ (.int .i64 b)).setCell ⟨g, k * 4 + 2, none⟩ pv).setCell ⟨g, k * 4 + 3, none⟩ bv) lo (.slice (some ⟨g, 0, none⟩) n C) xs' (p.set k ⟨a, b, ps, bd⟩) ∧ ApartP xs' p.length := by
  have kI : ∀ (W : World) (ys : List Value) (q : Pr) (j : Nat) (u : Value), PRow W lo (.slice (some ⟨g, 0, none⟩) n C) ys q → Ints W lo pv ps → Ints (W.setCell ⟨g, j, none⟩ u) lo pv ps := fun W ys q j u hr hV => by
    obtain ⟨_, _, _, e, _⟩ := own_rd hr.own
    simp only [Value.slice.injEq] at e
    obtain ⟨_, rfl, _⟩ := e
    exact Ints.kept hV (World.ownsRow.stored hr.own j u).2 (by have := own_types hV hr.own (by decide); simpa [Value.ownBlock] using this)
  have kS : ∀ (W : World) (ys : List Value) (q : Pr) (j : Nat) (u : Value), PRow W lo (.slice (some ⟨g, 0, none⟩) n C) ys q → Stmts W lo bv bd → Stmts (W.setCell ⟨g, j, none⟩ u) lo bv bd := fun W ys q j u hr hV => by
    obtain ⟨_, _, _, e, _⟩ := own_rd hr.own
    simp only [Value.slice.injEq] at e
    obtain ⟨_, rfl, _⟩ := e
    exact Stmts.kept hV (World.ownsRow.stored hr.own j u).2 (by have := own_types hV hr.own (by decide); simpa [Value.ownBlock] using this)
  have h1 := PRowX.setKind (x := a) h hk
  have h2 := PRowX.setParent (x := b) h1 (by rw [List.length_set]; exact hk)
  have h3 := PRowX.setParams h2 (by rw [List.length_set, List.length_set]; exact hk) (kI _ _ _ _ _ h1 (kI _ _ _ _ _ h hp))
  have hl := h.own.1
  have h4 := PRowX.setBody (PRowX.part h3 k) (by rw [List.length_set, List.length_set, List.length_set]; exact hk) (kS _ _ _ _ _ h2 (kS _ _ _ _ _ h1 (kS _ _ _ _ _ h hb))) (fun i hi hik => by
    rw [List.length_set, List.length_set, List.length_set] at hi
    rw [getD_set_ne _ _ _ _ _ (by omega), getD_set_ne _ _ _ _ _ (by omega), getD_set_ne _ _ _ _ _ (by omega)]
    exact hba i hi hik)
  rw [set4_eq p k hk] at h4
  have gk : ((((xs.set (k * 4) (.int .i64 a)).set (k * 4 + 1) (.int .i64 b)).set (k * 4 + 2) pv).set (k * 4 + 3) bv).getD (k * 4 + 2) undef = pv := by
    rw [getD_set_ne _ _ _ _ _ (by omega), getD_set_eq _ _ _ _ (by rw [List.length_set, List.length_set]; omega)]
  have ge : ∀ i, i ≠ k → ((((xs.set (k * 4) (.int .i64 a)).set (k * 4 + 1) (.int .i64 b)).set (k * 4 + 2) pv).set (k * 4 + 3) bv).getD (i * 4 + 2) undef = xs.getD (i * 4 + 2) undef := fun i hi => by
    rw [getD_set_ne _ _ _ _ _ (by omega), getD_set_ne _ _ _ _ _ (by omega), getD_set_ne _ _ _ _ _ (by omega), getD_set_ne _ _ _ _ _ (by omega)]
  refine ⟨_, h4, fun i j hi hj hij => ?_⟩
  by_cases e : i = k
  · subst e
    rw [gk, ge j (by omega)]
    exact fun r hr hr' => hpa j hj (by omega) r hr' hr
  · rw [ge i e]
    by_cases e' : j = k
    · subst e'
      rw [gk]
      exact hpa i hi e
    · rw [ge j e']
      exact hap i j hi hj hij
end

set_option maxRecDepth 100000 in
set_option maxHeartbeats 2000000 in
theorem I_copyOf (sl : Value) (p : Pr) (lo : Nat) (w : World) (hv : Blks w lo sl p) (hl : p.length ≤ 1000) (hbl : ∀ b, b < p.length → (p.getD b default).body.length ≤ 1000 ∧ (p.getD b default).params.length ≤ 1000) :
    Calls Try.prog 65 #[.agg #[sl]] w fun e w' => ∃ sl' xs, e = .returned (.agg #[sl']) ∧ PRow w' w.heap.size sl' xs p ∧ ApartP xs p.length ∧ Below w.heap.size w w' := by
  obtain ⟨A, C, g, rfl, hn, hc, hA, hg, hcell, hf⟩ := hv.rd
  have HV := Lib.hid hv
  have HCELL := Lib.hid hcell
  have HBL := Lib.hid hbl
  unfold maxLen at hc
  obtain ⟨i0, hi, hz0, hz1, hz2⟩ := info_parts Try.info59
  have hmk := fun w => run_make_rowN (P := Try.prog) 23 59 i0 _ Try.underlying23 hi hz0 p.length (by rw [hz2]; omega) (by omega) w
  rw [hz1] at hmk
  clear hv hcell hf hbl
  go_enter Try.func65, Try.ntmps65
  go_wp2
  clear hmk
  obtain ⟨W0, hW0⟩ : ∃ W0 : World, W0 = (((w.alloc (.cells #[.slice A p.length C] 25)).alloc (.cells #[.slice none 0 0] 25)).alloc (.cells (madeCells #[.int .i64 0, .int .i64 0, .slice none 0 0, .slice none 0 0] (p.length * 4)) 59)).alloc (.cells #[.slice (some ⟨w.heap.size + 2, 0, none⟩) p.length p.length] 25) := ⟨_, rfl⟩
  have hb0 : Below w.heap.size w W0 := by rw [hW0]; exact al4
  have z0 : W0.heap.size = w.heap.size + 4 := by rw [hW0]; simp
  have c0 : W0.cell? ⟨w.heap.size, 0, none⟩ = some (.slice A p.length C) := by rw [hW0]; simp [go_sem]
  have q0 : W0.cell? ⟨w.heap.size + 1, 0, none⟩ = some (.slice none 0 0) := by rw [hW0]; simp [go_sem]
  have u0 : W0.frozen? ⟨w.heap.size + 1, 0, none⟩ = false := by rw [hW0]; simp [go_sem]
  have t0 : W0.cell? ⟨w.heap.size + 3, 0, none⟩ = some (.slice (some ⟨w.heap.size + 2, 0, none⟩) p.length p.length) := by rw [hW0]; simp [go_sem]
  have hrow0 : ∃ xs, PRow W0 (w.heap.size + 2) (.slice (some ⟨w.heap.size + 2, 0, none⟩) p.length p.length) xs (List.replicate p.length default) ∧ ApartP xs p.length := by
    obtain ⟨xs, h1, h2⟩ := PRowX.made ((w.alloc (.cells #[.slice A p.length C] 25)).alloc (.cells #[.slice none 0 0] 25)) (w.heap.size + 2) p.length (by simp) hl
    refine ⟨xs, ?_, h2⟩
    rw [hW0]
    have h3 := PRowX.keep h1 (al1 (o := .cells #[.slice (some ⟨w.heap.size + 2, 0, none⟩) p.length p.length] 25))
    simp only [World.size_alloc] at h3
    exact h3
  rw [← hW0]
  obtain ⟨xs0, hr0, ha0⟩ := hrow0
  have hz : w.heap.size + 4 ≤ W0.heap.size := by omega
  have HR0 := Lib.hid hr0
  have HA0 := Lib.hid ha0
  have HB0 := Lib.hid hb0
  clear hb0 hW0 z0 hr0 ha0
  go_loopw [14] (fun i wr => ∃ (k : Nat) (xs : List Value), k ≤ p.length ∧ i = .int .i64 k ∧ PRow wr (w.heap.size + 2) (.slice (some ⟨w.heap.size + 2, 0, none⟩) p.length p.length) xs (cpTo p k) ∧ ApartP xs p.length ∧ wr.cell? ⟨w.heap.size + 3, 0, none⟩ = some (.slice (some ⟨w.heap.size + 2, 0, none⟩) p.length p.length) ∧ Below (w.heap.size + 2) W0 wr) (fun i _ => p.length - (intOf i).toNat)
  case atStart => exact ⟨0, xs0, Nat.zero_le _, rfl, by rw [cpTo_zero]; exact HR0.out, HA0.out, t0, Below.refl _ _⟩
  case round =>
    clear t0
    obtain ⟨k, xs, hk, rfl, hrow, hap, ht, hB⟩ := hrel
    by_cases hlt : k < p.length
    · obtain ⟨pv0, bv0, d0, d1, d2, d3, hp, hb⟩ := HCELL.out k hlt
      obtain ⟨hgl, hgw⟩ := hg (by omega)
      have hzr := hB.size
      have hBw : Below w.heap.size w wr := HB0.out.trans (hB.mono (by omega))
      have e0 := (hBw.cell (p := ⟨g, k * 4, none⟩) hgw).trans d0
      have e1 := (hBw.cell (p := ⟨g, k * 4 + 1, none⟩) hgw).trans d1
      have e2 := (hBw.cell (p := ⟨g, k * 4 + 2, none⟩) hgw).trans d2
      have e3 := (hBw.cell (p := ⟨g, k * 4 + 3, none⟩) hgw).trans d3
      have hp2 := hp.keep hBw
      have hb2 := hb.keep hBw
      obtain ⟨hbl1, hbl2⟩ := HBL.out k hlt
      obtain rfl := hA (by omega)
      obtain ⟨A2, C2, rfl⟩ := hp2.form
      obtain ⟨A3, C3, rfl⟩ := hb2.form
      have hcs := cpTo_succ p k hlt
      obtain ⟨K, hK⟩ : ∃ K : Bk, K = p.getD k default := ⟨_, rfl⟩
      rw [← hK] at e0 e1 e2 e3 hp2 hb2 hbl1 hbl2 hcs
      obtain ⟨kind, parent, ps, body⟩ := K
      simp only at e0 e1 e2 e3 hp2 hb2 hbl1 hbl2
      have HCS := Lib.hid hcs
      have hi : (k : Int) < (p.length : Int) := by omega
      have hi0 : (0 : Int) ≤ (k : Int) := by omega
      have hpa : ∀ (U : Value), (∀ r, U.ownBlock = some r → wr.heap.size ≤ r) → ∀ i, i < (cpTo p k).length → Apart (xs.getD (i * 4 + 2) undef) U := fun U hU i hi r h1 h2 => by
        have := own_block_lt (hrow.pars i hi) r h1
        have := hU r h2
        omega
      have hba : ∀ (U : Value), (∀ r, U.ownBlock = some r → wr.heap.size ≤ r) → ∀ i, i < (cpTo p k).length → Apart (xs.getD (i * 4 + 3) undef) U := fun U hU i hi r h1 h2 => by
        have := own_block_lt (PRowX.full hrow hi) r h1
        have := hU r h2
        omega
      have HPA := Lib.hid hpa
      have HBA := Lib.hid hba
      have HROW := Lib.hid hrow
      have HAP := Lib.hid hap
      have HP2 := Lib.hid hp2
      have HB2 := Lib.hid hb2
      clear d0 d1 d2 d3 hp hb hK hcs hA hg hrow hap hpa hba hp2 hb2
      go_wp2
      obtain ⟨W1, hW1⟩ : ∃ W1 : World, W1 = (wr.alloc (.cells #[.int .i64 kind, .int .i64 parent, .slice A2 ps.length C2, .slice A3 body.length C3] 59)).drew := ⟨_, rfl⟩
      have hb1 : Below wr.heap.size wr W1 := by rw [hW1]; exact al1.drew
      have z1 : wr.heap.size < W1.heap.size := by rw [hW1]; show _ < (wr.alloc _).heap.size; simp
      have k0 : W1.cell? ⟨wr.heap.size, 0, none⟩ = some (.int .i64 kind) := by rw [hW1]; simp [go_sem]
      have k1 : W1.cell? ⟨wr.heap.size, 1, none⟩ = some (.int .i64 parent) := by rw [hW1]; simp [go_sem]
      have k2 : W1.cell? ⟨wr.heap.size, 2, none⟩ = some (.slice A2 ps.length C2) := by rw [hW1]; simp [go_sem]
      have k3 : W1.cell? ⟨wr.heap.size, 3, none⟩ = some (.slice A3 body.length C3) := by rw [hW1]; simp [go_sem]
      have k4 : W1.cell? ⟨w.heap.size + 3, 0, none⟩ = some (.slice (some ⟨w.heap.size + 2, 0, none⟩) p.length p.length) := cell_later hb1 ht
      have hS := And.intro k0 (And.intro k1 (And.intro k2 (And.intro k3 k4)))
      refine wp_region_T 15 (by kernel_rfl) (fun w' => w'.cell? ⟨wr.heap.size, 0, none⟩ = some (.int .i64 kind) ∧ w'.cell? ⟨wr.heap.size, 1, none⟩ = some (.int .i64 parent) ∧ w'.cell? ⟨wr.heap.size, 2, none⟩ = some (.slice A2 ps.length C2) ∧ w'.cell? ⟨wr.heap.size, 3, none⟩ = some (.slice A3 body.length C3) ∧ w'.cell? ⟨w.heap.size + 3, 0, none⟩ = some (.slice (some ⟨w.heap.size + 2, 0, none⟩) p.length p.length)) ?_
      rw [← hW1]
      clear hW1 ht e0 e1 e2 e3
      refine wpAnyT_take (i := 0) (oi := ⟨_, _, _, _, _, _⟩) (v := ?vr1_0) (by kernel_rfl) (by decide) rfl (by kernel_rfl) (by kernel_rfl) (by kernel_rfl) (fun _ _ _ h => h) (Or.inl ⟨by rfl, ?hyr1_0⟩) hS ?restr1_0
      case hyr1_0 =>
        intro w' hSw
        obtain ⟨s0, s1, s2, s3, s4⟩ := hSw
        go_simp
        try with_reducible rfl
      try simp only [Act.put, List.setIfInBounds_toArray, List.set_cons_zero, List.set_cons_succ]
      refine wpAnyT_take (i := 1) (oi := ⟨_, _, _, _, _, _⟩) (v := ?vr1_1) (by kernel_rfl) (by decide) rfl (by kernel_rfl) (by kernel_rfl) (by kernel_rfl) (fun _ _ _ h => h) (Or.inl ⟨by rfl, ?hyr1_1⟩) hS ?restr1_1
      case hyr1_1 =>
        intro w' hSw
        obtain ⟨s0, s1, s2, s3, s4⟩ := hSw
        go_simp
        try with_reducible rfl
      try simp only [Act.put, List.setIfInBounds_toArray, List.set_cons_zero, List.set_cons_succ]
      refine wpAnyT_take (i := 2) (oi := ⟨_, _, _, _, _, _⟩) (v := ?vr1_2) (by kernel_rfl) (by decide) rfl (by kernel_rfl) (by kernel_rfl) (by kernel_rfl) (fun _ _ _ h => h) (Or.inl ⟨by rfl, ?hyr1_2⟩) hS ?restr1_2
      case hyr1_2 =>
        intro w' hSw
        obtain ⟨s0, s1, s2, s3, s4⟩ := hSw
        go_simp
        try with_reducible rfl
      try simp only [Act.put, List.setIfInBounds_toArray, List.set_cons_zero, List.set_cons_succ]
      refine wpAnyT_take (i := 3) (oi := ⟨_, _, _, _, _, _⟩) (v := ?vr1_3) (by kernel_rfl) (by decide) rfl (by kernel_rfl) (by kernel_rfl) (by kernel_rfl) (fun _ _ _ h => h) (Or.inl ⟨by rfl, ?hyr1_3⟩) hS ?restr1_3
      case hyr1_3 =>
        intro w' hSw
        obtain ⟨s0, s1, s2, s3, s4⟩ := hSw
        go_simp
        try with_reducible rfl
      try simp only [Act.put, List.setIfInBounds_toArray, List.set_cons_zero, List.set_cons_succ]
      refine wpAnyT_take (i := 4) (oi := ⟨_, _, _, _, _, _⟩) (v := ?vr1_4) (by kernel_rfl) (by decide) rfl (by kernel_rfl) (by kernel_rfl) (by kernel_rfl) (fun _ _ _ h => h) (Or.inl ⟨by rfl, ?hyr1_4⟩) hS ?restr1_4
      case hyr1_4 =>
        intro w' hSw
        obtain ⟨s0, s1, s2, s3, s4⟩ := hSw
        go_simp
        try with_reducible rfl
      try simp only [Act.put, List.setIfInBounds_toArray, List.set_cons_zero, List.set_cons_succ]
      refine wpAnyT_take (i := 5) (oi := ⟨_, _, _, _, _, _⟩) (v := ?vr1_5) (by kernel_rfl) (by decide) rfl (by kernel_rfl) (by kernel_rfl) (by kernel_rfl) (fun _ _ _ h => h) (Or.inl ⟨by rfl, ?hyr1_5⟩) hS ?restr1_5
      case hyr1_5 =>
        intro w' hSw
        obtain ⟨s0, s1, s2, s3, s4⟩ := hSw
        go_simp
        try with_reducible rfl
      try simp only [Act.put, List.setIfInBounds_toArray, List.set_cons_zero, List.set_cons_succ]
      refine wpAnyT_take (i := 6) (oi := ⟨_, _, _, _, _, _⟩) (v := ?vr1_6) (by kernel_rfl) (by decide) rfl (by kernel_rfl) (by kernel_rfl) (by kernel_rfl) (fun _ _ _ h => h) (Or.inl ⟨by rfl, ?hyr1_6⟩) hS ?restr1_6
      case hyr1_6 =>
        intro w' hSw
        obtain ⟨s0, s1, s2, s3, s4⟩ := hSw
        go_simp
        try with_reducible rfl
      try simp only [Act.put, List.setIfInBounds_toArray, List.set_cons_zero, List.set_cons_succ]
      refine wpAnyT_take (i := 7) (oi := ⟨_, _, _, _, _, _⟩) (v := ?vr1_7) (by kernel_rfl) (by decide) rfl (by kernel_rfl) (by kernel_rfl) (by kernel_rfl) (fun _ _ _ h => h) (Or.inl ⟨by rfl, ?hyr1_7⟩) hS ?restr1_7
      case hyr1_7 =>
        intro w' hSw
        obtain ⟨s0, s1, s2, s3, s4⟩ := hSw
        go_simp
        try with_reducible rfl
      try simp only [Act.put, List.setIfInBounds_toArray, List.set_cons_zero, List.set_cons_succ]
      refine wpAnyT_take (i := 8) (oi := ⟨_, _, _, _, _, _⟩) (v := ?vr1_8) (by kernel_rfl) (by decide) rfl (by kernel_rfl) (by kernel_rfl) (by kernel_rfl) (fun _ _ _ h => h) (Or.inl ⟨by rfl, ?hyr1_8⟩) hS ?restr1_8
      case hyr1_8 =>
        intro w' hSw
        obtain ⟨s0, s1, s2, s3, s4⟩ := hSw
        go_simp
        try with_reducible rfl
      try simp only [Act.put, List.setIfInBounds_toArray, List.set_cons_zero, List.set_cons_succ]
      refine wpAnyT_take (i := 10) (oi := ⟨_, _, _, _, _, _⟩) (v := ?vr1_10) (by kernel_rfl) (by decide) rfl (by kernel_rfl) (by kernel_rfl) (by kernel_rfl) (fun _ _ _ h => h) (Or.inl ⟨by rfl, ?hyr1_10⟩) hS ?restr1_10
      case hyr1_10 =>
        intro w' hSw
        obtain ⟨s0, s1, s2, s3, s4⟩ := hSw
        go_simp
        try with_reducible rfl
      try simp only [Act.put, List.setIfInBounds_toArray, List.set_cons_zero, List.set_cons_succ]
      refine wpAnyT_take (i := 11) (oi := ⟨_, _, _, _, _, _⟩) (v := ?vr1_11) (by kernel_rfl) (by decide) rfl (by kernel_rfl) (by kernel_rfl) (by kernel_rfl) (fun _ _ _ h => h) (Or.inl ⟨by rfl, ?hyr1_11⟩) hS ?restr1_11
      case hyr1_11 =>
        intro w' hSw
        obtain ⟨s0, s1, s2, s3, s4⟩ := hSw
        go_simp
        try with_reducible rfl
      try simp only [Act.put, List.setIfInBounds_toArray, List.set_cons_zero, List.set_cons_succ]
      refine wpAnyT_ready1 (i := 9) (o := ⟨_, _, _, _, _, _⟩) (by kernel_rfl) rfl (fun KC_ hK => ?_)
      refine step_append_ints rfl _ _ rfl (.slice none 0 0) (.slice A2 ps.length C2) [] ps W1.heap.size _ rfl rfl (Ints.nil _ _) (HP2.out.keep hb1) (by simp; omega) (Nat.le_refl _) ?_
      intro pv w3 hpo hg3 hb3 hf3
      rw [List.nil_append] at hpo
      have hx3 := below_of_none hg3
      clear hg3 hb3 hf3
      have k0 := cell_later hx3 k0
      have k1 := cell_later hx3 k1
      have k2 := cell_later hx3 k2
      have k3 := cell_later hx3 k3
      have k4 := cell_later hx3 k4
      have hS := And.intro k0 (And.intro k1 (And.intro k2 (And.intro k3 k4)))
      obtain ⟨A5, C5, rfl⟩ := hpo.form
      refine hK _ _ (fun _ => hS) ?_
      try simp only [Act.put, List.setIfInBounds_toArray, List.set_cons_zero, List.set_cons_succ]
      refine wpAnyT_ready1 (i := 12) (o := ⟨_, _, _, _, _, _⟩) (by kernel_rfl) rfl (fun KC_ hK => ?_)
      refine step_append_stmts rfl _ _ rfl (.slice none 0 0) (.slice A3 body.length C3) [] body W1.heap.size rfl rfl (Stmts.nil _ _) ((HB2.out.keep hb1).keep hx3).feed (by simp; omega) hx3.size ?_
      intro bv w4 hbo hg4 hb4 hf4
      rw [List.nil_append] at hbo
      have hx4 := below_of_none hg4
      clear hg4 hb4 hf4
      have k0 := cell_later hx4 k0
      have k1 := cell_later hx4 k1
      have k2 := cell_later hx4 k2
      have k3 := cell_later hx4 k3
      have k4 := cell_later hx4 k4
      have hS := And.intro k0 (And.intro k1 (And.intro k2 (And.intro k3 k4)))
      obtain ⟨A6, C6, rfl⟩ := hbo.form
      have hpo4 := hpo.keep hx4
      have hz4 : wr.heap.size < w4.heap.size := Nat.lt_of_lt_of_le (Nat.lt_of_lt_of_le z1 hx3.size) hx4.size
      have hBw4 := bthen (bthen hb1 hx3) hx4
      have HPO := Lib.hid hpo4
      have HBO := Lib.hid hbo
      have HB4 := Lib.hid hBw4
      have hr4 := PRowX.keep HROW.out hBw4
      have HR4 := Lib.hid hr4
      clear hpo hbo hpo4
      refine hK _ _ (fun _ => hS) ?_
      try simp only [Act.put, List.setIfInBounds_toArray, List.set_cons_zero, List.set_cons_succ]
      refine wpAnyT_take (i := 13) (oi := ⟨_, _, _, _, _, _⟩) (v := ?vr1_13) (by kernel_rfl) (by decide) rfl (by kernel_rfl) (by kernel_rfl) (by kernel_rfl) (fun _ _ _ h => h) (Or.inl ⟨by rfl, ?hyr1_13⟩) hS ?restr1_13
      case hyr1_13 =>
        intro w' hSw
        obtain ⟨s0, s1, s2, s3, s4⟩ := hSw
        go_simp
        try with_reducible rfl
      try simp only [Act.put, List.setIfInBounds_toArray, List.set_cons_zero, List.set_cons_succ]
      refine wpAnyT_take (i := 14) (oi := ⟨_, _, _, _, _, _⟩) (v := ?vr1_14) (by kernel_rfl) (by decide) rfl (by kernel_rfl) (by kernel_rfl) (by kernel_rfl) (fun _ _ _ h => h) (Or.inl ⟨by rfl, ?hyr1_14⟩) hS ?restr1_14
      case hyr1_14 =>
        intro w' hSw
        obtain ⟨s0, s1, s2, s3, s4⟩ := hSw
        go_simp
        try with_reducible rfl
      try simp only [Act.put, List.setIfInBounds_toArray, List.set_cons_zero, List.set_cons_succ]
      refine wpAnyT_ready1 (i := 15) (o := ⟨_, _, _, _, _, _⟩) (by kernel_rfl) rfl (fun KC_ hK => ?_)
      obtain ⟨g9, C9, e9, _, _, _, hgl9, hcell9, hf9⟩ := PRowX.rd hr4 (by rw [cpTo_len p k hk]; omega)
      simp only [Value.slice.injEq, Option.some.injEq, Addr.mk.injEq, and_true] at e9
      obtain ⟨rfl, hz9, rfl⟩ := e9
      clear hz9
      rw [cpTo_len p k hk] at hcell9
      have r0 := hcell9 (k * 4) (by omega)
      have r1 := hcell9 (k * 4 + 1) (by omega)
      have r2 := hcell9 (k * 4 + 2) (by omega)
      have r3 := hcell9 (k * 4 + 3) (by omega)
      have f0 := hf9 (k * 4)
      have f1 := hf9 (k * 4 + 1)
      have f2 := hf9 (k * 4 + 2)
      have f3 := hf9 (k * 4 + 3)
      clear hcell9 hf9 hr4
      go_simp
      refine hK _ _ (fun h => absurd h (by decide)) ?_
      try simp only [Act.put, List.setIfInBounds_toArray, List.set_cons_zero, List.set_cons_succ]
      refine wpAnyT_done (by kernel_rfl) ?_ _
      clear r0 r1 r2 r3 f0 f1 f2 f3 hS k0 k1 k2 k3
      go_wp2
      go_roundw
      case rel =>
        obtain ⟨xs', h1, h2⟩ := PRowX.setBlock (k := k) (a := kind) (b := parent) HR4.out (by rw [cpTo_len p k hk]; exact HAP.out) (by rw [cpTo_len p k hk]; exact hlt) (HPO.out.lo_ (by omega)) (HBO.out.lo_ (by omega)) (fun i hi _ => HPA.out _ (fun r hr => by have := own_block_ge HPO.out r hr; omega) i hi) (fun i hi _ => HBA.out _ (fun r hr => by have := own_block_ge HBO.out r hr; omega) i hi)
        rw [HCS.out] at h1
        rw [cpTo_len p k hk] at h2
        exact ⟨k + 1, xs', by omega, by go_num, h1, h2, by simp [go_sem, k4], (((((hB.trans (HB4.out.mono (by omega))).setCell (Nat.le_refl _) _).setCell (Nat.le_refl _) _).setCell (Nat.le_refl _) _).setCell (Nat.le_refl _) _)⟩
      case measure => simp [intOf]; omega
    · obtain rfl : k = p.length := by omega
      rw [cpTo_all] at hrow
      have q1 := (hB.cell (p := ⟨w.heap.size + 1, 0, none⟩) (by show w.heap.size + 1 < _; omega)).trans q0
      have u1 := ((bcell hB).2 (w.heap.size + 1) 0 (by omega)).trans u0
      have HROW := Lib.hid hrow
      have hzr := hB.size
      clear hrow q0 u0
      go_wp2
      exact bodyPost_ret (v := .agg #[.slice (some ⟨w.heap.size + 2, 0, none⟩) p.length p.length]) (by simp [results, Try.results65, go_sem, q1]) rfl
        ⟨_, xs, rfl, (PRowX.only HROW.out ((Only.refl (w.heap.size + 1) (w.heap.size + 2) wr).setCell (Nat.le_refl _) (Nat.lt_succ_self _) _) (Nat.le_refl _)).lo_ (by omega), hap, (HB0.out.trans (hB.mono (by omega))).setCell (by show w.heap.size ≤ w.heap.size + 1; omega) _⟩

def rBare (p : Pr) : Pr := if shape p then bareP p else []

set_option maxRecDepth 100000 in
set_option maxHeartbeats 2000000 in
theorem I_BareProgram (v : Value) (p : Pr) (lo : Nat) (w : World) (hv : Prog w lo v p) :
    Calls Try.prog 29 #[v] w fun e w' => ∃ sl' xs, e = .returned (.agg #[sl']) ∧ PRow w' w.heap.size sl' xs (rBare p) ∧ ApartP xs (rBare p).length ∧ Below w.heap.size w w' := by
  obtain ⟨sl, rfl, hv⟩ := hv
  have HV := Lib.hid hv
  obtain ⟨A, C, rfl⟩ := hv.form
  clear hv
  go_enter Try.func29, Try.ntmps29
  go_wp2_with fail
  have d0 : ∀ (w' : World), Below ((w.alloc (.cells #[.slice A p.length C] 25)).alloc (.cells #[.slice none 0 0] 25)).heap.size ((w.alloc (.cells #[.slice A p.length C] 25)).alloc (.cells #[.slice none 0 0] 25)) w' → w'.cell? ⟨w.heap.size, 0, none⟩ = some (.slice A p.length C) ∧ w'.cell? ⟨w.heap.size + 1, 0, none⟩ = some (.slice none 0 0) ∧ w'.frozen? ⟨w.heap.size + 1, 0, none⟩ = false ∧ w.heap.size + 2 ≤ w'.heap.size := fun w' hb => ⟨cell_later hb (by simp [go_sem]), cell_later hb (by simp [go_sem]), ((bcell hb).2 _ _ (by simp)).trans (by simp [go_sem]), by have := hb.size; simp only [World.size_alloc] at this; omega⟩
  have D0 := Lib.hid d0
  clear d0
  refine (I_ValidShape _ p lo _ ⟨_, rfl, HV.out.keep al2⟩).mono ?_
  rintro e w1 ⟨rfl, hb1⟩
  obtain ⟨c1, q1, u1, z1⟩ := D0.out _ hb1
  have hB1 := bthen (al2 (w := w)) hb1
  have HB1 := Lib.hid hB1
  clear hb1 hB1
  cases hs : shape p
  · have HS := Lib.hid hs
    clear hs
    go_wp2
    refine bodyPost_ret (v := .agg #[.slice none 0 0]) (by simp [results, Try.results29, go_sem, q1]) rfl ⟨_, [], rfl, ?_, ?_, HB1.out.setCell (by show w.heap.size ≤ w.heap.size + 1; omega) _⟩
    · unfold rBare
      rw [HS.out]
      exact PRowX.nil _ _
    · unfold rBare
      rw [HS.out]
      exact fun i j hi => absurd hi (Nat.not_lt_zero _)
  · have hl := shape_len hs
    have hbl : ∀ b, b < p.length → (p.getD b default).body.length ≤ 1000 ∧ (p.getD b default).params.length ≤ 1000 := fun b hb => by
      have h1 := shape_body hs b (by omega) (by omega)
      have h2 := (shape_params hs b (by omega) (by omega)).1
      rw [bk_nat] at h1 h2
      exact ⟨by omega, by omega⟩
    have hbo12 : ∀ b, b < p.length → (p.getD b default).body.length ≤ 1000 := fun b hb => (hbl b hb).1
    have HBL := Lib.hid hbl
    have HBO12 := Lib.hid hbo12
    have hrb : rBare p = bareP p := by unfold rBare; rw [hs]; rfl
    have HRB := Lib.hid hrb
    clear hs hbl hbo12 hrb
    go_wp2_with fail
    refine (I_copyOf _ p lo _ (HV.out.keep HB1.out) (by omega) HBL.out).mono ?_
    rintro e w2 ⟨sl2, xs2, rfl, hr2, ha2, hb2⟩
    obtain ⟨g, Cg, rfl, hnC, hC, hLg, hgw2, _, _⟩ := PRowX.rd hr2 (by omega)
    have hz2 := hb2.size
    have c2 := cell_later hb2 c1
    have q2 := cell_later hb2 q1
    have u2 := ((bcell hb2).2 (w.heap.size + 1) 0 (by omega)).trans u1
    have HB2 := Lib.hid (bthen HB1.out hb2)
    obtain ⟨L, hL⟩ : ∃ L : Nat, L = w1.heap.size := ⟨_, rfl⟩
    rw [← hL] at hr2 hLg
    have hL1 : w.heap.size + 2 ≤ L := by omega
    have hL2 : L ≤ w2.heap.size := by omega
    have hlt2 : ∀ i, i < p.length → ∀ r, (xs2.getD (i * 4 + 3) undef).ownBlock = some r → r < w2.heap.size := fun i hi r hr => own_block_lt (PRowX.full hr2 hi) r hr
    have HR2 := Lib.hid hr2
    have HA2 := Lib.hid ha2
    have HLT2 := Lib.hid hlt2
    clear c1 q1 u1 hb2 hL hr2 ha2 hlt2 z1 hz2
    go_wp2
    obtain ⟨W3, hW3⟩ : ∃ W3 : World, W3 = w2.alloc (.cells #[.slice (some ⟨g, 0, none⟩) p.length Cg] 25) := ⟨_, rfl⟩
    have hb3 : Below w2.heap.size w2 W3 := by rw [hW3]; exact al1
    have t3 : W3.cell? ⟨w2.heap.size, 0, none⟩ = some (.slice (some ⟨g, 0, none⟩) p.length Cg) := by rw [hW3]; simp [go_sem]
    have q3 := cell_later hb3 q2
    have u3 := ((bcell hb3).2 (w.heap.size + 1) 0 (by omega)).trans u2
    have hr3 := PRowX.keep HR2.out hb3
    have HB3 := Lib.hid hb3
    have HR3 := Lib.hid hr3
    rw [← hW3]
    clear hW3 hb3 hr3 c2 q2 u2
    go_loopw [14] (fun i wr => ∃ (k : Nat) (xs : List Value), k ≤ p.length ∧ i = .int .i64 k ∧ PRow wr L (.slice (some ⟨g, 0, none⟩) p.length Cg) xs (outTo p k) ∧ ApartP xs p.length ∧ (∀ i, i < p.length → ∀ r, (xs.getD (i * 4 + 3) undef).ownBlock = some r → r < w2.heap.size) ∧ wr.cell? ⟨w2.heap.size, 0, none⟩ = some (.slice (some ⟨g, 0, none⟩) p.length Cg) ∧ Below L W3 wr) (fun i _ => p.length - (intOf i).toNat)
    case atStart => exact ⟨0, xs2, Nat.zero_le _, rfl, by rw [outTo_zero]; exact HR3.out, HA2.out, HLT2.out, t3, Below.refl _ _⟩
    case round =>
      clear t3
      obtain ⟨k, xs, hk, rfl, hrow, hap, hlts, ht, hB⟩ := hrel
      have hzr := hB.size
      by_cases hlt : k < p.length
      · have hib := PRowX.full hrow (i := k) (by rw [outTo_len]; exact hlt)
        obtain ⟨g8, C8, e8, _, _, _, hgl8, hcell8, _⟩ := PRowX.rd hrow (by rw [outTo_len]; omega)
        simp only [Value.slice.injEq, Option.some.injEq, Addr.mk.injEq, and_true] at e8
        obtain ⟨rfl, hz8, rfl⟩ := e8
        clear hz8
        rw [outTo_len] at hcell8
        have k1 := hcell8 (k * 4 + 3) (by omega)
        have hso := outTo_succ p k hlt
        rw [outTo_at p k hlt] at hib
        have hbd := HBO12.out k hlt
        obtain ⟨body, hbody⟩ : ∃ body : List St, (p.getD k default).body = body := ⟨_, rfl⟩
        rw [hbody] at hib hso hbd
        rw [keepTo_all] at hso
        obtain ⟨A3, C3, hU⟩ := hib.form
        rw [hU] at k1 hib
        have hi : (k : Int) < (p.length : Int) := by omega
        have hi0 : (0 : Int) ≤ (k : Int) := by omega
        have hrd : PRow wr.drew L (.slice (some ⟨g, 0, none⟩) p.length Cg) xs (outTo p k) := PRowX.keep hrow (below0 wr).drew
        have hbd2 : Stmts wr.drew L (.slice A3 body.length C3) body := hib
        have HROW := Lib.hid hrow
        have HR2 := Lib.hid hrd
        have HB2' := Lib.hid hbd2
        have HLT := Lib.hid hlts
        have HAP := Lib.hid hap
        have HSO := Lib.hid hso
        have k0 := ht
        clear hcell8 hrow hrd hib hbd2 hlts hap hso hbody HB2
        have HB2 := HB2'
        clear HB2'
        have k0 : wr.drew.cell? ⟨w2.heap.size, 0, none⟩ = some (.slice (some ⟨g, 0, none⟩) p.length Cg) := k0
        have k1 : wr.drew.cell? ⟨g, k * 4 + 3, none⟩ = some (.slice A3 body.length C3) := k1
        have hS := And.intro k0 k1
        go_wp2
        refine wp_region_T 10 (by kernel_rfl) (fun w' => w'.cell? ⟨w2.heap.size, 0, none⟩ = some (.slice (some ⟨g, 0, none⟩) p.length Cg) ∧ w'.cell? ⟨g, k * 4 + 3, none⟩ = some (.slice A3 body.length C3)) ?_
        refine wpAnyT_take (i := 0) (oi := ⟨_, _, _, _, _, _⟩) (v := ?vr2_0) (by kernel_rfl) (by decide) rfl (by kernel_rfl) (by kernel_rfl) (by kernel_rfl) (fun _ _ _ h => h) (Or.inl ⟨by rfl, ?hyr2_0⟩) hS ?restr2_0
        case hyr2_0 =>
          intro w' hSw
          obtain ⟨s0, s1⟩ := hSw
          go_simp
          try with_reducible rfl
        try simp only [Act.put, List.setIfInBounds_toArray, List.set_cons_zero, List.set_cons_succ]
        refine wpAnyT_take (i := 1) (oi := ⟨_, _, _, _, _, _⟩) (v := ?vr2_1) (by kernel_rfl) (by decide) rfl (by kernel_rfl) (by kernel_rfl) (by kernel_rfl) (fun _ _ _ h => h) (Or.inl ⟨by rfl, ?hyr2_1⟩) hS ?restr2_1
        case hyr2_1 =>
          intro w' hSw
          obtain ⟨s0, s1⟩ := hSw
          go_simp
          try with_reducible rfl
        try simp only [Act.put, List.setIfInBounds_toArray, List.set_cons_zero, List.set_cons_succ]
        refine wpAnyT_take (i := 2) (oi := ⟨_, _, _, _, _, _⟩) (v := ?vr2_2) (by kernel_rfl) (by decide) rfl (by kernel_rfl) (by kernel_rfl) (by kernel_rfl) (fun _ _ _ h => h) (Or.inl ⟨by rfl, ?hyr2_2⟩) hS ?restr2_2
        case hyr2_2 =>
          intro w' hSw
          obtain ⟨s0, s1⟩ := hSw
          go_simp
          try with_reducible rfl
        try simp only [Act.put, List.setIfInBounds_toArray, List.set_cons_zero, List.set_cons_succ]
        refine wpAnyT_take (i := 3) (oi := ⟨_, _, _, _, _, _⟩) (v := ?vr2_3) (by kernel_rfl) (by decide) rfl (by kernel_rfl) (by kernel_rfl) (by kernel_rfl) (fun _ _ _ h => h) (Or.inl ⟨by rfl, ?hyr2_3⟩) hS ?restr2_3
        case hyr2_3 =>
          intro w' hSw
          obtain ⟨s0, s1⟩ := hSw
          go_simp
          try with_reducible rfl
        try simp only [Act.put, List.setIfInBounds_toArray, List.set_cons_zero, List.set_cons_succ]
        refine wpAnyT_take (i := 4) (oi := ⟨_, _, _, _, _, _⟩) (v := ?vr2_4) (by kernel_rfl) (by decide) rfl (by kernel_rfl) (by kernel_rfl) (by kernel_rfl) (fun _ _ _ h => h) (Or.inl ⟨by rfl, ?hyr2_4⟩) hS ?restr2_4
        case hyr2_4 =>
          intro w' hSw
          obtain ⟨s0, s1⟩ := hSw
          go_simp
          try with_reducible rfl
        try simp only [Act.put, List.setIfInBounds_toArray, List.set_cons_zero, List.set_cons_succ]
        refine wpAnyT_take (i := 5) (oi := ⟨_, _, _, _, _, _⟩) (v := ?vr2_5) (by kernel_rfl) (by decide) rfl (by kernel_rfl) (by kernel_rfl) (by kernel_rfl) (fun _ _ _ h => h) (Or.inl ⟨by rfl, ?hyr2_5⟩) hS ?restr2_5
        case hyr2_5 =>
          intro w' hSw
          obtain ⟨s0, s1⟩ := hSw
          go_simp
          try with_reducible rfl
        try simp only [Act.put, List.setIfInBounds_toArray, List.set_cons_zero, List.set_cons_succ]
        refine wpAnyT_take (i := 6) (oi := ⟨_, _, _, _, _, _⟩) (v := ?vr2_6) (by kernel_rfl) (by decide) rfl (by kernel_rfl) (by kernel_rfl) (by kernel_rfl) (fun _ _ _ h => h) (Or.inl ⟨by rfl, ?hyr2_6⟩) hS ?restr2_6
        case hyr2_6 =>
          intro w' hSw
          obtain ⟨s0, s1⟩ := hSw
          go_simp
          try with_reducible rfl
        try simp only [Act.put, List.setIfInBounds_toArray, List.set_cons_zero, List.set_cons_succ]
        refine wpAnyT_take (i := 7) (oi := ⟨_, _, _, _, _, _⟩) (v := ?vr2_7) (by kernel_rfl) (by decide) rfl (by kernel_rfl) (by kernel_rfl) (by kernel_rfl) (fun _ _ _ h => h) (Or.inl ⟨by rfl, ?hyr2_7⟩) hS ?restr2_7
        case hyr2_7 =>
          intro w' hSw
          obtain ⟨s0, s1⟩ := hSw
          go_simp
          try with_reducible rfl
        try simp only [Act.put, List.setIfInBounds_toArray, List.set_cons_zero, List.set_cons_succ]
        refine wpAnyT_take (i := 8) (oi := ⟨_, _, _, _, _, _⟩) (v := ?vr2_8) (by kernel_rfl) (by decide) rfl (by kernel_rfl) (by kernel_rfl) (by kernel_rfl) (fun _ _ _ h => h) (Or.inl ⟨by rfl, ?hyr2_8⟩) hS ?restr2_8
        case hyr2_8 =>
          intro w' hSw
          obtain ⟨s0, s1⟩ := hSw
          go_simp
          try with_reducible rfl
        try simp only [Act.put, List.setIfInBounds_toArray, List.set_cons_zero, List.set_cons_succ]
        refine wpAnyT_ready1 (i := 9) (o := ⟨_, _, _, _, _, _⟩) (by kernel_rfl) rfl (fun KC_ hK => ?_)
        go_simp
        go_at_call 66
        refine (I_DeleteFunc _ body L _ HB2.out (by omega)).mono ?_
        rintro e w4 ⟨bv, rfl, hbo, hg4, hob⟩
        have hlu := HLT.out k hlt
        rw [hU] at hlu
        have k0 := hg4.cell k0 (fun hc => Nat.lt_irrefl _ (hlu _ hc.symm))
        have hr4 := PRowX.grown (k := k) HR2.out (by rw [outTo_len]; exact hlt) (by rw [hU]; exact hg4)
        obtain ⟨A6, C6, rfl⟩ := hbo.form
        obtain ⟨g9, C9, e9, _, _, _, hgl9, hcell9, hf9⟩ := PRowX.rd hr4 (by rw [outTo_len]; omega)
        simp only [Value.slice.injEq, Option.some.injEq, Addr.mk.injEq, and_true] at e9
        obtain ⟨rfl, hz9, rfl⟩ := e9
        clear hz9
        rw [outTo_len] at hcell9
        have k1 := hcell9 (k * 4 + 3) (by omega)
        rw [hU] at k1
        have f3 := hf9 (k * 4 + 3)
        have hS := And.intro k0 k1
        have HBO := Lib.hid hbo
        have HG4 := Lib.hid hg4
        have HOB := Lib.hid hob
        have HR4 := Lib.hid hr4
        have k0' := k0
        clear hcell9 hf9 hbo hg4 hob hr4 hlu
        refine hK _ _ (fun _ => hS) ?_
        try simp only [Act.put, List.setIfInBounds_toArray, List.set_cons_zero, List.set_cons_succ]
        refine wpAnyT_ready1 (i := 10) (o := ⟨_, _, _, _, _, _⟩) (by kernel_rfl) rfl (fun KC_ hK => ?_)
        go_simp
        refine hK _ _ (fun h => absurd h (by decide)) ?_
        try simp only [Act.put, List.setIfInBounds_toArray, List.set_cons_zero, List.set_cons_succ]
        refine wpAnyT_ready1 (i := 11) (o := ⟨_, _, _, _, _, _⟩) (by kernel_rfl) rfl (fun KC_ hK => ?_)
        go_simp
        refine hK _ _ (fun h => absurd h (by decide)) ?_
        try simp only [Act.put, List.setIfInBounds_toArray, List.set_cons_zero, List.set_cons_succ]
        refine wpAnyT_ready1 (i := 12) (o := ⟨_, _, _, _, _, _⟩) (by kernel_rfl) rfl (fun KC_ hK => ?_)
        go_simp
        refine hK _ _ (fun h => absurd h (by decide)) ?_
        try simp only [Act.put, List.setIfInBounds_toArray, List.set_cons_zero, List.set_cons_succ]
        refine wpAnyT_done (by kernel_rfl) ?_ _
        clear hS k0 k1
        go_wp2
        go_roundw
        case rel =>
          have h1 := PRowX.setBody HR4.out (by rw [outTo_len]; exact hlt) HBO.out (fun i hi hik => by
            intro r h1 h2
            rw [HOB.out, ← hU] at h2
            exact HROW.out.apart i k hi (by rw [outTo_len]; exact hlt) (by omega) (by rw [outTo_len]; omega) hik r h1 h2)
          rw [HSO.out] at h1
          refine ⟨k + 1, _, by omega, by go_num, h1, HAP.out.set (k * 4 + 3) (fun i => by omega) _, fun i hi' r hr => ?_, by simp [go_sem, k0'], ((hB.drew).grown HG4.out (by show _ ≤ wr.heap.size; omega) (fun r hr => own_block_ge HB2.out r hr)).setCell hLg _⟩
          by_cases e : i = k
          · subst e
            rw [getD_set_eq _ _ _ _ (by have := HROW.out.own.1; rw [outTo_len] at this; omega), HOB.out, ← hU] at hr
            exact HLT.out i hi' r hr
          · rw [getD_set_ne _ _ _ _ _ (by omega)] at hr
            exact HLT.out i hi' r hr
        case measure => simp [intOf]; omega
      · obtain rfl : k = p.length := by omega
        rw [outTo_all] at hrow
        have q4 := (hB.cell (p := ⟨w.heap.size + 1, 0, none⟩) (by show w.heap.size + 1 < _; omega)).trans q3
        have u4 := ((bcell hB).2 (w.heap.size + 1) 0 (by omega)).trans u3
        have HROW := Lib.hid hrow
        have HAP := Lib.hid hap
        have hbl : (bareP p).length = p.length := by simp [bareP]
        have HBL2 := Lib.hid hbl
        clear hrow q3 u3 hap hlts hbl
        go_wp2
        exact bodyPost_ret (v := .agg #[.slice (some ⟨g, 0, none⟩) p.length Cg]) (by simp [results, Try.results29, go_sem, q4]) rfl
          ⟨_, xs, rfl, by rw [HRB.out]; exact (PRowX.only HROW.out ((Only.refl (w.heap.size + 1) (w.heap.size + 2) wr).setCell (Nat.le_refl _) (Nat.lt_succ_self _) _) hL1).lo_ (by omega), by rw [HRB.out, HBL2.out]; exact HAP.out, ((HB2.out.trans (HB3.out.mono (by omega))).trans (hB.mono (by omega))).setCell (by show w.heap.size ≤ w.heap.size + 1; omega) _⟩

theorem bareP_size (p : Pr) : (bareP p).size ≤ p.size := by
  have h : ∀ p : Pr, sizes (p.map bareB) ≤ sizes p := fun p => by
    induction p with
    | nil => exact Nat.le_refl _
    | cons k p ih =>
      have h1 : (bareB k).size ≤ k.size := by
        unfold Bk.size bareB
        have := List.length_filter_le (fun s : St => !s.decl) k.body
        simp only
        omega
      simp only [List.map_cons, sizes]
      omega
  have := h p
  unfold Pr.size bareP
  rw [List.length_map]
  omega
theorem rBare_size (p : Pr) : (rBare p).size ≤ p.size := by
  unfold rBare
  split
  · exact bareP_size p
  · simp [Pr.size, sizes]

set_option maxRecDepth 100000 in
theorem S_BareProgram (v : Value) (p : Pr) (lo : Nat) (w : World) (hv : Prog w lo v p) :
    Calls Try.prog 33 #[v] w fun e w' => ∃ sl' xs, e = .returned (.agg #[sl']) ∧ PRow w' w.heap.size sl' xs (rBare p) ∧ Below w.heap.size w w' := by
  obtain ⟨sl, rfl, hv⟩ := hv
  have HV := Lib.hid hv
  obtain ⟨A, C, rfl⟩ := hv.form
  clear hv
  go_enter Try.func33, Try.ntmps33
  go_wp2_with fail
  have d0 : ∀ (w' : World), Below ((w.alloc (.cells #[.slice A p.length C] 25)).alloc (.cells #[.slice none 0 0] 25)).heap.size ((w.alloc (.cells #[.slice A p.length C] 25)).alloc (.cells #[.slice none 0 0] 25)) w' → w'.cell? ⟨w.heap.size, 0, none⟩ = some (.slice A p.length C) ∧ w'.cell? ⟨w.heap.size + 1, 0, none⟩ = some (.slice none 0 0) ∧ w'.frozen? ⟨w.heap.size + 1, 0, none⟩ = false ∧ w.heap.size + 2 ≤ w'.heap.size := fun w' hb => ⟨cell_later hb (by simp [go_sem]), cell_later hb (by simp [go_sem]), ((bcell hb).2 _ _ (by simp)).trans (by simp [go_sem]), by have := hb.size; simp only [World.size_alloc] at this; omega⟩
  have D0 := Lib.hid d0
  clear d0
  refine (S_validShape _ p lo _ ⟨_, rfl, HV.out.keep al2⟩).mono ?_
  rintro e w1 ⟨rfl, hb1⟩
  obtain ⟨c1, q1, u1, z1⟩ := D0.out _ hb1
  have hB1 := bthen (al2 (w := w)) hb1
  have HB1 := Lib.hid hB1
  clear hb1 hB1
  cases hs : shape p
  · have HS := Lib.hid hs
    clear hs
    go_wp2
    refine bodyPost_ret (v := .agg #[.slice none 0 0]) (by simp [results, Try.results33, go_sem, q1]) rfl ⟨_, [], rfl, ?_, HB1.out.setCell (by show w.heap.size ≤ w.heap.size + 1; omega) _⟩
    unfold rBare
    rw [HS.out]
    exact PRowX.nil _ _
  · have hl := shape_len hs
    have hbl : ∀ b, b < p.length → (p.getD b default).body.length ≤ 1000 ∧ (p.getD b default).params.length ≤ 1000 := fun b hb => by
      have h1 := shape_body hs b (by omega) (by omega)
      have h2 := (shape_params hs b (by omega) (by omega)).1
      rw [bk_nat] at h1 h2
      exact ⟨by omega, by omega⟩
    have HBL := Lib.hid hbl
    have hrb : rBare p = bareP p := by unfold rBare; rw [hs]; rfl
    have HRB := Lib.hid hrb
    clear hs hbl hrb
    go_wp2_with fail
    refine (S_bare _ p lo _ ⟨_, rfl, HV.out.keep HB1.out⟩ (by omega) HBL.out).mono ?_
    rintro e w2 ⟨sl2, xs2, rfl, hr2, hb2⟩
    obtain ⟨A2, C2, rfl⟩ := PRowX.form hr2
    have hz2 := hb2.size
    have q2 := cell_later hb2 q1
    have u2 := ((bcell hb2).2 (w.heap.size + 1) 0 (by omega)).trans u1
    have HB2 := Lib.hid (bthen HB1.out hb2)
    have HR2 := Lib.hid (PRowX.lo_ hr2 (lo' := w.heap.size + 2) (by omega))
    clear c1 q1 u1 hb2 hr2 z1 hz2
    go_wp2
    exact bodyPost_ret (v := .agg #[.slice A2 (bareP p).length C2]) (by simp [results, Try.results33, go_sem, q2]) rfl
      ⟨_, xs2, rfl, by rw [HRB.out]; exact (PRowX.only HR2.out ((Only.refl (w.heap.size + 1) (w.heap.size + 2) w2).setCell (Nat.le_refl _) (Nat.lt_succ_self _) _) (Nat.le_refl _)).lo_ (by omega), HB2.out.setCell (by show w.heap.size ≤ w.heap.size + 1; omega) _⟩

end Go.Proofs.Ytelhemhbgpfokaa
