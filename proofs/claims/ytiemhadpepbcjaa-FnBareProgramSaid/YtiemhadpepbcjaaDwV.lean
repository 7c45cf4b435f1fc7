/-
  Walks: programs without one statement, LeanProgram; plain Lean on bare programs. Condition: what the arguments name stands in memory.
-/
import Derived.Test.YtiemhadpepbcjaaDwP
import Derived.Test.YtiemhadpepbcjaaLawFn
import Derived.Test.YtiemhadpepbcjaaMath2
namespace Go.Proofs.Ytiemhadpepbcjaa
open Go.RowKit
set_option linter.unusedVariables false

def cutP (p : Pr) (b i : Nat) : Pr := withBody p b ((p.bk b).body.take i ++ (p.bk b).body.drop (i + 1))
theorem cutP_len (p : Pr) (b i : Nat) : (cutP p b i).length = p.length := by simp [cutP, withBody]
theorem cutP_shape {p : Pr} {b i : Nat} (hs : shape p = true) (hb : b < p.length) (hi : i < (p.bk b).body.length) (hd : ((p.bk b).body.getD i default).decl = true) : shape (cutP p b i) = true := by
  refine shape_turned (turned_erase hb hi ?_) hs
  unfold St.decl at hd
  unfold St.makes
  rw [decide_eq_true_iff] at hd
  rw [decide_eq_false_iff_not]
  omega
theorem cutP_set {p : Pr} {b i : Nat} (l : List St) (hl : l = (p.getD b default).body.take i ++ (p.getD b default).body.drop (i + 1)) : p.set b { p.getD b default with body := l } = cutP p b i := by
  unfold cutP withBody
  have e : p.bk (b : Int) = p.getD b default := by show p.getD (b : Int).toNat default = _; rw [Int.toNat_natCast]
  rw [e, hl]
theorem FeedS.zero_ {w : World} {v : Value} {l : List St} (hl : l = []) (hv : ∃ ad c, v = .slice (some ad) 0 c) : FeedS w v l := by
  subst hl
  obtain ⟨ad, c, rfl⟩ := hv
  exact ⟨rfl, .inr ⟨ad, c, rfl, fun j u hu => by simp [stCells] at hu⟩⟩
/-- Could a statement be left out? -/
def idleB (p : Pr) (b i : Nat) : Bool := ((p.bk b).body.getD i default).decl && (validP (cutP p b i) && ownRows p p.length == ownRows (cutP p b i) (cutP p b i).length)
def idleRow (p : Pr) (b : Nat) (m : Nat) : List Int := upto (fun i => idleB p b i.toNat) m
def idleRows (p : Pr) : Nat → List (List Int)
  | 0 => []
  | n + 1 => idleRows p n ++ [idleRow p n (p.bk n).body.length]
theorem idleRows_len (p : Pr) : ∀ n, (idleRows p n).length = n
  | 0 => rfl
  | n + 1 => by rw [idleRows, List.length_append, idleRows_len p n]; rfl
theorem idleRow_len (p : Pr) (b m : Nat) : (idleRow p b m).length ≤ m := upto_len _ m
theorem idleRow_yes {p : Pr} {b m : Nat} (h : idleB p b m = true) : idleRow p b (m + 1) = idleRow p b m ++ [(m : Int)] := upto_yes _ _ (by simpa using h)
theorem idleRow_no {p : Pr} {b m : Nat} (h : idleB p b m = false) : idleRow p b (m + 1) = idleRow p b m := upto_no _ _ (by simpa using h)
def rIdle (p : Pr) : List (List Int) := if validP p then idleRows p p.length else []
theorem rIdle_sum (p : Pr) : ((rIdle p).map List.length).sum ≤ 84 := by
  unfold rIdle
  cases hv : validP p
  · simp
  · rw [if_pos rfl]
    have hs := validP_shape hv
    have hl := shape_len hs
    have h : ∀ n, n ≤ p.length → ((idleRows p n).map List.length).sum ≤ 12 * n := by
      intro n
      induction n with
      | zero => intro _; simp [idleRows]
      | succ n ih =>
        intro hn
        have h1 := ih (by omega)
        have h2 := idleRow_len p n (p.bk n).body.length
        have h3 := shape_body hs (n : Int) (by omega) (by omega)
        rw [idleRows, List.map_append, List.sum_append]
        simp only [List.map_cons, List.map_nil, List.sum_cons, List.sum_nil]
        omega
    have := h p.length (Nat.le_refl _)
    omega

set_option maxRecDepth 100000 in
set_option maxHeartbeats 2000000 in
theorem S_cut (sl : Value) (p : Pr) (b i lo : Nat) (w : World) (hv : Blks w lo sl p) (hs : shape p = true) (hb : b < p.length) (hi : i < (p.bk b).body.length) :
    Calls Try.prog 89 #[.agg #[sl], .int .i64 b, .int .i64 i] w fun e w' => ∃ sl' xs, e = .returned (.agg #[sl']) ∧ PRow w' w.heap.size sl' xs (cutP p b i) ∧ Below w.heap.size w w' := by
  have hl := shape_len hs
  have HV := Lib.hid hv
  have HSM := Lib.hid (small_of_shape hs)
  obtain ⟨A, C, rfl⟩ := hv.form
  rw [bk_nat] at hi
  clear hv hs
  go_enter Try.func89, Try.ntmps89
  go_wp2_with fail
  obtain ⟨W0, hW0⟩ : ∃ W0 : World, W0 = ((w.alloc (.cells #[.slice A p.length C] 25)).alloc (.cells #[.slice none 0 0] 25)) := ⟨_, rfl⟩
  have hb0 : Below w.heap.size w W0 := by rw [hW0]; exact al2
  have z0 : W0.heap.size = w.heap.size + 2 := by rw [hW0]; simp
  have c0 : W0.cell? ⟨w.heap.size, 0, none⟩ = some (.slice A p.length C) := by rw [hW0]; simp [go_sem]
  have q0 : W0.cell? ⟨w.heap.size + 1, 0, none⟩ = some (.slice none 0 0) := by rw [hW0]; simp [go_sem]
  have u0 : W0.frozen? ⟨w.heap.size + 1, 0, none⟩ = false := by rw [hW0]; simp [go_sem]
  rw [← hW0]
  clear hW0
  refine (S_copyProgram _ p lo _ ⟨_, rfl, HV.out.keep hb0⟩ HSM.out.1 HSM.out.2).mono ?_
  rintro e w1 ⟨sl1, xs1, rfl, hrow1, hb1⟩
  have hz1 := hb1.size
  obtain ⟨og, oC, rfl, _, hoC, hog1, hog2, _, _⟩ := PRowX.rd hrow1 (by omega)
  have c1 := cell_later hb1 c0
  have q1 := cell_later hb1 q0
  have u1 := ((bcell hb1).2 (w.heap.size + 1) 0 (by omega)).trans u0
  have hb01 := bthen hb0 hb1
  have hrow1 := hrow1.lo_ (lo' := w.heap.size + 2) (by omega)
  clear hb1 c0 q0 u0 hb0
  go_wp2
  obtain ⟨W2, hW2⟩ : ∃ W2 : World, W2 = (w1.alloc (.cells #[.slice (some ⟨og, 0, none⟩) p.length oC] 25)).drew := ⟨_, rfl⟩
  have hb2 : Below w1.heap.size w1 W2 := by rw [hW2]; exact al1.drew
  have e0 : W2.cell? ⟨w1.heap.size, 0, none⟩ = some (.slice (some ⟨og, 0, none⟩) p.length oC) := by rw [hW2]; simp [go_sem]
  have z2 : w1.heap.size < W2.heap.size := by rw [hW2]; show _ < (w1.alloc _).heap.size; simp
  have e1 := cell_later hb2 c1
  have q2 := cell_later hb2 q1
  have u2 := ((bcell hb2).2 (w.heap.size + 1) 0 (by omega)).trans u1
  have hBw := bthen hb01 hb2
  have hrow2 := PRowX.keep hrow1 hb2
  clear hb2 c1 q1 u1 hb01 hrow1
  obtain ⟨A', C', g, e, hn, hc, hA, hg, hcell, _⟩ := (HV.out.keep hBw).rd
  simp only [Value.slice.injEq] at e
  obtain ⟨rfl, _, rfl⟩ := e
  obtain rfl := hA (by omega)
  obtain ⟨pv, bv, _, _, _, d3, _, hbd⟩ := hcell b hb
  have hcut := fun l h => cutP_set (p := p) (b := b) (i := i) l h
  obtain ⟨body, hbody⟩ : ∃ body : List St, body = (p.getD b default).body := ⟨_, rfl⟩
  rw [← hbody] at hbd hi hcut
  have hbo := (HSM.out.2 b hb).1
  rw [← hbody] at hbo
  obtain ⟨bA, bC, bg, eb, hbn, hbC, hbA, hbg, _, _⟩ := hbd.rd
  subst eb
  obtain rfl := hbA (by omega)
  unfold maxLen at hc hbC hoC
  have HROW := Lib.hid hrow2
  have HBD := Lib.hid hbd
  have HCUT := Lib.hid hcut
  have HBW := Lib.hid hBw
  clear hbody hcell hA hbA hbg hg hrow2 hbd hcut hBw
  have hi0 : (0 : Int) ≤ (b : Int) := by omega
  have hi1 : (b : Int) < (p.length : Int) := by omega
  have hj0 : (0 : Int) ≤ (i : Int) := by omega
  have hj1 : (i : Int) < (body.length : Int) := by omega
  have hs1 : (i : Int) ≤ (body.length : Int) := by omega
  have hs2 : (i : Int) ≤ (bC : Int) := by omega
  have hs3 : (i : Int) + 1 ≤ (body.length : Int) := by omega
  have hs4 : (i : Int) + 1 ≤ (bC : Int) := by omega
  have hs5 : (0 : Int) ≤ (i : Int) + 1 := by omega
  have hjw : IntKind.i64.wrap ((i : Int) + 1) = (i : Int) + 1 := IntWalk.i64_in _ (by omega)
  have hcur := below0 W2
  have hS := And.intro e0 (And.intro e1 d3)
  by_cases hcap : bC = i + 1
  · have HDL := Lib.hid (show body.length = i + 1 by omega)
    subst hcap
    have hs2b : (i : Int) ≤ (i : Int) + 1 := by omega
    have hs2c : i ≤ i + 1 := by omega
    clear hs2 hs4
    refine wp_region_T 23 (by kernel_rfl) (fun w' => w'.cell? ⟨w1.heap.size, 0, none⟩ = some (.slice (some ⟨og, 0, none⟩) p.length oC) ∧ w'.cell? ⟨w.heap.size, 0, none⟩ = some (.slice (some ⟨g, 0, none⟩) p.length C) ∧ w'.cell? ⟨g, b * 4 + 3, none⟩ = some (.slice (some ⟨bg, 0, none⟩) body.length (i + 1))) ?_
    rw [← hW2]
    clear hW2
    refine wpAnyT_take (i := 0) (oi := ⟨_, _, _, _, _, _⟩) (v := ?vr1_0) (by kernel_rfl) (by decide) rfl (by kernel_rfl) (by kernel_rfl) (by kernel_rfl) (fun _ _ _ h => h) (Or.inl ⟨by rfl, ?hyr1_0⟩) hS ?restr1_0
    case hyr1_0 =>
      intro w' hSw
      obtain ⟨s0, s1, s2⟩ := hSw
      go_simp
      try with_reducible rfl
    try simp only [Act.put, List.setIfInBounds_toArray, List.set_cons_zero, List.set_cons_succ]
    refine wpAnyT_take (i := 1) (oi := ⟨_, _, _, _, _, _⟩) (v := ?vr1_1) (by kernel_rfl) (by decide) rfl (by kernel_rfl) (by kernel_rfl) (by kernel_rfl) (fun _ _ _ h => h) (Or.inl ⟨by rfl, ?hyr1_1⟩) hS ?restr1_1
    case hyr1_1 =>
      intro w' hSw
      obtain ⟨s0, s1, s2⟩ := hSw
      go_simp
      try with_reducible rfl
    try simp only [Act.put, List.setIfInBounds_toArray, List.set_cons_zero, List.set_cons_succ]
    refine wpAnyT_take (i := 2) (oi := ⟨_, _, _, _, _, _⟩) (v := ?vr1_2) (by kernel_rfl) (by decide) rfl (by kernel_rfl) (by kernel_rfl) (by kernel_rfl) (fun _ _ _ h => h) (Or.inl ⟨by rfl, ?hyr1_2⟩) hS ?restr1_2
    case hyr1_2 =>
      intro w' hSw
      obtain ⟨s0, s1, s2⟩ := hSw
      go_simp
      try with_reducible rfl
    try simp only [Act.put, List.setIfInBounds_toArray, List.set_cons_zero, List.set_cons_succ]
    refine wpAnyT_take (i := 4) (oi := ⟨_, _, _, _, _, _⟩) (v := ?vr1_4) (by kernel_rfl) (by decide) rfl (by kernel_rfl) (by kernel_rfl) (by kernel_rfl) (fun _ _ _ h => h) (Or.inl ⟨by rfl, ?hyr1_4⟩) hS ?restr1_4
    case hyr1_4 =>
      intro w' hSw
      obtain ⟨s0, s1, s2⟩ := hSw
      go_simp
      try with_reducible rfl
    try simp only [Act.put, List.setIfInBounds_toArray, List.set_cons_zero, List.set_cons_succ]
    refine wpAnyT_take (i := 5) (oi := ⟨_, _, _, _, _, _⟩) (v := ?vr1_5) (by kernel_rfl) (by decide) rfl (by kernel_rfl) (by kernel_rfl) (by kernel_rfl) (fun _ _ _ h => h) (Or.inl ⟨by rfl, ?hyr1_5⟩) hS ?restr1_5
    case hyr1_5 =>
      intro w' hSw
      obtain ⟨s0, s1, s2⟩ := hSw
      go_simp
      try with_reducible rfl
    try simp only [Act.put, List.setIfInBounds_toArray, List.set_cons_zero, List.set_cons_succ]
    refine wpAnyT_take (i := 6) (oi := ⟨_, _, _, _, _, _⟩) (v := ?vr1_6) (by kernel_rfl) (by decide) rfl (by kernel_rfl) (by kernel_rfl) (by kernel_rfl) (fun _ _ _ h => h) (Or.inl ⟨by rfl, ?hyr1_6⟩) hS ?restr1_6
    case hyr1_6 =>
      intro w' hSw
      obtain ⟨s0, s1, s2⟩ := hSw
      go_simp
      try with_reducible rfl
    try simp only [Act.put, List.setIfInBounds_toArray, List.set_cons_zero, List.set_cons_succ]
    refine wpAnyT_take (i := 7) (oi := ⟨_, _, _, _, _, _⟩) (v := ?vr1_7) (by kernel_rfl) (by decide) rfl (by kernel_rfl) (by kernel_rfl) (by kernel_rfl) (fun _ _ _ h => h) (Or.inl ⟨by rfl, ?hyr1_7⟩) hS ?restr1_7
    case hyr1_7 =>
      intro w' hSw
      obtain ⟨s0, s1, s2⟩ := hSw
      go_simp
      try with_reducible rfl
    try simp only [Act.put, List.setIfInBounds_toArray, List.set_cons_zero, List.set_cons_succ]
    refine wpAnyT_take (i := 8) (oi := ⟨_, _, _, _, _, _⟩) (v := ?vr1_8) (by kernel_rfl) (by decide) rfl (by kernel_rfl) (by kernel_rfl) (by kernel_rfl) (fun _ _ _ h => h) (Or.inl ⟨by rfl, ?hyr1_8⟩) hS ?restr1_8
    case hyr1_8 =>
      intro w' hSw
      obtain ⟨s0, s1, s2⟩ := hSw
      go_simp
      try with_reducible rfl
    try simp only [Act.put, List.setIfInBounds_toArray, List.set_cons_zero, List.set_cons_succ]
    refine wpAnyT_take (i := 9) (oi := ⟨_, _, _, _, _, _⟩) (v := ?vr1_9) (by kernel_rfl) (by decide) rfl (by kernel_rfl) (by kernel_rfl) (by kernel_rfl) (fun _ _ _ h => h) (Or.inl ⟨by rfl, ?hyr1_9⟩) hS ?restr1_9
    case hyr1_9 =>
      intro w' hSw
      obtain ⟨s0, s1, s2⟩ := hSw
      go_simp
      try with_reducible rfl
    try simp only [Act.put, List.setIfInBounds_toArray, List.set_cons_zero, List.set_cons_succ]
    refine wpAnyT_take (i := 10) (oi := ⟨_, _, _, _, _, _⟩) (v := ?vr1_10) (by kernel_rfl) (by decide) rfl (by kernel_rfl) (by kernel_rfl) (by kernel_rfl) (fun _ _ _ h => h) (Or.inl ⟨by rfl, ?hyr1_10⟩) hS ?restr1_10
    case hyr1_10 =>
      intro w' hSw
      obtain ⟨s0, s1, s2⟩ := hSw
      go_simp
      try with_reducible rfl
    try simp only [Act.put, List.setIfInBounds_toArray, List.set_cons_zero, List.set_cons_succ]
    refine wpAnyT_take (i := 11) (oi := ⟨_, _, _, _, _, _⟩) (v := ?vr1_11) (by kernel_rfl) (by decide) rfl (by kernel_rfl) (by kernel_rfl) (by kernel_rfl) (fun _ _ _ h => h) (Or.inl ⟨by rfl, ?hyr1_11⟩) hS ?restr1_11
    case hyr1_11 =>
      intro w' hSw
      obtain ⟨s0, s1, s2⟩ := hSw
      go_simp
      try with_reducible rfl
    try simp only [Act.put, List.setIfInBounds_toArray, List.set_cons_zero, List.set_cons_succ]
    refine wpAnyT_take (i := 13) (oi := ⟨_, _, _, _, _, _⟩) (v := ?vr1_13) (by kernel_rfl) (by decide) rfl (by kernel_rfl) (by kernel_rfl) (by kernel_rfl) (fun _ _ _ h => h) (Or.inl ⟨by rfl, ?hyr1_13⟩) hS ?restr1_13
    case hyr1_13 =>
      intro w' hSw
      obtain ⟨s0, s1, s2⟩ := hSw
      go_simp
      try with_reducible rfl
    try simp only [Act.put, List.setIfInBounds_toArray, List.set_cons_zero, List.set_cons_succ]
    refine wpAnyT_take (i := 14) (oi := ⟨_, _, _, _, _, _⟩) (v := ?vr1_14) (by kernel_rfl) (by decide) rfl (by kernel_rfl) (by kernel_rfl) (by kernel_rfl) (fun _ _ _ h => h) (Or.inl ⟨by rfl, ?hyr1_14⟩) hS ?restr1_14
    case hyr1_14 =>
      intro w' hSw
      obtain ⟨s0, s1, s2⟩ := hSw
      go_simp
      try with_reducible rfl
    try simp only [Act.put, List.setIfInBounds_toArray, List.set_cons_zero, List.set_cons_succ]
    refine wpAnyT_take (i := 15) (oi := ⟨_, _, _, _, _, _⟩) (v := ?vr1_15) (by kernel_rfl) (by decide) rfl (by kernel_rfl) (by kernel_rfl) (by kernel_rfl) (fun _ _ _ h => h) (Or.inl ⟨by rfl, ?hyr1_15⟩) hS ?restr1_15
    case hyr1_15 =>
      intro w' hSw
      obtain ⟨s0, s1, s2⟩ := hSw
      go_simp
      try with_reducible rfl
    try simp only [Act.put, List.setIfInBounds_toArray, List.set_cons_zero, List.set_cons_succ]
    refine wpAnyT_take (i := 16) (oi := ⟨_, _, _, _, _, _⟩) (v := ?vr1_16) (by kernel_rfl) (by decide) rfl (by kernel_rfl) (by kernel_rfl) (by kernel_rfl) (fun _ _ _ h => h) (Or.inl ⟨by rfl, ?hyr1_16⟩) hS ?restr1_16
    case hyr1_16 =>
      intro w' hSw
      obtain ⟨s0, s1, s2⟩ := hSw
      go_simp
      try with_reducible rfl
    try simp only [Act.put, List.setIfInBounds_toArray, List.set_cons_zero, List.set_cons_succ]
    refine wpAnyT_take (i := 17) (oi := ⟨_, _, _, _, _, _⟩) (v := ?vr1_17) (by kernel_rfl) (by decide) rfl (by kernel_rfl) (by kernel_rfl) (by kernel_rfl) (fun _ _ _ h => h) (Or.inl ⟨by rfl, ?hyr1_17⟩) hS ?restr1_17
    case hyr1_17 =>
      intro w' hSw
      obtain ⟨s0, s1, s2⟩ := hSw
      go_simp
      try with_reducible rfl
    try simp only [Act.put, List.setIfInBounds_toArray, List.set_cons_zero, List.set_cons_succ]
    refine wpAnyT_take (i := 18) (oi := ⟨_, _, _, _, _, _⟩) (v := ?vr1_18) (by kernel_rfl) (by decide) rfl (by kernel_rfl) (by kernel_rfl) (by kernel_rfl) (fun _ _ _ h => h) (Or.inl ⟨by rfl, ?hyr1_18⟩) hS ?restr1_18
    case hyr1_18 =>
      intro w' hSw
      obtain ⟨s0, s1, s2⟩ := hSw
      go_simp
      try with_reducible rfl
    try simp only [Act.put, List.setIfInBounds_toArray, List.set_cons_zero, List.set_cons_succ]
    refine wpAnyT_take (i := 19) (oi := ⟨_, _, _, _, _, _⟩) (v := ?vr1_19) (by kernel_rfl) (by decide) rfl (by kernel_rfl) (by kernel_rfl) (by kernel_rfl) (fun _ _ _ h => h) (Or.inl ⟨by rfl, ?hyr1_19⟩) hS ?restr1_19
    case hyr1_19 =>
      intro w' hSw
      obtain ⟨s0, s1, s2⟩ := hSw
      go_simp
      try with_reducible rfl
    try simp only [Act.put, List.setIfInBounds_toArray, List.set_cons_zero, List.set_cons_succ]
    refine wpAnyT_take (i := 20) (oi := ⟨_, _, _, _, _, _⟩) (v := ?vr1_20) (by kernel_rfl) (by decide) rfl (by kernel_rfl) (by kernel_rfl) (by kernel_rfl) (fun _ _ _ h => h) (Or.inl ⟨by rfl, ?hyr1_20⟩) hS ?restr1_20
    case hyr1_20 =>
      intro w' hSw
      obtain ⟨s0, s1, s2⟩ := hSw
      go_simp
      try with_reducible rfl
    try simp only [Act.put, List.setIfInBounds_toArray, List.set_cons_zero, List.set_cons_succ]
    refine wpAnyT_take (i := 21) (oi := ⟨_, _, _, _, _, _⟩) (v := ?vr1_21) (by kernel_rfl) (by decide) rfl (by kernel_rfl) (by kernel_rfl) (by kernel_rfl) (fun _ _ _ h => h) (Or.inl ⟨by rfl, ?hyr1_21⟩) hS ?restr1_21
    case hyr1_21 =>
      intro w' hSw
      obtain ⟨s0, s1, s2⟩ := hSw
      go_simp
      try with_reducible rfl
    try simp only [Act.put, List.setIfInBounds_toArray, List.set_cons_zero, List.set_cons_succ]
    refine wpAnyT_ready1 (i := 3) (o := ⟨_, _, _, _, _, _⟩) (by kernel_rfl) rfl (fun KC_ hK => ?_)
    go_simp
    have hcur := al1 (w := W2) (o := .cells #[] 60)
    have hS := And.intro (cell_later hcur e0) (And.intro (cell_later hcur e1) (cell_later hcur d3))
    refine hK _ _ (fun _ => hS) ?_
    try simp only [Act.put, List.setIfInBounds_toArray, List.set_cons_zero, List.set_cons_succ]
    refine wpAnyT_ready1 (i := 12) (o := ⟨_, _, _, _, _, _⟩) (by kernel_rfl) rfl (fun KC_ hK => ?_)
    refine step_append_stmts rfl _ _ rfl _ _ [] (body.take i) W2.heap.size rfl rfl (Stmts.zero rfl (Nat.le_refl _)) ((Stmts.upto_ HBD.out i _ (by omega)).keep al1) (by simp; omega) (by simp) ?_
    intro V1 w3 h3 _ hb3 _
    rw [List.nil_append] at h3
    have hcur := hcur.trans hb3
    clear hb3
    have hS := And.intro (cell_later hcur e0) (And.intro (cell_later hcur e1) (cell_later hcur d3))
    refine hK _ _ (fun _ => hS) ?_
    try simp only [Act.put, List.setIfInBounds_toArray, List.set_cons_zero, List.set_cons_succ]
    refine wpAnyT_ready1 (i := 22) (o := ⟨_, _, _, _, _, _⟩) (by kernel_rfl) rfl (fun KC_ hK => ?_)
    refine step_append_stmts rfl _ _ rfl V1 _ (body.take i) (body.drop (i + 1)) W2.heap.size rfl rfl h3 (FeedS.zero_ (by rw [List.drop_eq_nil_iff]; have := HDL.out; omega) ⟨_, _, rfl⟩) (by rw [List.length_take, List.length_drop]; omega) hcur.size ?_
    intro V2 w4 h4 _ hb4 _
    obtain ⟨vA, vC, rfl⟩ := h4.form
    have hlen : (body.take i ++ body.drop (i + 1)).length = body.length - 1 := by rw [List.length_append, List.length_take, List.length_drop]; omega
    rw [hlen] at h4 ⊢
    have hcur := hcur.trans hb4
    clear hb4
    have hS := And.intro (cell_later hcur e0) (And.intro (cell_later hcur e1) (cell_later hcur d3))
    have hrow4 := PRowX.keep HROW.out hcur
    obtain ⟨g9, C9, e9, _, _, _, hgl9, hcell9, hf9⟩ := PRowX.rd hrow4 (by omega)
    simp only [Value.slice.injEq, Option.some.injEq, Addr.mk.injEq, and_true, true_and] at e9
    obtain ⟨rfl, rfl⟩ := e9
    have r3 := hcell9 (b * 4 + 3) (by omega)
    have f3 := hf9 (b * 4 + 3)
    clear hcell9 hf9
    refine hK _ _ (fun _ => hS) ?_
    try simp only [Act.put, List.setIfInBounds_toArray, List.set_cons_zero, List.set_cons_succ]
    refine wpAnyT_ready1 (i := 23) (o := ⟨_, _, _, _, _, _⟩) (by kernel_rfl) rfl (fun KC_ hK => ?_)
    go_simp
    refine hK _ _ (fun h => absurd h (by decide)) ?_
    try simp only [Act.put, List.setIfInBounds_toArray, List.set_cons_zero, List.set_cons_succ]
    refine wpAnyT_ready1 (i := 24) (o := ⟨_, _, _, _, _, _⟩) (by kernel_rfl) rfl (fun KC_ hK => ?_)
    go_simp
    refine hK _ _ (fun h => absurd h (by decide)) ?_
    try simp only [Act.put, List.setIfInBounds_toArray, List.set_cons_zero, List.set_cons_succ]
    refine wpAnyT_ready1 (i := 25) (o := ⟨_, _, _, _, _, _⟩) (by kernel_rfl) rfl (fun KC_ hK => ?_)
    go_simp
    refine hK _ _ (fun h => absurd h (by decide)) ?_
    try simp only [Act.put, List.setIfInBounds_toArray, List.set_cons_zero, List.set_cons_succ]
    refine wpAnyT_done (by kernel_rfl) ?_ _
    have hzc := hcur.size
    have hset := PRowX.setBody (PRowX.part hrow4 b) hb (h4.lo_ (by omega)) (fun i hi _ => Apart.of_lt (PRowX.full HROW.out hi) (own_block_ge h4))
    rw [HCUT.out _ rfl] at hset
    have k0 := cell_later hcur e0
    have k1 := cell_later hcur q2
    have k2 := ((bcell hcur).2 (w.heap.size + 1) 0 (by omega)).trans u2
    have hne1 : og ≠ w1.heap.size := by omega
    have hne2 : og ≠ w.heap.size + 1 := by omega
    have hne3 : w.heap.size + 1 ≠ og := by omega
    have hne4 : w1.heap.size ≠ og := by omega
    have hbz : Below w.heap.size w (w4.setCell ⟨og, b * 4 + 3, none⟩ (.slice vA (body.length - 1) vC)) := (bthen HBW.out hcur).setCell (by show w.heap.size ≤ og; omega) _
    have HSET := Lib.hid hset
    have HBZ := Lib.hid hbz
    clear hset hbz hrow4 r3 f3 e0 e1 d3 q2 u2 hS h3 h4 hcur
    go_wp2
    refine bodyPost_ret (v := .agg #[.slice (some ⟨og, 0, none⟩) p.length oC]) (by simp [results, Try.results89, go_sem, k1]) rfl
      ⟨_, rfl, ⟨_, (PRowX.only HSET.out ((Only.refl (w.heap.size + 1) (w.heap.size + 2) _).setCell (Nat.le_refl _) (Nat.lt_succ_self _) _) (Nat.le_refl _)).lo_ (by omega)⟩, HBZ.out.setCell (by show w.heap.size ≤ w.heap.size + 1; omega) _⟩
  refine wp_region_T 23 (by kernel_rfl) (fun w' => w'.cell? ⟨w1.heap.size, 0, none⟩ = some (.slice (some ⟨og, 0, none⟩) p.length oC) ∧ w'.cell? ⟨w.heap.size, 0, none⟩ = some (.slice (some ⟨g, 0, none⟩) p.length C) ∧ w'.cell? ⟨g, b * 4 + 3, none⟩ = some (.slice (some ⟨bg, 0, none⟩) body.length bC)) ?_
  rw [← hW2]
  clear hW2
  refine wpAnyT_take (i := 0) (oi := ⟨_, _, _, _, _, _⟩) (v := ?vr2_0) (by kernel_rfl) (by decide) rfl (by kernel_rfl) (by kernel_rfl) (by kernel_rfl) (fun _ _ _ h => h) (Or.inl ⟨by rfl, ?hyr2_0⟩) hS ?restr2_0
  case hyr2_0 =>
    intro w' hSw
    obtain ⟨s0, s1, s2⟩ := hSw
    go_simp
    try with_reducible rfl
  try simp only [Act.put, List.setIfInBounds_toArray, List.set_cons_zero, List.set_cons_succ]
  refine wpAnyT_take (i := 1) (oi := ⟨_, _, _, _, _, _⟩) (v := ?vr2_1) (by kernel_rfl) (by decide) rfl (by kernel_rfl) (by kernel_rfl) (by kernel_rfl) (fun _ _ _ h => h) (Or.inl ⟨by rfl, ?hyr2_1⟩) hS ?restr2_1
  case hyr2_1 =>
    intro w' hSw
    obtain ⟨s0, s1, s2⟩ := hSw
    go_simp
    try with_reducible rfl
  try simp only [Act.put, List.setIfInBounds_toArray, List.set_cons_zero, List.set_cons_succ]
  refine wpAnyT_take (i := 2) (oi := ⟨_, _, _, _, _, _⟩) (v := ?vr2_2) (by kernel_rfl) (by decide) rfl (by kernel_rfl) (by kernel_rfl) (by kernel_rfl) (fun _ _ _ h => h) (Or.inl ⟨by rfl, ?hyr2_2⟩) hS ?restr2_2
  case hyr2_2 =>
    intro w' hSw
    obtain ⟨s0, s1, s2⟩ := hSw
    go_simp
    try with_reducible rfl
  try simp only [Act.put, List.setIfInBounds_toArray, List.set_cons_zero, List.set_cons_succ]
  refine wpAnyT_take (i := 4) (oi := ⟨_, _, _, _, _, _⟩) (v := ?vr2_4) (by kernel_rfl) (by decide) rfl (by kernel_rfl) (by kernel_rfl) (by kernel_rfl) (fun _ _ _ h => h) (Or.inl ⟨by rfl, ?hyr2_4⟩) hS ?restr2_4
  case hyr2_4 =>
    intro w' hSw
    obtain ⟨s0, s1, s2⟩ := hSw
    go_simp
    try with_reducible rfl
  try simp only [Act.put, List.setIfInBounds_toArray, List.set_cons_zero, List.set_cons_succ]
  refine wpAnyT_take (i := 5) (oi := ⟨_, _, _, _, _, _⟩) (v := ?vr2_5) (by kernel_rfl) (by decide) rfl (by kernel_rfl) (by kernel_rfl) (by kernel_rfl) (fun _ _ _ h => h) (Or.inl ⟨by rfl, ?hyr2_5⟩) hS ?restr2_5
  case hyr2_5 =>
    intro w' hSw
    obtain ⟨s0, s1, s2⟩ := hSw
    go_simp
    try with_reducible rfl
  try simp only [Act.put, List.setIfInBounds_toArray, List.set_cons_zero, List.set_cons_succ]
  refine wpAnyT_take (i := 6) (oi := ⟨_, _, _, _, _, _⟩) (v := ?vr2_6) (by kernel_rfl) (by decide) rfl (by kernel_rfl) (by kernel_rfl) (by kernel_rfl) (fun _ _ _ h => h) (Or.inl ⟨by rfl, ?hyr2_6⟩) hS ?restr2_6
  case hyr2_6 =>
    intro w' hSw
    obtain ⟨s0, s1, s2⟩ := hSw
    go_simp
    try with_reducible rfl
  try simp only [Act.put, List.setIfInBounds_toArray, List.set_cons_zero, List.set_cons_succ]
  refine wpAnyT_take (i := 7) (oi := ⟨_, _, _, _, _, _⟩) (v := ?vr2_7) (by kernel_rfl) (by decide) rfl (by kernel_rfl) (by kernel_rfl) (by kernel_rfl) (fun _ _ _ h => h) (Or.inl ⟨by rfl, ?hyr2_7⟩) hS ?restr2_7
  case hyr2_7 =>
    intro w' hSw
    obtain ⟨s0, s1, s2⟩ := hSw
    go_simp
    try with_reducible rfl
  try simp only [Act.put, List.setIfInBounds_toArray, List.set_cons_zero, List.set_cons_succ]
  refine wpAnyT_take (i := 8) (oi := ⟨_, _, _, _, _, _⟩) (v := ?vr2_8) (by kernel_rfl) (by decide) rfl (by kernel_rfl) (by kernel_rfl) (by kernel_rfl) (fun _ _ _ h => h) (Or.inl ⟨by rfl, ?hyr2_8⟩) hS ?restr2_8
  case hyr2_8 =>
    intro w' hSw
    obtain ⟨s0, s1, s2⟩ := hSw
    go_simp
    try with_reducible rfl
  try simp only [Act.put, List.setIfInBounds_toArray, List.set_cons_zero, List.set_cons_succ]
  refine wpAnyT_take (i := 9) (oi := ⟨_, _, _, _, _, _⟩) (v := ?vr2_9) (by kernel_rfl) (by decide) rfl (by kernel_rfl) (by kernel_rfl) (by kernel_rfl) (fun _ _ _ h => h) (Or.inl ⟨by rfl, ?hyr2_9⟩) hS ?restr2_9
  case hyr2_9 =>
    intro w' hSw
    obtain ⟨s0, s1, s2⟩ := hSw
    go_simp
    try with_reducible rfl
  try simp only [Act.put, List.setIfInBounds_toArray, List.set_cons_zero, List.set_cons_succ]
  refine wpAnyT_take (i := 10) (oi := ⟨_, _, _, _, _, _⟩) (v := ?vr2_10) (by kernel_rfl) (by decide) rfl (by kernel_rfl) (by kernel_rfl) (by kernel_rfl) (fun _ _ _ h => h) (Or.inl ⟨by rfl, ?hyr2_10⟩) hS ?restr2_10
  case hyr2_10 =>
    intro w' hSw
    obtain ⟨s0, s1, s2⟩ := hSw
    go_simp
    try with_reducible rfl
  try simp only [Act.put, List.setIfInBounds_toArray, List.set_cons_zero, List.set_cons_succ]
  refine wpAnyT_take (i := 11) (oi := ⟨_, _, _, _, _, _⟩) (v := ?vr2_11) (by kernel_rfl) (by decide) rfl (by kernel_rfl) (by kernel_rfl) (by kernel_rfl) (fun _ _ _ h => h) (Or.inl ⟨by rfl, ?hyr2_11⟩) hS ?restr2_11
  case hyr2_11 =>
    intro w' hSw
    obtain ⟨s0, s1, s2⟩ := hSw
    go_simp
    try with_reducible rfl
  try simp only [Act.put, List.setIfInBounds_toArray, List.set_cons_zero, List.set_cons_succ]
  refine wpAnyT_take (i := 13) (oi := ⟨_, _, _, _, _, _⟩) (v := ?vr2_13) (by kernel_rfl) (by decide) rfl (by kernel_rfl) (by kernel_rfl) (by kernel_rfl) (fun _ _ _ h => h) (Or.inl ⟨by rfl, ?hyr2_13⟩) hS ?restr2_13
  case hyr2_13 =>
    intro w' hSw
    obtain ⟨s0, s1, s2⟩ := hSw
    go_simp
    try with_reducible rfl
  try simp only [Act.put, List.setIfInBounds_toArray, List.set_cons_zero, List.set_cons_succ]
  refine wpAnyT_take (i := 14) (oi := ⟨_, _, _, _, _, _⟩) (v := ?vr2_14) (by kernel_rfl) (by decide) rfl (by kernel_rfl) (by kernel_rfl) (by kernel_rfl) (fun _ _ _ h => h) (Or.inl ⟨by rfl, ?hyr2_14⟩) hS ?restr2_14
  case hyr2_14 =>
    intro w' hSw
    obtain ⟨s0, s1, s2⟩ := hSw
    go_simp
    try with_reducible rfl
  try simp only [Act.put, List.setIfInBounds_toArray, List.set_cons_zero, List.set_cons_succ]
  refine wpAnyT_take (i := 15) (oi := ⟨_, _, _, _, _, _⟩) (v := ?vr2_15) (by kernel_rfl) (by decide) rfl (by kernel_rfl) (by kernel_rfl) (by kernel_rfl) (fun _ _ _ h => h) (Or.inl ⟨by rfl, ?hyr2_15⟩) hS ?restr2_15
  case hyr2_15 =>
    intro w' hSw
    obtain ⟨s0, s1, s2⟩ := hSw
    go_simp
    try with_reducible rfl
  try simp only [Act.put, List.setIfInBounds_toArray, List.set_cons_zero, List.set_cons_succ]
  refine wpAnyT_take (i := 16) (oi := ⟨_, _, _, _, _, _⟩) (v := ?vr2_16) (by kernel_rfl) (by decide) rfl (by kernel_rfl) (by kernel_rfl) (by kernel_rfl) (fun _ _ _ h => h) (Or.inl ⟨by rfl, ?hyr2_16⟩) hS ?restr2_16
  case hyr2_16 =>
    intro w' hSw
    obtain ⟨s0, s1, s2⟩ := hSw
    go_simp
    try with_reducible rfl
  try simp only [Act.put, List.setIfInBounds_toArray, List.set_cons_zero, List.set_cons_succ]
  refine wpAnyT_take (i := 17) (oi := ⟨_, _, _, _, _, _⟩) (v := ?vr2_17) (by kernel_rfl) (by decide) rfl (by kernel_rfl) (by kernel_rfl) (by kernel_rfl) (fun _ _ _ h => h) (Or.inl ⟨by rfl, ?hyr2_17⟩) hS ?restr2_17
  case hyr2_17 =>
    intro w' hSw
    obtain ⟨s0, s1, s2⟩ := hSw
    go_simp
    try with_reducible rfl
  try simp only [Act.put, List.setIfInBounds_toArray, List.set_cons_zero, List.set_cons_succ]
  refine wpAnyT_take (i := 18) (oi := ⟨_, _, _, _, _, _⟩) (v := ?vr2_18) (by kernel_rfl) (by decide) rfl (by kernel_rfl) (by kernel_rfl) (by kernel_rfl) (fun _ _ _ h => h) (Or.inl ⟨by rfl, ?hyr2_18⟩) hS ?restr2_18
  case hyr2_18 =>
    intro w' hSw
    obtain ⟨s0, s1, s2⟩ := hSw
    go_simp
    try with_reducible rfl
  try simp only [Act.put, List.setIfInBounds_toArray, List.set_cons_zero, List.set_cons_succ]
  refine wpAnyT_take (i := 19) (oi := ⟨_, _, _, _, _, _⟩) (v := ?vr2_19) (by kernel_rfl) (by decide) rfl (by kernel_rfl) (by kernel_rfl) (by kernel_rfl) (fun _ _ _ h => h) (Or.inl ⟨by rfl, ?hyr2_19⟩) hS ?restr2_19
  case hyr2_19 =>
    intro w' hSw
    obtain ⟨s0, s1, s2⟩ := hSw
    go_simp
    try with_reducible rfl
  try simp only [Act.put, List.setIfInBounds_toArray, List.set_cons_zero, List.set_cons_succ]
  refine wpAnyT_take (i := 20) (oi := ⟨_, _, _, _, _, _⟩) (v := ?vr2_20) (by kernel_rfl) (by decide) rfl (by kernel_rfl) (by kernel_rfl) (by kernel_rfl) (fun _ _ _ h => h) (Or.inl ⟨by rfl, ?hyr2_20⟩) hS ?restr2_20
  case hyr2_20 =>
    intro w' hSw
    obtain ⟨s0, s1, s2⟩ := hSw
    go_simp
    try with_reducible rfl
  try simp only [Act.put, List.setIfInBounds_toArray, List.set_cons_zero, List.set_cons_succ]
  refine wpAnyT_take (i := 21) (oi := ⟨_, _, _, _, _, _⟩) (v := ?vr2_21) (by kernel_rfl) (by decide) rfl (by kernel_rfl) (by kernel_rfl) (by kernel_rfl) (fun _ _ _ h => h) (Or.inl ⟨by rfl, ?hyr2_21⟩) hS ?restr2_21
  case hyr2_21 =>
    intro w' hSw
    obtain ⟨s0, s1, s2⟩ := hSw
    go_simp
    try with_reducible rfl
  try simp only [Act.put, List.setIfInBounds_toArray, List.set_cons_zero, List.set_cons_succ]
  refine wpAnyT_ready1 (i := 3) (o := ⟨_, _, _, _, _, _⟩) (by kernel_rfl) rfl (fun KC_ hK => ?_)
  go_simp
  have hcur := al1 (w := W2) (o := .cells #[] 60)
  have hS := And.intro (cell_later hcur e0) (And.intro (cell_later hcur e1) (cell_later hcur d3))
  refine hK _ _ (fun _ => hS) ?_
  try simp only [Act.put, List.setIfInBounds_toArray, List.set_cons_zero, List.set_cons_succ]
  refine wpAnyT_ready1 (i := 12) (o := ⟨_, _, _, _, _, _⟩) (by kernel_rfl) rfl (fun KC_ hK => ?_)
  refine step_append_stmts rfl _ _ rfl _ _ [] (body.take i) W2.heap.size rfl rfl (Stmts.zero rfl (Nat.le_refl _)) ((Stmts.upto_ HBD.out i _ (by omega)).keep al1) (by simp; omega) (by simp) ?_
  intro V1 w3 h3 _ hb3 _
  rw [List.nil_append] at h3
  have hcur := hcur.trans hb3
  clear hb3
  have hS := And.intro (cell_later hcur e0) (And.intro (cell_later hcur e1) (cell_later hcur d3))
  refine hK _ _ (fun _ => hS) ?_
  try simp only [Act.put, List.setIfInBounds_toArray, List.set_cons_zero, List.set_cons_succ]
  refine wpAnyT_ready1 (i := 22) (o := ⟨_, _, _, _, _, _⟩) (by kernel_rfl) rfl (fun KC_ hK => ?_)
  refine step_append_stmts rfl _ _ rfl V1 _ (body.take i) (body.drop (i + 1)) W2.heap.size rfl rfl h3 ((Stmts.from_ HBD.out (i + 1) _ _ _ (by first | omega | (simp; done) | (simp; omega)) (by omega) (by first | omega | (simp; done) | (simp; omega))).keep hcur) (by rw [List.length_take, List.length_drop]; omega) hcur.size ?_
  intro V2 w4 h4 _ hb4 _
  obtain ⟨vA, vC, rfl⟩ := h4.form
  have hlen : (body.take i ++ body.drop (i + 1)).length = body.length - 1 := by rw [List.length_append, List.length_take, List.length_drop]; omega
  rw [hlen] at h4 ⊢
  have hcur := hcur.trans hb4
  clear hb4
  have hS := And.intro (cell_later hcur e0) (And.intro (cell_later hcur e1) (cell_later hcur d3))
  have hrow4 := PRowX.keep HROW.out hcur
  obtain ⟨g9, C9, e9, _, _, _, hgl9, hcell9, hf9⟩ := PRowX.rd hrow4 (by omega)
  simp only [Value.slice.injEq, Option.some.injEq, Addr.mk.injEq, and_true, true_and] at e9
  obtain ⟨rfl, rfl⟩ := e9
  have r3 := hcell9 (b * 4 + 3) (by omega)
  have f3 := hf9 (b * 4 + 3)
  clear hcell9 hf9
  refine hK _ _ (fun _ => hS) ?_
  try simp only [Act.put, List.setIfInBounds_toArray, List.set_cons_zero, List.set_cons_succ]
  refine wpAnyT_ready1 (i := 23) (o := ⟨_, _, _, _, _, _⟩) (by kernel_rfl) rfl (fun KC_ hK => ?_)
  go_simp
  refine hK _ _ (fun h => absurd h (by decide)) ?_
  try simp only [Act.put, List.setIfInBounds_toArray, List.set_cons_zero, List.set_cons_succ]
  refine wpAnyT_ready1 (i := 24) (o := ⟨_, _, _, _, _, _⟩) (by kernel_rfl) rfl (fun KC_ hK => ?_)
  go_simp
  refine hK _ _ (fun h => absurd h (by decide)) ?_
  try simp only [Act.put, List.setIfInBounds_toArray, List.set_cons_zero, List.set_cons_succ]
  refine wpAnyT_ready1 (i := 25) (o := ⟨_, _, _, _, _, _⟩) (by kernel_rfl) rfl (fun KC_ hK => ?_)
  go_simp
  refine hK _ _ (fun h => absurd h (by decide)) ?_
  try simp only [Act.put, List.setIfInBounds_toArray, List.set_cons_zero, List.set_cons_succ]
  refine wpAnyT_done (by kernel_rfl) ?_ _
  have hzc := hcur.size
  have hset := PRowX.setBody (PRowX.part hrow4 b) hb (h4.lo_ (by omega)) (fun i hi _ => Apart.of_lt (PRowX.full HROW.out hi) (own_block_ge h4))
  rw [HCUT.out _ rfl] at hset
  have k0 := cell_later hcur e0
  have k1 := cell_later hcur q2
  have k2 := ((bcell hcur).2 (w.heap.size + 1) 0 (by omega)).trans u2
  have hne1 : og ≠ w1.heap.size := by omega
  have hne2 : og ≠ w.heap.size + 1 := by omega
  have hne3 : w.heap.size + 1 ≠ og := by omega
  have hne4 : w1.heap.size ≠ og := by omega
  have hbz : Below w.heap.size w (w4.setCell ⟨og, b * 4 + 3, none⟩ (.slice vA (body.length - 1) vC)) := (bthen HBW.out hcur).setCell (by show w.heap.size ≤ og; omega) _
  have HSET := Lib.hid hset
  have HBZ := Lib.hid hbz
  clear hset hbz hrow4 r3 f3 e0 e1 d3 q2 u2 hS h3 h4 hcur
  go_wp2
  refine bodyPost_ret (v := .agg #[.slice (some ⟨og, 0, none⟩) p.length oC]) (by simp [results, Try.results89, go_sem, k1]) rfl
    ⟨_, rfl, ⟨_, (PRowX.only HSET.out ((Only.refl (w.heap.size + 1) (w.heap.size + 2) _).setCell (Nat.le_refl _) (Nat.lt_succ_self _) _) (Nat.le_refl _)).lo_ (by omega)⟩, HBZ.out.setCell (by show w.heap.size ≤ w.heap.size + 1; omega) _⟩

set_option maxRecDepth 100000 in
set_option maxHeartbeats 2000000 in
theorem S_idle (sl : Value) (p : Pr) (b i lo : Nat) (w : World) (hv : Blks w lo sl p) (hs : shape p = true) (hb : b < p.length) (hi : i < (p.bk b).body.length) :
    Calls Try.prog 54 #[.agg #[sl], .int .i64 b, .int .i64 i] w fun e w' => e = .returned (.bool (idleB p b i)) ∧ Below w.heap.size w w' := by
  have hl := shape_len hs
  have HV := Lib.hid hv
  have HS := Lib.hid hs
  have HI := Lib.hid hi
  obtain ⟨A, C, g, rfl, hn, hc, hA, hg, hcell, _⟩ := hv.rd
  obtain rfl := hA (by omega)
  obtain ⟨pv, bv, _, _, _, d3, _, hbd⟩ := hcell b hb
  have hgl := (hg (by omega)).2
  have hd := fun h => cutP_shape (p := p) (b := b) (i := i) hs hb hi h
  rw [bk_nat] at hi hd
  have hR : idleB p b i = (((p.getD b default).body.getD i default).decl && (validP (cutP p b i) && ownRows p p.length == ownRows (cutP p b i) (cutP p b i).length)) := by unfold idleB; rw [bk_nat]
  rw [hR]
  obtain ⟨body, hbody⟩ : ∃ body : List St, body = (p.getD b default).body := ⟨_, rfl⟩
  rw [← hbody] at hbd hi hd ⊢
  obtain ⟨bA, bC, bg, eb, hbn, hbC, hbA, hbg, hst, _⟩ := hbd.rd
  subst eb
  obtain rfl := hbA (by omega)
  obtain ⟨s0, s1, s2, s3⟩ := hst i hi
  obtain ⟨s, hsv⟩ : ∃ s : St, s = body.getD i default := ⟨_, rfl⟩
  rw [← hsv] at s0 s1 s2 s3 hd ⊢
  have hbgl := World.block_lt_of_cell? _ _ s0
  simp only at hbgl
  obtain ⟨sk, st, sa, sb⟩ := s
  simp only at s0 s1 s2 s3
  unfold maxLen at hc hbC
  have hi0 : (0 : Int) ≤ (b : Int) := by omega
  have hi1 : (b : Int) < (p.length : Int) := by omega
  have hj0 : (0 : Int) ≤ (i : Int) := by omega
  have hj1 : (i : Int) < (body.length : Int) := by omega
  have HD := Lib.hid hd
  clear hv hs hA hg hcell hR hbody hbd hst hbA hbg hsv hd
  have hz : ∀ (w' : World), Below (w.alloc (.cells #[.slice (some ⟨g, 0, none⟩) p.length C] 25)).heap.size (w.alloc (.cells #[.slice (some ⟨g, 0, none⟩) p.length C] 25)) w' → w'.cell? ⟨w.heap.size, 0, none⟩ = some (.slice (some ⟨g, 0, none⟩) p.length C) := fun w' hb => cell_later hb (by simp [go_sem])
  have HZ := Lib.hid hz
  clear hz
  cases hdc : (⟨sk, st, sa, sb⟩ : St).decl
  · have HDC := Lib.hid hdc
    rw [decl_eq, Bool.or_eq_false_iff] at hdc
    obtain ⟨h9, h10⟩ := hdc
    have n9 : (sk != 9) = true := by simp only [bne, h9]; rfl
    have n10 : (sk != 10) = true := by simp only [bne, h10]; rfl
    go_enter Try.func54, Try.ntmps54
    go_wp2
    go_ret
    exact ⟨ret_bool rfl, al1⟩
  have HDC := Lib.hid hdc
  have HSH := Lib.hid (HD.out hdc)
  rw [decl_eq, Bool.or_eq_true, beq_iff_eq, beq_iff_eq] at hdc
  have HK := Lib.hid hdc
  have HLQ := Lib.hid (cutP_len p b i)
  clear hdc HD
  obtain ⟨Q, hQ⟩ : ∃ Q : Pr, Q = cutP p b i := ⟨_, rfl⟩
  rw [← hQ] at HSH HLQ ⊢
  have HQ := Lib.hid hQ
  clear hQ
  have main : ∀ V : Bool, validP Q = V → (sk = 9 ∨ sk = 10) → Calls Try.prog 54 #[.agg #[.slice (some ⟨g, 0, none⟩) p.length C], .int .i64 b, .int .i64 i] w fun e w' => e = .returned (.bool (true && (V && ownRows p p.length == ownRows Q Q.length))) ∧ Below w.heap.size w w' := by
    intro V hV hk
    have HVV := Lib.hid hV
    clear hV HK
    rcases hk with rfl | rfl <;> cases V
    · skip
      go_enter Try.func54, Try.ntmps54
      go_wp2_with fail
      refine (S_cut _ p b i lo _ (HV.out.keep al1) HS.out hb HI.out).mono ?_
      rintro e w1 ⟨sl1, xs1, rfl, hrow1, hb1⟩
      have c1 := HZ.out _ hb1
      have hB1 := bthen al1 hb1
      rw [← HQ.out] at hrow1
      obtain ⟨A1, C1, rfl⟩ := PRowX.form hrow1
      have hrow1 := PRowX.blks hrow1
      have hzw : w.heap.size < w1.heap.size := World.block_lt_of_cell? _ _ c1
      clear hb1
      go_wp2
      obtain ⟨W2, hW2⟩ : ∃ W2 : World, W2 = (w1.alloc (.cells #[.slice A1 Q.length C1] 25)).drew := ⟨_, rfl⟩
      have hb2 : Below w1.heap.size w1 W2 := by rw [hW2]; exact al1.drew
      have e0 : W2.cell? ⟨w1.heap.size, 0, none⟩ = some (.slice A1 Q.length C1) := by rw [hW2]; simp [go_sem]
      have e1 := cell_later hb2 c1
      have hB := bthen hB1 hb2
      have hq := hrow1.keep hb2
      have hcur := below0 W2
      have hS := And.intro e0 e1
      have HQR := Lib.hid hq
      have HBB := Lib.hid hB
      clear hb2 hrow1 hB1 c1 hq hB
      refine wp_region_T 10 (by kernel_rfl) (fun w' => w'.cell? ⟨w1.heap.size, 0, none⟩ = some (.slice A1 Q.length C1) ∧ w'.cell? ⟨w.heap.size, 0, none⟩ = some (.slice (some ⟨g, 0, none⟩) p.length C)) ?_
      rw [← hW2]
      clear hW2
      refine wpAnyT_take (i := 0) (oi := ⟨_, _, _, _, _, _⟩) (v := ?vr3_0) (by kernel_rfl) (by decide) rfl (by kernel_rfl) (by kernel_rfl) (by kernel_rfl) (fun _ _ _ h => h) (Or.inl ⟨by rfl, ?hyr3_0⟩) hS ?restr3_0
      case hyr3_0 =>
        intro w' hSw
        obtain ⟨s0, s1⟩ := hSw
        go_simp
        try with_reducible rfl
      try simp only [Act.put, List.setIfInBounds_toArray, List.set_cons_zero, List.set_cons_succ]
      refine wpAnyT_ready1 (i := 1) (o := ⟨_, _, _, _, _, _⟩) (by kernel_rfl) rfl (fun KC_ hK => ?_)
      go_simp
      go_at_call 35
      refine (S_validProgram _ Q _ _ (HQR.out.keep hcur)).mono ?_
      rintro e w3 ⟨rfl, hb⟩
      rw [HVV.out]
      have hcur := bthen hcur hb
      clear hb
      have hS := And.intro (cell_later hcur e0) (cell_later hcur e1)
      refine hK _ _ (fun _ => hS) ?_
      try simp only [Act.put, List.setIfInBounds_toArray, List.set_cons_zero, List.set_cons_succ]
      refine wpAnyT_take (i := 2) (oi := ⟨_, _, _, _, _, _⟩) (v := ?vr3_2) (by kernel_rfl) (by decide) rfl (by kernel_rfl) (by kernel_rfl) (by kernel_rfl) (fun _ _ _ h => h) (Or.inl ⟨by rfl, ?hyr3_2⟩) hS ?restr3_2
      case hyr3_2 =>
        intro w' hSw
        obtain ⟨s0, s1⟩ := hSw
        go_simp
        try with_reducible rfl
      try simp only [Act.put, List.setIfInBounds_toArray, List.set_cons_zero, List.set_cons_succ]
      refine wpAnyT_take (i := 3) (oi := ⟨_, _, _, _, _, _⟩) (v := undef) (by kernel_rfl) (by decide) rfl (by kernel_rfl) (by kernel_rfl) (by kernel_rfl) (fun _ _ _ h => h) (Or.inr ⟨by first | rfl | (show (some _ == some _) = false; simp; done) | (show (some _ == some _) = false; simp; omega), rfl⟩) hS ?restr3_3
      try simp only [Act.put, List.setIfInBounds_toArray, List.set_cons_zero, List.set_cons_succ]
      refine wpAnyT_take (i := 5) (oi := ⟨_, _, _, _, _, _⟩) (v := undef) (by kernel_rfl) (by decide) rfl (by kernel_rfl) (by kernel_rfl) (by kernel_rfl) (fun _ _ _ h => h) (Or.inr ⟨by first | rfl | (show (some _ == some _) = false; simp; done) | (show (some _ == some _) = false; simp; omega), rfl⟩) hS ?restr3_5
      try simp only [Act.put, List.setIfInBounds_toArray, List.set_cons_zero, List.set_cons_succ]
      refine wpAnyT_ready1 (i := 4) (o := ⟨_, _, _, _, _, _⟩) (by kernel_rfl) rfl (fun KC_ hK => ?_)
      go_simp
      refine hK _ _ (fun _ => hS) ?_
      try simp only [Act.put, List.setIfInBounds_toArray, List.set_cons_zero, List.set_cons_succ]
      refine wpAnyT_ready1 (i := 6) (o := ⟨_, _, _, _, _, _⟩) (by kernel_rfl) rfl (fun KC_ hK => ?_)
      go_simp
      refine hK _ _ (fun _ => hS) ?_
      try simp only [Act.put, List.setIfInBounds_toArray, List.set_cons_zero, List.set_cons_succ]
      refine wpAnyT_ready1 (i := 7) (o := ⟨_, _, _, _, _, _⟩) (by kernel_rfl) rfl (fun KC_ hK => ?_)
      go_simp
      refine hK _ _ (fun _ => hS) ?_
      try simp only [Act.put, List.setIfInBounds_toArray, List.set_cons_zero, List.set_cons_succ]
      refine wpAnyT_take (i := 8) (oi := ⟨_, _, _, _, _, _⟩) (v := ?vr3_8) (by kernel_rfl) (by decide) rfl (by kernel_rfl) (by kernel_rfl) (by kernel_rfl) (fun _ _ _ h => h) (Or.inl ⟨by rfl, ?hyr3_8⟩) hS ?restr3_8
      case hyr3_8 =>
        intro w' hSw
        obtain ⟨s0, s1⟩ := hSw
        go_simp
        try with_reducible rfl
      try simp only [Act.put, List.setIfInBounds_toArray, List.set_cons_zero, List.set_cons_succ]
      refine wpAnyT_take (i := 9) (oi := ⟨_, _, _, _, _, _⟩) (v := ?vr3_9) (by kernel_rfl) (by decide) rfl (by kernel_rfl) (by kernel_rfl) (by kernel_rfl) (fun _ _ _ h => h) (Or.inl ⟨by rfl, ?hyr3_9⟩) hS ?restr3_9
      case hyr3_9 =>
        intro w' hSw
        obtain ⟨s0, s1⟩ := hSw
        go_simp
        try with_reducible rfl
      try simp only [Act.put, List.setIfInBounds_toArray, List.set_cons_zero, List.set_cons_succ]
      refine wpAnyT_done (by kernel_rfl) ?_ _
      go_wp2
      go_ret
      exact ⟨ret_bool (by simp), bthen HBB.out hcur⟩
    · skip
      go_enter Try.func54, Try.ntmps54
      go_wp2_with fail
      refine (S_cut _ p b i lo _ (HV.out.keep al1) HS.out hb HI.out).mono ?_
      rintro e w1 ⟨sl1, xs1, rfl, hrow1, hb1⟩
      have c1 := HZ.out _ hb1
      have hB1 := bthen al1 hb1
      rw [← HQ.out] at hrow1
      obtain ⟨A1, C1, rfl⟩ := PRowX.form hrow1
      have hrow1 := PRowX.blks hrow1
      have hzw : w.heap.size < w1.heap.size := World.block_lt_of_cell? _ _ c1
      clear hb1
      go_wp2
      obtain ⟨W2, hW2⟩ : ∃ W2 : World, W2 = (w1.alloc (.cells #[.slice A1 Q.length C1] 25)).drew := ⟨_, rfl⟩
      have hb2 : Below w1.heap.size w1 W2 := by rw [hW2]; exact al1.drew
      have e0 : W2.cell? ⟨w1.heap.size, 0, none⟩ = some (.slice A1 Q.length C1) := by rw [hW2]; simp [go_sem]
      have e1 := cell_later hb2 c1
      have hB := bthen hB1 hb2
      have hq := hrow1.keep hb2
      have hcur := below0 W2
      have hS := And.intro e0 e1
      have HQR := Lib.hid hq
      have HBB := Lib.hid hB
      clear hb2 hrow1 hB1 c1 hq hB
      refine wp_region_T 10 (by kernel_rfl) (fun w' => w'.cell? ⟨w1.heap.size, 0, none⟩ = some (.slice A1 Q.length C1) ∧ w'.cell? ⟨w.heap.size, 0, none⟩ = some (.slice (some ⟨g, 0, none⟩) p.length C)) ?_
      rw [← hW2]
      clear hW2
      refine wpAnyT_take (i := 0) (oi := ⟨_, _, _, _, _, _⟩) (v := ?vr4_0) (by kernel_rfl) (by decide) rfl (by kernel_rfl) (by kernel_rfl) (by kernel_rfl) (fun _ _ _ h => h) (Or.inl ⟨by rfl, ?hyr4_0⟩) hS ?restr4_0
      case hyr4_0 =>
        intro w' hSw
        obtain ⟨s0, s1⟩ := hSw
        go_simp
        try with_reducible rfl
      try simp only [Act.put, List.setIfInBounds_toArray, List.set_cons_zero, List.set_cons_succ]
      refine wpAnyT_ready1 (i := 1) (o := ⟨_, _, _, _, _, _⟩) (by kernel_rfl) rfl (fun KC_ hK => ?_)
      go_simp
      go_at_call 35
      refine (S_validProgram _ Q _ _ (HQR.out.keep hcur)).mono ?_
      rintro e w3 ⟨rfl, hb⟩
      rw [HVV.out]
      have hcur := bthen hcur hb
      clear hb
      have hS := And.intro (cell_later hcur e0) (cell_later hcur e1)
      refine hK _ _ (fun _ => hS) ?_
      try simp only [Act.put, List.setIfInBounds_toArray, List.set_cons_zero, List.set_cons_succ]
      refine wpAnyT_take (i := 2) (oi := ⟨_, _, _, _, _, _⟩) (v := ?vr4_2) (by kernel_rfl) (by decide) rfl (by kernel_rfl) (by kernel_rfl) (by kernel_rfl) (fun _ _ _ h => h) (Or.inl ⟨by rfl, ?hyr4_2⟩) hS ?restr4_2
      case hyr4_2 =>
        intro w' hSw
        obtain ⟨s0, s1⟩ := hSw
        go_simp
        try with_reducible rfl
      try simp only [Act.put, List.setIfInBounds_toArray, List.set_cons_zero, List.set_cons_succ]
      refine wpAnyT_take (i := 3) (oi := ⟨_, _, _, _, _, _⟩) (v := ?vr4_3) (by kernel_rfl) (by decide) rfl (by kernel_rfl) (by kernel_rfl) (by kernel_rfl) (fun _ _ _ h => h) (Or.inl ⟨by first | rfl | (show (some _ == some _) = true; simp; done) | (show (some _ == some _) = true; simp; omega), ?hyr4_3⟩) hS ?restr4_3
      case hyr4_3 =>
        intro w' hSw
        obtain ⟨s0, s1⟩ := hSw
        go_simp
        try with_reducible rfl
      try simp only [Act.put, List.setIfInBounds_toArray, List.set_cons_zero, List.set_cons_succ]
      refine wpAnyT_take (i := 5) (oi := ⟨_, _, _, _, _, _⟩) (v := ?vr4_5) (by kernel_rfl) (by decide) rfl (by kernel_rfl) (by kernel_rfl) (by kernel_rfl) (fun _ _ _ h => h) (Or.inl ⟨by first | rfl | (show (some _ == some _) = true; simp; done) | (show (some _ == some _) = true; simp; omega), ?hyr4_5⟩) hS ?restr4_5
      case hyr4_5 =>
        intro w' hSw
        obtain ⟨s0, s1⟩ := hSw
        go_simp
        try with_reducible rfl
      try simp only [Act.put, List.setIfInBounds_toArray, List.set_cons_zero, List.set_cons_succ]
      refine wpAnyT_ready1 (i := 4) (o := ⟨_, _, _, _, _, _⟩) (by kernel_rfl) rfl (fun KC_ hK => ?_)
      try rw [if_pos (by first | rfl | (show (some _ == some _) = true; simp; done) | (show (some _ == some _) = true; simp; omega))]
      go_simp
      go_at_call 65
      refine (S_ownersOf _ p lo _ (HV.out.keep (bthen HBB.out hcur)) HS.out).mono ?_
      rintro e w4 ⟨v4, us4, rfl, hr4, hb⟩
      have hcur := bthen hcur hb
      clear hb
      have hS := And.intro (cell_later hcur e0) (cell_later hcur e1)
      refine hK _ _ (fun _ => hS) ?_
      try simp only [Act.put, List.setIfInBounds_toArray, List.set_cons_zero, List.set_cons_succ]
      refine wpAnyT_ready1 (i := 6) (o := ⟨_, _, _, _, _, _⟩) (by kernel_rfl) rfl (fun KC_ hK => ?_)
      try rw [if_pos (by first | rfl | (show (some _ == some _) = true; simp; done) | (show (some _ == some _) = true; simp; omega))]
      go_simp
      go_at_call 65
      refine (S_ownersOf _ Q _ _ (HQR.out.keep hcur) HSH.out).mono ?_
      rintro e w5 ⟨v5, us5, rfl, hr5, hb⟩
      have hr4 := hr4.keep hb
      have hcur := bthen hcur hb
      clear hb
      have hS := And.intro (cell_later hcur e0) (cell_later hcur e1)
      refine hK _ _ (fun _ => hS) ?_
      try simp only [Act.put, List.setIfInBounds_toArray, List.set_cons_zero, List.set_cons_succ]
      refine wpAnyT_ready1 (i := 7) (o := ⟨_, _, _, _, _, _⟩) (by kernel_rfl) rfl (fun KC_ hK => ?_)
      try rw [if_pos (by first | rfl | (show (some _ == some _) = true; simp; done) | (show (some _ == some _) = true; simp; omega))]
      go_simp
      go_at_call 64
      refine (S_sameTable _ _ _ _ _ _ _ _ _ hr4 hr5 (ownRows_rows HLQ.out.symm).1 (ownRows_rows HLQ.out.symm).2).mono ?_
      rintro e w6 ⟨rfl, hb⟩
      have hcur := bthen hcur hb
      clear hb
      have hS := And.intro (cell_later hcur e0) (cell_later hcur e1)
      refine hK _ _ (fun _ => hS) ?_
      try simp only [Act.put, List.setIfInBounds_toArray, List.set_cons_zero, List.set_cons_succ]
      refine wpAnyT_take (i := 8) (oi := ⟨_, _, _, _, _, _⟩) (v := ?vr4_8) (by kernel_rfl) (by decide) rfl (by kernel_rfl) (by kernel_rfl) (by kernel_rfl) (fun _ _ _ h => h) (Or.inl ⟨by rfl, ?hyr4_8⟩) hS ?restr4_8
      case hyr4_8 =>
        intro w' hSw
        obtain ⟨s0, s1⟩ := hSw
        go_simp
        try with_reducible rfl
      try simp only [Act.put, List.setIfInBounds_toArray, List.set_cons_zero, List.set_cons_succ]
      refine wpAnyT_take (i := 9) (oi := ⟨_, _, _, _, _, _⟩) (v := ?vr4_9) (by kernel_rfl) (by decide) rfl (by kernel_rfl) (by kernel_rfl) (by kernel_rfl) (fun _ _ _ h => h) (Or.inl ⟨by rfl, ?hyr4_9⟩) hS ?restr4_9
      case hyr4_9 =>
        intro w' hSw
        obtain ⟨s0, s1⟩ := hSw
        go_simp
        try with_reducible rfl
      try simp only [Act.put, List.setIfInBounds_toArray, List.set_cons_zero, List.set_cons_succ]
      refine wpAnyT_done (by kernel_rfl) ?_ _
      go_wp2
      go_ret
      exact ⟨ret_bool (by simp), bthen HBB.out hcur⟩
    · skip
      go_enter Try.func54, Try.ntmps54
      go_wp2_with fail
      refine (S_cut _ p b i lo _ (HV.out.keep al1) HS.out hb HI.out).mono ?_
      rintro e w1 ⟨sl1, xs1, rfl, hrow1, hb1⟩
      have c1 := HZ.out _ hb1
      have hB1 := bthen al1 hb1
      rw [← HQ.out] at hrow1
      obtain ⟨A1, C1, rfl⟩ := PRowX.form hrow1
      have hrow1 := PRowX.blks hrow1
      have hzw : w.heap.size < w1.heap.size := World.block_lt_of_cell? _ _ c1
      clear hb1
      go_wp2
      obtain ⟨W2, hW2⟩ : ∃ W2 : World, W2 = (w1.alloc (.cells #[.slice A1 Q.length C1] 25)).drew := ⟨_, rfl⟩
      have hb2 : Below w1.heap.size w1 W2 := by rw [hW2]; exact al1.drew
      have e0 : W2.cell? ⟨w1.heap.size, 0, none⟩ = some (.slice A1 Q.length C1) := by rw [hW2]; simp [go_sem]
      have e1 := cell_later hb2 c1
      have hB := bthen hB1 hb2
      have hq := hrow1.keep hb2
      have hcur := below0 W2
      have hS := And.intro e0 e1
      have HQR := Lib.hid hq
      have HBB := Lib.hid hB
      clear hb2 hrow1 hB1 c1 hq hB
      refine wp_region_T 10 (by kernel_rfl) (fun w' => w'.cell? ⟨w1.heap.size, 0, none⟩ = some (.slice A1 Q.length C1) ∧ w'.cell? ⟨w.heap.size, 0, none⟩ = some (.slice (some ⟨g, 0, none⟩) p.length C)) ?_
      rw [← hW2]
      clear hW2
      refine wpAnyT_take (i := 0) (oi := ⟨_, _, _, _, _, _⟩) (v := ?vr5_0) (by kernel_rfl) (by decide) rfl (by kernel_rfl) (by kernel_rfl) (by kernel_rfl) (fun _ _ _ h => h) (Or.inl ⟨by rfl, ?hyr5_0⟩) hS ?restr5_0
      case hyr5_0 =>
        intro w' hSw
        obtain ⟨s0, s1⟩ := hSw
        go_simp
        try with_reducible rfl
      try simp only [Act.put, List.setIfInBounds_toArray, List.set_cons_zero, List.set_cons_succ]
      refine wpAnyT_ready1 (i := 1) (o := ⟨_, _, _, _, _, _⟩) (by kernel_rfl) rfl (fun KC_ hK => ?_)
      go_simp
      go_at_call 35
      refine (S_validProgram _ Q _ _ (HQR.out.keep hcur)).mono ?_
      rintro e w3 ⟨rfl, hb⟩
      rw [HVV.out]
      have hcur := bthen hcur hb
      clear hb
      have hS := And.intro (cell_later hcur e0) (cell_later hcur e1)
      refine hK _ _ (fun _ => hS) ?_
      try simp only [Act.put, List.setIfInBounds_toArray, List.set_cons_zero, List.set_cons_succ]
      refine wpAnyT_take (i := 2) (oi := ⟨_, _, _, _, _, _⟩) (v := ?vr5_2) (by kernel_rfl) (by decide) rfl (by kernel_rfl) (by kernel_rfl) (by kernel_rfl) (fun _ _ _ h => h) (Or.inl ⟨by rfl, ?hyr5_2⟩) hS ?restr5_2
      case hyr5_2 =>
        intro w' hSw
        obtain ⟨s0, s1⟩ := hSw
        go_simp
        try with_reducible rfl
      try simp only [Act.put, List.setIfInBounds_toArray, List.set_cons_zero, List.set_cons_succ]
      refine wpAnyT_take (i := 3) (oi := ⟨_, _, _, _, _, _⟩) (v := undef) (by kernel_rfl) (by decide) rfl (by kernel_rfl) (by kernel_rfl) (by kernel_rfl) (fun _ _ _ h => h) (Or.inr ⟨by first | rfl | (show (some _ == some _) = false; simp; done) | (show (some _ == some _) = false; simp; omega), rfl⟩) hS ?restr5_3
      try simp only [Act.put, List.setIfInBounds_toArray, List.set_cons_zero, List.set_cons_succ]
      refine wpAnyT_take (i := 5) (oi := ⟨_, _, _, _, _, _⟩) (v := undef) (by kernel_rfl) (by decide) rfl (by kernel_rfl) (by kernel_rfl) (by kernel_rfl) (fun _ _ _ h => h) (Or.inr ⟨by first | rfl | (show (some _ == some _) = false; simp; done) | (show (some _ == some _) = false; simp; omega), rfl⟩) hS ?restr5_5
      try simp only [Act.put, List.setIfInBounds_toArray, List.set_cons_zero, List.set_cons_succ]
      refine wpAnyT_ready1 (i := 4) (o := ⟨_, _, _, _, _, _⟩) (by kernel_rfl) rfl (fun KC_ hK => ?_)
      go_simp
      refine hK _ _ (fun _ => hS) ?_
      try simp only [Act.put, List.setIfInBounds_toArray, List.set_cons_zero, List.set_cons_succ]
      refine wpAnyT_ready1 (i := 6) (o := ⟨_, _, _, _, _, _⟩) (by kernel_rfl) rfl (fun KC_ hK => ?_)
      go_simp
      refine hK _ _ (fun _ => hS) ?_
      try simp only [Act.put, List.setIfInBounds_toArray, List.set_cons_zero, List.set_cons_succ]
      refine wpAnyT_ready1 (i := 7) (o := ⟨_, _, _, _, _, _⟩) (by kernel_rfl) rfl (fun KC_ hK => ?_)
      go_simp
      refine hK _ _ (fun _ => hS) ?_
      try simp only [Act.put, List.setIfInBounds_toArray, List.set_cons_zero, List.set_cons_succ]
      refine wpAnyT_take (i := 8) (oi := ⟨_, _, _, _, _, _⟩) (v := ?vr5_8) (by kernel_rfl) (by decide) rfl (by kernel_rfl) (by kernel_rfl) (by kernel_rfl) (fun _ _ _ h => h) (Or.inl ⟨by rfl, ?hyr5_8⟩) hS ?restr5_8
      case hyr5_8 =>
        intro w' hSw
        obtain ⟨s0, s1⟩ := hSw
        go_simp
        try with_reducible rfl
      try simp only [Act.put, List.setIfInBounds_toArray, List.set_cons_zero, List.set_cons_succ]
      refine wpAnyT_take (i := 9) (oi := ⟨_, _, _, _, _, _⟩) (v := ?vr5_9) (by kernel_rfl) (by decide) rfl (by kernel_rfl) (by kernel_rfl) (by kernel_rfl) (fun _ _ _ h => h) (Or.inl ⟨by rfl, ?hyr5_9⟩) hS ?restr5_9
      case hyr5_9 =>
        intro w' hSw
        obtain ⟨s0, s1⟩ := hSw
        go_simp
        try with_reducible rfl
      try simp only [Act.put, List.setIfInBounds_toArray, List.set_cons_zero, List.set_cons_succ]
      refine wpAnyT_done (by kernel_rfl) ?_ _
      go_wp2
      go_ret
      exact ⟨ret_bool (by simp), bthen HBB.out hcur⟩
    · skip
      go_enter Try.func54, Try.ntmps54
      go_wp2_with fail
      refine (S_cut _ p b i lo _ (HV.out.keep al1) HS.out hb HI.out).mono ?_
      rintro e w1 ⟨sl1, xs1, rfl, hrow1, hb1⟩
      have c1 := HZ.out _ hb1
      have hB1 := bthen al1 hb1
      rw [← HQ.out] at hrow1
      obtain ⟨A1, C1, rfl⟩ := PRowX.form hrow1
      have hrow1 := PRowX.blks hrow1
      have hzw : w.heap.size < w1.heap.size := World.block_lt_of_cell? _ _ c1
      clear hb1
      go_wp2
      obtain ⟨W2, hW2⟩ : ∃ W2 : World, W2 = (w1.alloc (.cells #[.slice A1 Q.length C1] 25)).drew := ⟨_, rfl⟩
      have hb2 : Below w1.heap.size w1 W2 := by rw [hW2]; exact al1.drew
      have e0 : W2.cell? ⟨w1.heap.size, 0, none⟩ = some (.slice A1 Q.length C1) := by rw [hW2]; simp [go_sem]
      have e1 := cell_later hb2 c1
      have hB := bthen hB1 hb2
      have hq := hrow1.keep hb2
      have hcur := below0 W2
      have hS := And.intro e0 e1
      have HQR := Lib.hid hq
      have HBB := Lib.hid hB
      clear hb2 hrow1 hB1 c1 hq hB
      refine wp_region_T 10 (by kernel_rfl) (fun w' => w'.cell? ⟨w1.heap.size, 0, none⟩ = some (.slice A1 Q.length C1) ∧ w'.cell? ⟨w.heap.size, 0, none⟩ = some (.slice (some ⟨g, 0, none⟩) p.length C)) ?_
      rw [← hW2]
      clear hW2
      refine wpAnyT_take (i := 0) (oi := ⟨_, _, _, _, _, _⟩) (v := ?vr6_0) (by kernel_rfl) (by decide) rfl (by kernel_rfl) (by kernel_rfl) (by kernel_rfl) (fun _ _ _ h => h) (Or.inl ⟨by rfl, ?hyr6_0⟩) hS ?restr6_0
      case hyr6_0 =>
        intro w' hSw
        obtain ⟨s0, s1⟩ := hSw
        go_simp
        try with_reducible rfl
      try simp only [Act.put, List.setIfInBounds_toArray, List.set_cons_zero, List.set_cons_succ]
      refine wpAnyT_ready1 (i := 1) (o := ⟨_, _, _, _, _, _⟩) (by kernel_rfl) rfl (fun KC_ hK => ?_)
      go_simp
      go_at_call 35
      refine (S_validProgram _ Q _ _ (HQR.out.keep hcur)).mono ?_
      rintro e w3 ⟨rfl, hb⟩
      rw [HVV.out]
      have hcur := bthen hcur hb
      clear hb
      have hS := And.intro (cell_later hcur e0) (cell_later hcur e1)
      refine hK _ _ (fun _ => hS) ?_
      try simp only [Act.put, List.setIfInBounds_toArray, List.set_cons_zero, List.set_cons_succ]
      refine wpAnyT_take (i := 2) (oi := ⟨_, _, _, _, _, _⟩) (v := ?vr6_2) (by kernel_rfl) (by decide) rfl (by kernel_rfl) (by kernel_rfl) (by kernel_rfl) (fun _ _ _ h => h) (Or.inl ⟨by rfl, ?hyr6_2⟩) hS ?restr6_2
      case hyr6_2 =>
        intro w' hSw
        obtain ⟨s0, s1⟩ := hSw
        go_simp
        try with_reducible rfl
      try simp only [Act.put, List.setIfInBounds_toArray, List.set_cons_zero, List.set_cons_succ]
      refine wpAnyT_take (i := 3) (oi := ⟨_, _, _, _, _, _⟩) (v := ?vr6_3) (by kernel_rfl) (by decide) rfl (by kernel_rfl) (by kernel_rfl) (by kernel_rfl) (fun _ _ _ h => h) (Or.inl ⟨by first | rfl | (show (some _ == some _) = true; simp; done) | (show (some _ == some _) = true; simp; omega), ?hyr6_3⟩) hS ?restr6_3
      case hyr6_3 =>
        intro w' hSw
        obtain ⟨s0, s1⟩ := hSw
        go_simp
        try with_reducible rfl
      try simp only [Act.put, List.setIfInBounds_toArray, List.set_cons_zero, List.set_cons_succ]
      refine wpAnyT_take (i := 5) (oi := ⟨_, _, _, _, _, _⟩) (v := ?vr6_5) (by kernel_rfl) (by decide) rfl (by kernel_rfl) (by kernel_rfl) (by kernel_rfl) (fun _ _ _ h => h) (Or.inl ⟨by first | rfl | (show (some _ == some _) = true; simp; done) | (show (some _ == some _) = true; simp; omega), ?hyr6_5⟩) hS ?restr6_5
      case hyr6_5 =>
        intro w' hSw
        obtain ⟨s0, s1⟩ := hSw
        go_simp
        try with_reducible rfl
      try simp only [Act.put, List.setIfInBounds_toArray, List.set_cons_zero, List.set_cons_succ]
      refine wpAnyT_ready1 (i := 4) (o := ⟨_, _, _, _, _, _⟩) (by kernel_rfl) rfl (fun KC_ hK => ?_)
      try rw [if_pos (by first | rfl | (show (some _ == some _) = true; simp; done) | (show (some _ == some _) = true; simp; omega))]
      go_simp
      go_at_call 65
      refine (S_ownersOf _ p lo _ (HV.out.keep (bthen HBB.out hcur)) HS.out).mono ?_
      rintro e w4 ⟨v4, us4, rfl, hr4, hb⟩
      have hcur := bthen hcur hb
      clear hb
      have hS := And.intro (cell_later hcur e0) (cell_later hcur e1)
      refine hK _ _ (fun _ => hS) ?_
      try simp only [Act.put, List.setIfInBounds_toArray, List.set_cons_zero, List.set_cons_succ]
      refine wpAnyT_ready1 (i := 6) (o := ⟨_, _, _, _, _, _⟩) (by kernel_rfl) rfl (fun KC_ hK => ?_)
      try rw [if_pos (by first | rfl | (show (some _ == some _) = true; simp; done) | (show (some _ == some _) = true; simp; omega))]
      go_simp
      go_at_call 65
      refine (S_ownersOf _ Q _ _ (HQR.out.keep hcur) HSH.out).mono ?_
      rintro e w5 ⟨v5, us5, rfl, hr5, hb⟩
      have hr4 := hr4.keep hb
      have hcur := bthen hcur hb
      clear hb
      have hS := And.intro (cell_later hcur e0) (cell_later hcur e1)
      refine hK _ _ (fun _ => hS) ?_
      try simp only [Act.put, List.setIfInBounds_toArray, List.set_cons_zero, List.set_cons_succ]
      refine wpAnyT_ready1 (i := 7) (o := ⟨_, _, _, _, _, _⟩) (by kernel_rfl) rfl (fun KC_ hK => ?_)
      try rw [if_pos (by first | rfl | (show (some _ == some _) = true; simp; done) | (show (some _ == some _) = true; simp; omega))]
      go_simp
      go_at_call 64
      refine (S_sameTable _ _ _ _ _ _ _ _ _ hr4 hr5 (ownRows_rows HLQ.out.symm).1 (ownRows_rows HLQ.out.symm).2).mono ?_
      rintro e w6 ⟨rfl, hb⟩
      have hcur := bthen hcur hb
      clear hb
      have hS := And.intro (cell_later hcur e0) (cell_later hcur e1)
      refine hK _ _ (fun _ => hS) ?_
      try simp only [Act.put, List.setIfInBounds_toArray, List.set_cons_zero, List.set_cons_succ]
      refine wpAnyT_take (i := 8) (oi := ⟨_, _, _, _, _, _⟩) (v := ?vr6_8) (by kernel_rfl) (by decide) rfl (by kernel_rfl) (by kernel_rfl) (by kernel_rfl) (fun _ _ _ h => h) (Or.inl ⟨by rfl, ?hyr6_8⟩) hS ?restr6_8
      case hyr6_8 =>
        intro w' hSw
        obtain ⟨s0, s1⟩ := hSw
        go_simp
        try with_reducible rfl
      try simp only [Act.put, List.setIfInBounds_toArray, List.set_cons_zero, List.set_cons_succ]
      refine wpAnyT_take (i := 9) (oi := ⟨_, _, _, _, _, _⟩) (v := ?vr6_9) (by kernel_rfl) (by decide) rfl (by kernel_rfl) (by kernel_rfl) (by kernel_rfl) (fun _ _ _ h => h) (Or.inl ⟨by rfl, ?hyr6_9⟩) hS ?restr6_9
      case hyr6_9 =>
        intro w' hSw
        obtain ⟨s0, s1⟩ := hSw
        go_simp
        try with_reducible rfl
      try simp only [Act.put, List.setIfInBounds_toArray, List.set_cons_zero, List.set_cons_succ]
      refine wpAnyT_done (by kernel_rfl) ?_ _
      go_wp2
      go_ret
      exact ⟨ret_bool (by simp), bthen HBB.out hcur⟩
  exact main _ rfl HK.out

set_option maxRecDepth 100000 in
set_option maxHeartbeats 2000000 in
theorem S_IdleDeclarations (v : Value) (p : Pr) (lo : Nat) (w : World) (hv : Prog w lo v p) :
    Calls Try.prog 19 #[v] w fun e w' => ∃ v' us, e = .returned v' ∧ RowsOf w' w.heap.size v' us (rIdle p) ∧ Below w.heap.size w w' := by
  obtain ⟨sl, rfl, hv⟩ := hv
  have HV := Lib.hid hv
  cases hp : validP p
  · have HP := Lib.hid hp
    obtain ⟨A, C, rfl⟩ := hv.form
    have hR : rIdle p = [] := by unfold rIdle; rw [hp]; rfl
    rw [hR]
    clear hp hR hv
    go_enter Try.func19, Try.ntmps19
    go_wp2_with (go_at_call 35; refine (S_validProgram _ p lo _ (HV.out.keep al1)).mono ?_; rintro e w1 ⟨rfl, hb1'⟩; rw [HP.out]; have cb1 := boxAt1 hb1'; have hB1 := bthen (al1 (w := w)) hb1'; have hz1 := hB1.size; clear hb1')
    go_ret
    exact ⟨_, [], rfl, RowsOf.nil _ _, hB1⟩
  have hs := validP_shape hp
  have hl := shape_len hs
  obtain ⟨g, C, rfl, hg⟩ := hv.formS (by omega)
  have HP := Lib.hid hp
  have HSH := Lib.hid hs
  have hR : rIdle p = idleRows p p.length := by unfold rIdle; rw [hp]; rfl
  rw [hR]
  clear hv hs hp hR
  go_enter Try.func19, Try.ntmps19
  go_wp2_with fail
  refine (S_validProgram _ p lo _ (HV.out.keep al1)).mono ?_
  rintro e W0 ⟨rfl, hb1'⟩
  rw [HP.out]
  have c0 : W0.cell? ⟨w.heap.size, 0, none⟩ = some (.slice (some ⟨g, 0, none⟩) p.length C) := cell_later hb1' (by simp [go_sem])
  have hb0 := bthen (al1 (w := w)) hb1'
  have hz0 := hb0.size
  have hzl : w.heap.size < W0.heap.size := World.block_lt_of_cell? _ _ c0
  have HB0 := Lib.hid hb0
  clear hb1' hb0
  go_wp2
  go_loopw [3, 4] (fun o i wi => ∃ (k : Nat) (us : List Value), k ≤ p.length ∧ i = .int .i64 k ∧ RowsOf wi W0.heap.size o us (idleRows p k) ∧ Below W0.heap.size W0 wi) (fun _ i _ => p.length - (intOf i).toNat)
  case atStart => exact ⟨0, [], Nat.zero_le _, rfl, RowsOf.zero rfl (Nat.le_refl _), al1⟩
  case round =>
    obtain ⟨wo, rfl⟩ : ∃ wo : World, wo = wr := ⟨_, rfl⟩
    obtain ⟨k, us, hk, rfl, hrow, hB⟩ := hrel
    have c1 := cell_later hB c0
    have HV1 := Lib.hid (HV.out.keep (bthen HB0.out hB))
    have HROW := Lib.hid hrow
    have hzo := hB.size
    clear hrow
    by_cases hlt : k < p.length
    · have hbk : p.bk (k : Int) = p.getD k default := bk_nat p k
      have hb12 := shape_body HSH.out (k : Int) (by omega) (by omega)
      obtain ⟨A', C', g', e, hn, hc, hA, _, hcell, _⟩ := HV1.out.rd
      simp only [Value.slice.injEq] at e
      obtain ⟨e, _, rfl⟩ := e
      obtain rfl : g = g' := by have := hA (by omega); rw [← e] at this; simpa using this
      obtain ⟨pv, bv, _, _, _, d3, _, hbd⟩ := hcell k hlt
      rw [← hbk] at hbd
      obtain ⟨n, hn9⟩ : ∃ n : Nat, n = (p.bk (k : Int)).body.length := ⟨_, rfl⟩
      obtain ⟨bA, bC, rfl⟩ := hbd.form
      rw [← hn9] at d3 hb12
      have HN := Lib.hid hn9
      have hk0 : (0 : Int) ≤ (k : Int) := by omega
      have hk1 : (k : Int) < (p.length : Int) := by omega
      have li := Ints.zero wo _ (Nat.le_refl wo.heap.size)
      have hal := al1 (w := wo) (o := .cells #[] 3)
      have hgw := World.block_lt_of_cell? _ _ d3
      have hgw1 := World.block_lt_of_cell? _ _ c1
      simp only at hgw hgw1
      clear e hA hcell hbd hbk hn9
      go_wp2
      go_loopw [5, 6] (fun r i wi => ∃ m : Nat, m ≤ n ∧ i = .int .i64 m ∧ Ints wi wo.heap.size r (idleRow p k m) ∧ Below wo.heap.size wo wi) (fun _ i _ => n - (intOf i).toNat)
      case atStart => exact ⟨0, Nat.zero_le _, rfl, li, hal⟩
      case round =>
        obtain ⟨m, hm, rfl, hr, hBi⟩ := hrel
        have c4 := cell_later hBi c1
        have d4 := cell_later hBi d3
        have HV4 := Lib.hid (HV1.out.keep hBi)
        have hzi := hBi.size
        have hlen := idleRow_len p k m
        clear li hal
        by_cases hlm : m < n
        · have HY := Lib.hid (fun h => idleRow_yes (p := p) (b := k) (m := m) h)
          have HNO := Lib.hid (fun h => idleRow_no (p := p) (b := k) (m := m) h)
          have hmm0 : (0 : Int) ≤ (m : Int) := by omega
          have hmm1 : (m : Int) < (n : Int) := by omega
          have hmb : m < (p.bk (k : Int)).body.length := by rw [← HN.out]; exact hlm
          have HMB := Lib.hid hmb
          cases hh : idleB p k m
          · have HH := Lib.hid hh
            clear hh hmb
            go_wp2_with fail
            refine (S_idle _ p k m lo _ HV4.out HSH.out hlt HMB.out).mono ?_
            rintro e w5 ⟨rfl, hb5⟩
            rw [HH.out]
            go_wp2
            go_roundw
            case rel => exact ⟨m + 1, by omega, by go_num, by rw [HNO.out HH.out]; exact hr.keep hb5, bthen hBi hb5⟩
            case measure => simp [intOf]; omega
          · have HH := Lib.hid hh
            clear hh hmb
            go_wp2_with fail
            refine (S_idle _ p k m lo _ HV4.out HSH.out hlt HMB.out).mono ?_
            rintro e w5 ⟨rfl, hb5⟩
            rw [HH.out]
            have hr := hr.keep hb5
            have hBi := bthen hBi hb5
            have hzi := hBi.size
            go_wp2_with (at_builtin; refine wpList_append_ints rfl _ _ rfl _ _ _ [(m : Int)] wo.heap.size _ rfl rfl (hr.keep al1) (Ints.one' _ _ (by first | rfl | simp only [World.size_alloc]) _ _ (Nat.le_refl _)) (by show _ + 1 ≤ _; omega) (by simp only [World.size_alloc]; omega) ?_; intro v9 w9 hown9 hgrow9 hbel9 hfrom9)
            go_roundw
            case rel => exact ⟨m + 1, by omega, by go_num, by rw [HY.out HH.out]; exact hown9, (bal hBi _).trans hbel9⟩
            case measure => simp [intOf]; omega
        · obtain rfl : m = n := by omega
          have hrows := HROW.out.keep hBi
          have hapr : ∀ i, i < (idleRows p k).length → Apart (us.getD i undef) _ := fun i hi' => Apart.mk_ (HROW.out.2.1 i hi') hr (Nat.le_refl _)
          obtain ⟨rA, rC, rfl⟩ := hr.form
          obtain ⟨oA, oC, rfl⟩ := HROW.out.form
          have erow : idleRows p (k + 1) = idleRows p k ++ [idleRow p k m] := by rw [idleRows, HN.out]
          have HER := Lib.hid erow
          clear erow
          go_wp2_with (at_builtin; go_loud (refine wpList_append_row rfl _ _ rfl (.slice oA (idleRows p k).length oC) (.slice rA (idleRow p k m).length rC) us (idleRows p k) (idleRow p k m) W0.heap.size _ rfl rfl rfl hrows (hr.lo_ hzo) hapr (by rw [idleRows_len]; omega) (by omega) ?_); intro v9 w9 hrow9 hbel9)
          go_roundw
          case rel => exact ⟨k + 1, _, by omega, by go_num, by rw [HER.out]; exact hrow9, (bthen hB hBi).trans hbel9⟩
          case measure => simp [intOf]; omega
    · obtain rfl : k = p.length := by omega
      go_wp2
      go_ret
      exact ⟨_, us, rfl, HROW.out.lo_ hz0, HB0.out.trans (hB.mono hz0)⟩

end Go.Proofs.Ytiemhadpepbcjaa

namespace Go.Proofs.Ytiemhadpepbcjaa
open Go.RowKit
set_option linter.unusedVariables false

theorem cut_cells {α : Type} (cur X S : List α) (a s t : Nat) (hX : cur.take (a + s + t) = X) (hS : S.length = s) (hl : a + s + t ≤ cur.length) : (cur.take a ++ S ++ cur.drop (a + s)).take (a + s + t) = X.take a ++ S ++ X.drop (a + s) := by
  subst hX
  have h1 : (cur.take a ++ S).length = a + s := by rw [List.length_append, List.length_take, hS]; omega
  conv => lhs; rw [show a + s + t = (cur.take a ++ S).length + t by rw [h1], List.take_length_add_append]
  rw [List.take_take, Nat.min_eq_left (by omega), List.drop_take, show a + s + t - (a + s) = t by omega]
set_option maxRecDepth 100000 in
/-- append in place: what stands behind a statement is moved upon it. -/
theorem run_append_cut (w : World) (lo g n C i m : Nat) (l : List St) (ad : Addr) (c : Nat) (hown : Stmts w lo (.slice (some ⟨g, 0, none⟩) n C) l) (hi : i + 1 + m = l.length) (hnews : ∀ j u, (stCells (l.drop (i + 1)))[j]? = some u → w.cell? (ad.add j) = some u) :
    ∃ w', (∀ ty, (Builtin.append_ #[54, 54] ty #[.slice (some ⟨g, 0, none⟩) i C, .slice (some ad) m c]).run Try.prog w = .ok (.slice (some ⟨g, 0, none⟩) (i + m) C) w') ∧ Stmts w' lo (.slice (some ⟨g, 0, none⟩) n C) (l.take i ++ l.drop (i + 1) ++ l.drop (i + m)) ∧ w.grownBy w' (some g) := by
  obtain ⟨_, _, e⟩ := hown.form
  simp only [Value.slice.injEq] at e
  obtain ⟨_, rfl, _⟩ := e
  obtain ⟨ti, hti, hz0, hz1, hz2⟩ := info_parts inf_Stmt
  rcases hown.2 with ⟨h', _⟩ | ⟨g', cap, cur, h', hb, hg, hnc, hcm, hcs, ht⟩
  · simp at h'
  simp only [Value.slice.injEq, Option.some.injEq, Addr.mk.injEq, and_true, true_and] at h'
  obtain ⟨rfl, rfl⟩ := h'
  have hln : (stCells (l.drop (i + 1))).length = m * 4 := by rw [length_stCells, List.length_drop]; omega
  have hcl : cur.toList.length = C * 4 := by rw [Array.length_toList]; exact hcs
  have hnc4 : l.length * 4 ≤ C * 4 := Nat.mul_le_mul_right _ hnc
  have hr := fun ty => run_append_room (P := Try.prog) w 54 ty 60 ti Try.underlying54 hti g i C cur hg ad m c (stCells (l.drop (i + 1))) (by rw [hln, hz1]) hnews (st_oneCell _) (by omega) (by rw [hln, hz1, hcs]; omega)
  have hll : (l.take i ++ l.drop (i + 1) ++ l.drop (i + m)).length = l.length := by simp only [List.length_append, List.length_take, List.length_drop]; omega
  refine ⟨_, hr, ?_, ⟨rfl, rfl, rfl, by simp, fun k _ hk => setRow_other w g k _ (fun e => hk (by simp [e]))⟩⟩
  unfold Stmts
  rw [hll]
  refine ⟨by rw [length_stCells, hll], .inr ⟨g, C, _, rfl, hb, setRow_heap w g cur _ 60 _ hg, hnc, hcm, ?_, ?_⟩⟩
  · simp only [List.size_toArray, List.length_append, List.length_take, List.length_drop, hcl, hln, hz1]
    omega
  · have h9 := cut_cells cur.toList (stCells l) (stCells (l.drop (i + 1))) (i * 4) (m * 4) 4 (by rw [← ht]; congr 1; omega) hln (by omega)
    simp only [hz1, hln]
    rw [show l.length * 4 = i * 4 + m * 4 + 4 by omega, h9, stCells_append, stCells_append, stCells_take, ← Nat.add_mul, stCells_drop]
theorem step_append_cut {w : World} {ops : Array Oper} {o : Oper} {a : Act} {K : Act → World → Prop} {Q : Exit → Act → World → Prop} {E : Prop} (hgd : o.guard = none) (s x : Operand)
    (ho : o.op = .call { callee := .builtin .append, args := #[s, x], argTypes := #[54, 54] })
    (lo g n C i m : Nat) (l : List St) (ad : Addr) (c : Nat) (hs : a.eval s = .slice (some ⟨g, 0, none⟩) i C) (hx : a.eval x = .slice (some ad) m c) (hown : Stmts w lo (.slice (some ⟨g, 0, none⟩) n C) l) (hi : i + 1 + m = l.length)
    (hnews : ∀ j u, (stCells (l.drop (i + 1)))[j]? = some u → w.cell? (ad.add j) = some u)
    (h : ∀ w', Stmts w' lo (.slice (some ⟨g, 0, none⟩) n C) (l.take i ++ l.drop (i + 1) ++ l.drop (i + m)) → w.grownBy w' (some g) → K (a.put o.dst (.slice (some ⟨g, 0, none⟩) (i + m) C)) w') :
    if Region.wanted o (yielded ops a.tmps) = true then Oper.wp Try.prog o a w K Q else E := by
  have hw : Region.wanted o (yielded ops a.tmps) = true := by simp [Region.wanted, hgd]
  rw [if_pos hw]
  obtain ⟨w', hrun, h2, h3⟩ := run_append_cut w lo g n C i m l ad c hown hi hnews
  unfold Oper.wp execOp
  simp only [ho, resolve, invoke, builtin, Sem.run_bind, Sem.run_pure, Result.andThen_ok, List.map_toArray, List.map_cons, List.map_nil, hs, hx, hrun]
  exact h w' h2 h3
theorem news_drop {w : World} {lo g n C : Nat} {l : List St} (h : Stmts w lo (.slice (some ⟨g, 0, none⟩) n C) l) (k o : Nat) (ho : o = k * 4) : ∀ j u, (stCells (l.drop k))[j]? = some u → w.cell? ((⟨g, o, none⟩ : Addr).add j) = some u := by
  intro j u hu
  subst ho
  obtain ⟨_, _, e⟩ := h.form
  simp only [Value.slice.injEq] at e
  obtain ⟨_, rfl, _⟩ := e
  rw [← stCells_drop, List.getElem?_drop] at hu
  have := own_news h _ _ hu
  rw [Go.WideShapes.add_plain] at this ⊢
  rw [Nat.zero_add] at this
  exact this

set_option maxRecDepth 100000 in
set_option maxHeartbeats 1000000 in
theorem I_Delete (g C i : Nat) (l : List St) (lo : Nat) (w : World) (hv : Stmts w lo (.slice (some ⟨g, 0, none⟩) l.length C) l) (hi : i < l.length) (hl : l.length ≤ 1000) :
    Calls Try.prog 80 #[.slice (some ⟨g, 0, none⟩) l.length C, .int .i64 i, .int .i64 (i + 1)] w fun e w' => e = .returned (.slice (some ⟨g, 0, none⟩) (l.length - 1) C) ∧ Stmts w' lo (.slice (some ⟨g, 0, none⟩) (l.length - 1) C) (l.take i ++ l.drop (i + 1)) ∧ w.grownBy w' (some g) := by
  obtain ⟨m, hm⟩ : ∃ m : Nat, l.length = i + 1 + m := ⟨l.length - (i + 1), by omega⟩
  have hn := hv.rd
  obtain ⟨A, C', g', e, hnC, hC, hA, hg, _, _⟩ := hn
  simp only [Value.slice.injEq] at e
  obtain ⟨rfl, _, rfl⟩ := e
  rw [show l.length - 1 = i + m by omega]
  rw [hm] at hv hnC hl ⊢
  unfold maxLen at hC
  have HV := Lib.hid hv
  have HM := Lib.hid hm
  have hne : ((i : Int) == (i : Int) + 1) = false := by rw [beq_eq_false_iff_ne]; omega
  have hs0 : (0 : Int) ≤ (i : Int) := by omega
  have hs1 : (i : Int) ≤ (i : Int) + 1 := by omega
  have hs2 : (i : Int) + 1 ≤ ((i + 1 + m : Nat) : Int) := by omega
  have hs3 : ((i + 1 + m : Nat) : Int) ≤ (C : Int) := by omega
  have hs4 : (i : Int) ≤ ((i + 1 + m : Nat) : Int) := by omega
  have hs5 : (i : Int) ≤ (C : Int) := by omega
  have hs6 : (i : Int) + 1 ≤ (C : Int) := by omega
  have hs7 : (0 : Int) ≤ (i : Int) + 1 := by omega
  have hs8 : (i : Int) < ((i + 1 + m : Nat) : Int) := by omega
  have hs9 : (i : Int) + 1 ≤ (i : Int) + 1 + (m : Int) := by omega
  clear hv hA hg hm hi
  by_cases hcap : C = i + 1
  · have HM0 := Lib.hid (show m = 0 by omega)
    subst hcap
    rw [show i + m = i by have := HM0.out; omega]
    go_enter Try.func80, Try.ntmps80
    go_wp2
    have hS : True := trivial
    refine wp_region_T 8 (by kernel_rfl) (fun _ => True) ?_
    refine wpAnyT_take (i := 0) (oi := ⟨_, _, _, _, _, _⟩) (v := ?vr1_0) (by kernel_rfl) (by decide) rfl (by kernel_rfl) (by kernel_rfl) (by kernel_rfl) (fun _ _ _ h => h) (Or.inl ⟨by rfl, ?hyr1_0⟩) hS ?restr1_0
    case hyr1_0 =>
      intro w' hSw
      skip
      go_simp
      try with_reducible rfl
    try simp only [Act.put, List.setIfInBounds_toArray, List.set_cons_zero, List.set_cons_succ]
    refine wpAnyT_take (i := 1) (oi := ⟨_, _, _, _, _, _⟩) (v := ?vr1_1) (by kernel_rfl) (by decide) rfl (by kernel_rfl) (by kernel_rfl) (by kernel_rfl) (fun _ _ _ h => h) (Or.inl ⟨by rfl, ?hyr1_1⟩) hS ?restr1_1
    case hyr1_1 =>
      intro w' hSw
      skip
      go_simp
      try with_reducible rfl
    try simp only [Act.put, List.setIfInBounds_toArray, List.set_cons_zero, List.set_cons_succ]
    refine wpAnyT_take (i := 2) (oi := ⟨_, _, _, _, _, _⟩) (v := ?vr1_2) (by kernel_rfl) (by decide) rfl (by kernel_rfl) (by kernel_rfl) (by kernel_rfl) (fun _ _ _ h => h) (Or.inl ⟨by rfl, ?hyr1_2⟩) hS ?restr1_2
    case hyr1_2 =>
      intro w' hSw
      skip
      go_simp
      try with_reducible rfl
    try simp only [Act.put, List.setIfInBounds_toArray, List.set_cons_zero, List.set_cons_succ]
    refine wpAnyT_take (i := 3) (oi := ⟨_, _, _, _, _, _⟩) (v := ?vr1_3) (by kernel_rfl) (by decide) rfl (by kernel_rfl) (by kernel_rfl) (by kernel_rfl) (fun _ _ _ h => h) (Or.inl ⟨by rfl, ?hyr1_3⟩) hS ?restr1_3
    case hyr1_3 =>
      intro w' hSw
      skip
      go_simp
      try with_reducible rfl
    try simp only [Act.put, List.setIfInBounds_toArray, List.set_cons_zero, List.set_cons_succ]
    refine wpAnyT_take (i := 4) (oi := ⟨_, _, _, _, _, _⟩) (v := ?vr1_4) (by kernel_rfl) (by decide) rfl (by kernel_rfl) (by kernel_rfl) (by kernel_rfl) (fun _ _ _ h => h) (Or.inl ⟨by rfl, ?hyr1_4⟩) hS ?restr1_4
    case hyr1_4 =>
      intro w' hSw
      skip
      go_simp
      try with_reducible rfl
    try simp only [Act.put, List.setIfInBounds_toArray, List.set_cons_zero, List.set_cons_succ]
    refine wpAnyT_take (i := 5) (oi := ⟨_, _, _, _, _, _⟩) (v := ?vr1_5) (by kernel_rfl) (by decide) rfl (by kernel_rfl) (by kernel_rfl) (by kernel_rfl) (fun _ _ _ h => h) (Or.inl ⟨by rfl, ?hyr1_5⟩) hS ?restr1_5
    case hyr1_5 =>
      intro w' hSw
      skip
      go_simp
      try with_reducible rfl
    try simp only [Act.put, List.setIfInBounds_toArray, List.set_cons_zero, List.set_cons_succ]
    refine wpAnyT_ready1 (i := 6) (o := ⟨_, _, _, _, _, _⟩) (by kernel_rfl) rfl (fun KC_ hK => ?_)
    refine step_append_cut rfl _ _ rfl lo g (i + 1 + m) (i + 1) i _ l _ _ rfl rfl HV.out (by have := HM.out; first | omega | (simp; omega)) (fun j u hu => by rw [List.drop_eq_nil_of_le (by have := HM.out; have := HM0.out; omega)] at hu; simp [stCells] at hu) ?_
    intro w3 h3 hg3
    have H3 := Lib.hid h3
    have HG3 := Lib.hid hg3
    clear h3 hg3
    refine hK _ _ (fun _ => hS) ?_
    try simp only [Act.put, List.setIfInBounds_toArray, List.set_cons_zero, List.set_cons_succ]
    refine wpAnyT_take (i := 7) (oi := ⟨_, _, _, _, _, _⟩) (v := ?vr1_7) (by kernel_rfl) (by decide) rfl (by kernel_rfl) (by kernel_rfl) (by kernel_rfl) (fun _ _ _ h => h) (Or.inl ⟨by rfl, ?hyr1_7⟩) hS ?restr1_7
    case hyr1_7 =>
      intro w' hSw
      skip
      go_simp
      try with_reducible rfl
    try simp only [Act.put, List.setIfInBounds_toArray, List.set_cons_zero]
    refine wpAnyT_done (by kernel_rfl) ?_ _
    have h3 := H3.out
    obtain ⟨w9, hclr, h9, hg9⟩ := run_clear_stmts w3 lo g (i + 1) (i + 1 + m) i (i + 1 + m - i) 1 (i * 4) _ h3 (by have := HM.out; have := HM0.out; simp only [List.length_append, List.length_take, List.length_drop]; omega) rfl
    have H9 := Lib.hid h9
    have HG9 := Lib.hid hg9
    clear h3 h9 hg9 H3
    have hq0 : ((i + m : Nat) : Int) ≤ ((i + 1 + m : Nat) : Int) := by omega
    have hq1 : (i : Int) ≤ (i : Int) + 1 + (m : Int) := by omega
    have hq3 : (i : Int) + (m : Int) ≤ (i : Int) + 1 + (m : Int) := by omega
    have hq4 : (i : Int) + 1 + (m : Int) ≤ (i : Int) + 1 := by omega
    have hq2 : (0 : Int) ≤ ((i + m : Nat) : Int) := by omega
    have hq5 : (0 : Int) ≤ (i : Int) + (m : Int) := by omega
    go_wp2
    go_ret
    refine ⟨rfl, ?_, ((grown_of_below (below0 w).drew _).trans HG3.out).trans HG9.out⟩
    have h9 := H9.out
    rw [List.take_append_of_le_length (by have := HM.out; have := HM0.out; simp only [List.length_append, List.length_take, List.length_drop]; omega), List.take_of_length_le (by have := HM.out; have := HM0.out; simp only [List.length_append, List.length_take, List.length_drop]; omega)] at h9
    exact h9
  go_enter Try.func80, Try.ntmps80
  go_wp2
  have hS : True := trivial
  refine wp_region_T 8 (by kernel_rfl) (fun _ => True) ?_
  refine wpAnyT_take (i := 0) (oi := ⟨_, _, _, _, _, _⟩) (v := ?vr2_0) (by kernel_rfl) (by decide) rfl (by kernel_rfl) (by kernel_rfl) (by kernel_rfl) (fun _ _ _ h => h) (Or.inl ⟨by rfl, ?hyr2_0⟩) hS ?restr2_0
  case hyr2_0 =>
    intro w' hSw
    skip
    go_simp
    try with_reducible rfl
  try simp only [Act.put, List.setIfInBounds_toArray, List.set_cons_zero, List.set_cons_succ]
  refine wpAnyT_take (i := 1) (oi := ⟨_, _, _, _, _, _⟩) (v := ?vr2_1) (by kernel_rfl) (by decide) rfl (by kernel_rfl) (by kernel_rfl) (by kernel_rfl) (fun _ _ _ h => h) (Or.inl ⟨by rfl, ?hyr2_1⟩) hS ?restr2_1
  case hyr2_1 =>
    intro w' hSw
    skip
    go_simp
    try with_reducible rfl
  try simp only [Act.put, List.setIfInBounds_toArray, List.set_cons_zero, List.set_cons_succ]
  refine wpAnyT_take (i := 2) (oi := ⟨_, _, _, _, _, _⟩) (v := ?vr2_2) (by kernel_rfl) (by decide) rfl (by kernel_rfl) (by kernel_rfl) (by kernel_rfl) (fun _ _ _ h => h) (Or.inl ⟨by rfl, ?hyr2_2⟩) hS ?restr2_2
  case hyr2_2 =>
    intro w' hSw
    skip
    go_simp
    try with_reducible rfl
  try simp only [Act.put, List.setIfInBounds_toArray, List.set_cons_zero, List.set_cons_succ]
  refine wpAnyT_take (i := 3) (oi := ⟨_, _, _, _, _, _⟩) (v := ?vr2_3) (by kernel_rfl) (by decide) rfl (by kernel_rfl) (by kernel_rfl) (by kernel_rfl) (fun _ _ _ h => h) (Or.inl ⟨by rfl, ?hyr2_3⟩) hS ?restr2_3
  case hyr2_3 =>
    intro w' hSw
    skip
    go_simp
    try with_reducible rfl
  try simp only [Act.put, List.setIfInBounds_toArray, List.set_cons_zero, List.set_cons_succ]
  refine wpAnyT_take (i := 4) (oi := ⟨_, _, _, _, _, _⟩) (v := ?vr2_4) (by kernel_rfl) (by decide) rfl (by kernel_rfl) (by kernel_rfl) (by kernel_rfl) (fun _ _ _ h => h) (Or.inl ⟨by rfl, ?hyr2_4⟩) hS ?restr2_4
  case hyr2_4 =>
    intro w' hSw
    skip
    go_simp
    try with_reducible rfl
  try simp only [Act.put, List.setIfInBounds_toArray, List.set_cons_zero, List.set_cons_succ]
  refine wpAnyT_take (i := 5) (oi := ⟨_, _, _, _, _, _⟩) (v := ?vr2_5) (by kernel_rfl) (by decide) rfl (by kernel_rfl) (by kernel_rfl) (by kernel_rfl) (fun _ _ _ h => h) (Or.inl ⟨by rfl, ?hyr2_5⟩) hS ?restr2_5
  case hyr2_5 =>
    intro w' hSw
    skip
    go_simp
    try with_reducible rfl
  try simp only [Act.put, List.setIfInBounds_toArray, List.set_cons_zero, List.set_cons_succ]
  refine wpAnyT_ready1 (i := 6) (o := ⟨_, _, _, _, _, _⟩) (by kernel_rfl) rfl (fun KC_ hK => ?_)
  refine step_append_cut rfl _ _ rfl lo g (i + 1 + m) C i _ l _ _ rfl rfl HV.out (by have := HM.out; first | omega | (simp; omega)) (news_drop HV.out (i + 1) _ (by first | omega | (simp; done) | (simp; omega))) ?_
  intro w3 h3 hg3
  have H3 := Lib.hid h3
  have HG3 := Lib.hid hg3
  clear h3 hg3
  refine hK _ _ (fun _ => hS) ?_
  try simp only [Act.put, List.setIfInBounds_toArray, List.set_cons_zero, List.set_cons_succ]
  refine wpAnyT_take (i := 7) (oi := ⟨_, _, _, _, _, _⟩) (v := ?vr2_7) (by kernel_rfl) (by decide) rfl (by kernel_rfl) (by kernel_rfl) (by kernel_rfl) (fun _ _ _ h => h) (Or.inl ⟨by rfl, ?hyr2_7⟩) hS ?restr2_7
  case hyr2_7 =>
    intro w' hSw
    skip
    go_simp
    try with_reducible rfl
  try simp only [Act.put, List.setIfInBounds_toArray, List.set_cons_zero]
  refine wpAnyT_done (by kernel_rfl) ?_ _
  have h3 := H3.out
  obtain ⟨w9, hclr, h9, hg9⟩ := run_clear_stmts w3 lo g C (i + 1 + m) (i + m) (i + 1 + m - (i + m)) (C - (i + m)) ((i + m) * 4) _ h3 (by have := HM.out; simp only [List.length_append, List.length_take, List.length_drop]; omega) rfl
  have H9 := Lib.hid h9
  have HG9 := Lib.hid hg9
  clear h3 h9 hg9 H3
  have hq0 : ((i + m : Nat) : Int) ≤ ((i + 1 + m : Nat) : Int) := by omega
  have hq1 : (i : Int) ≤ (i : Int) + 1 + (m : Int) := by omega
  have hq3 : (i : Int) + (m : Int) ≤ (i : Int) + 1 + (m : Int) := by omega
  have hq4 : (i : Int) + 1 + (m : Int) ≤ (C : Int) := by omega
  have hq2 : (0 : Int) ≤ ((i + m : Nat) : Int) := by omega
  have hq5 : (0 : Int) ≤ (i : Int) + (m : Int) := by omega
  go_wp2
  go_ret
  refine ⟨rfl, ?_, ((grown_of_below (below0 w).drew _).trans HG3.out).trans HG9.out⟩
  have h9 := H9.out
  rw [List.take_append_of_le_length (by have := HM.out; simp only [List.length_append, List.length_take, List.length_drop]; omega), List.take_of_length_le (by have := HM.out; simp only [List.length_append, List.length_take, List.length_drop]; omega)] at h9
  exact h9

set_option maxRecDepth 100000 in
set_option maxHeartbeats 2000000 in
theorem I_without (sl : Value) (p : Pr) (b i lo : Nat) (w : World) (hv : Blks w lo sl p) (hs : shape p = true) (hb : b < p.length) (hi : i < (p.bk b).body.length) :
    Calls Try.prog 43 #[.agg #[sl], .int .i64 b, .int .i64 i] w fun e w' => ∃ sl' xs, e = .returned (.agg #[sl']) ∧ PRow w' w.heap.size sl' xs (cutP p b i) ∧ Below w.heap.size w w' := by
  have hl := shape_len hs
  have HV := Lib.hid hv
  have HSM := Lib.hid (small_of_shape hs)
  obtain ⟨A, C, rfl⟩ := hv.form
  rw [bk_nat] at hi
  clear hv hs
  go_enter Try.func43, Try.ntmps43
  go_wp2_with fail
  obtain ⟨W0, hW0⟩ : ∃ W0 : World, W0 = ((w.alloc (.cells #[.slice A p.length C] 25)).alloc (.cells #[.slice none 0 0] 25)) := ⟨_, rfl⟩
  have hb0 : Below w.heap.size w W0 := by rw [hW0]; exact al2
  have z0 : W0.heap.size = w.heap.size + 2 := by rw [hW0]; simp
  have q0 : W0.cell? ⟨w.heap.size + 1, 0, none⟩ = some (.slice none 0 0) := by rw [hW0]; simp [go_sem]
  have u0 : W0.frozen? ⟨w.heap.size + 1, 0, none⟩ = false := by rw [hW0]; simp [go_sem]
  rw [← hW0]
  clear hW0
  refine (I_copyOf _ p lo _ (HV.out.keep hb0) HSM.out.1 HSM.out.2).mono ?_
  rintro e w1 ⟨sl1, xs1, rfl, hrow1, _, hb1⟩
  have hz1 := hb1.size
  obtain ⟨og, oC, rfl, _, hoC, hog1, hog2, _, _⟩ := PRowX.rd hrow1 (by omega)
  have q1 := cell_later hb1 q0
  have u1 := ((bcell hb1).2 (w.heap.size + 1) 0 (by omega)).trans u0
  have hb01 := bthen hb0 hb1
  have hrow1 := hrow1.lo_ (lo' := w.heap.size + 2) (by omega)
  have hlt1 : ∀ r, (xs1.getD (b * 4 + 3) undef).ownBlock = some r → r < w1.heap.size := own_block_lt (PRowX.full hrow1 hb)
  clear hb1 q0 u0 hb0
  go_wp2
  obtain ⟨W2, hW2⟩ : ∃ W2 : World, W2 = (w1.alloc (.cells #[.slice (some ⟨og, 0, none⟩) p.length oC] 25)).drew := ⟨_, rfl⟩
  have hb2 : Below w1.heap.size w1 W2 := by rw [hW2]; exact al1.drew
  have k0 : W2.cell? ⟨w1.heap.size, 0, none⟩ = some (.slice (some ⟨og, 0, none⟩) p.length oC) := by rw [hW2]; simp [go_sem]
  have z2 : w1.heap.size < W2.heap.size := by rw [hW2]; show _ < (w1.alloc _).heap.size; simp
  have q2 := cell_later hb2 q1
  have u2 := ((bcell hb2).2 (w.heap.size + 1) 0 (by omega)).trans u1
  have hBw := bthen hb01 hb2
  have hrow2 := PRowX.keep hrow1 hb2
  clear hb2 q1 u1 hb01 hrow1
  obtain ⟨g8, C8, e8, _, _, _, _, hcell8, _⟩ := PRowX.rd hrow2 (by omega)
  simp only [Value.slice.injEq, Option.some.injEq, Addr.mk.injEq, and_true, true_and] at e8
  obtain ⟨rfl, rfl⟩ := e8
  have k1 := hcell8 (b * 4 + 3) (by omega)
  have hib := PRowX.full hrow2 hb
  have hcut := fun l h => cutP_set (p := p) (b := b) (i := i) l h
  obtain ⟨body, hbody⟩ : ∃ body : List St, body = (p.getD b default).body := ⟨_, rfl⟩
  rw [← hbody] at hib hi hcut
  have hbo := (HSM.out.2 b hb).1
  rw [← hbody] at hbo
  obtain ⟨bA, bC, bg, hU, hbn, hbC, hbA, hbg, _, _⟩ := hib.rd
  obtain rfl := hbA (by omega)
  rw [hU] at k1 hib hlt1
  have hbg1 := hlt1 bg rfl
  have hbg2 := (hbg (by omega)).1
  unfold maxLen at hbC hoC
  have HROW := Lib.hid hrow2
  have HIB := Lib.hid hib
  have HCUT := Lib.hid hcut
  have HBW := Lib.hid hBw
  have HU := Lib.hid hU
  have HQ2 := Lib.hid q2
  have HU2 := Lib.hid u2
  clear hbody hcell8 hbA hbg hrow2 hib hcut hBw hU hlt1 q2 u2
  have hi0 : (0 : Int) ≤ (b : Int) := by omega
  have hi1 : (b : Int) < (p.length : Int) := by omega
  have hj0 : (0 : Int) ≤ (i : Int) := by omega
  have hjw : IntKind.i64.wrap ((i : Int) + 1) = (i : Int) + 1 := IntWalk.i64_in _ (by omega)
  have hS := And.intro k0 k1
  refine wp_region_T 13 (by kernel_rfl) (fun w' => w'.cell? ⟨w1.heap.size, 0, none⟩ = some (.slice (some ⟨og, 0, none⟩) p.length oC) ∧ w'.cell? ⟨og, b * 4 + 3, none⟩ = some (.slice (some ⟨bg, 0, none⟩) body.length bC)) ?_
  rw [← hW2]
  clear hW2
  refine wpAnyT_take (i := 0) (oi := ⟨_, _, _, _, _, _⟩) (v := ?vr3_0) (by kernel_rfl) (by decide) rfl (by kernel_rfl) (by kernel_rfl) (by kernel_rfl) (fun _ _ _ h => h) (Or.inl ⟨by rfl, ?hyr3_0⟩) hS ?restr3_0
  case hyr3_0 =>
    intro w' hSw
    obtain ⟨s0, s1⟩ := hSw
    go_simp
    try with_reducible rfl
  try simp only [Act.put, List.setIfInBounds_toArray, List.set_cons_zero, List.set_cons_succ]
  refine wpAnyT_take (i := 1) (oi := ⟨_, _, _, _, _, _⟩) (v := ?vr3_1) (by kernel_rfl) (by decide) rfl (by kernel_rfl) (by kernel_rfl) (by kernel_rfl) (fun _ _ _ h => h) (Or.inl ⟨by rfl, ?hyr3_1⟩) hS ?restr3_1
  case hyr3_1 =>
    intro w' hSw
    obtain ⟨s0, s1⟩ := hSw
    go_simp
    try with_reducible rfl
  try simp only [Act.put, List.setIfInBounds_toArray, List.set_cons_zero, List.set_cons_succ]
  refine wpAnyT_take (i := 2) (oi := ⟨_, _, _, _, _, _⟩) (v := ?vr3_2) (by kernel_rfl) (by decide) rfl (by kernel_rfl) (by kernel_rfl) (by kernel_rfl) (fun _ _ _ h => h) (Or.inl ⟨by rfl, ?hyr3_2⟩) hS ?restr3_2
  case hyr3_2 =>
    intro w' hSw
    obtain ⟨s0, s1⟩ := hSw
    go_simp
    try with_reducible rfl
  try simp only [Act.put, List.setIfInBounds_toArray, List.set_cons_zero, List.set_cons_succ]
  refine wpAnyT_take (i := 3) (oi := ⟨_, _, _, _, _, _⟩) (v := ?vr3_3) (by kernel_rfl) (by decide) rfl (by kernel_rfl) (by kernel_rfl) (by kernel_rfl) (fun _ _ _ h => h) (Or.inl ⟨by rfl, ?hyr3_3⟩) hS ?restr3_3
  case hyr3_3 =>
    intro w' hSw
    obtain ⟨s0, s1⟩ := hSw
    go_simp
    try with_reducible rfl
  try simp only [Act.put, List.setIfInBounds_toArray, List.set_cons_zero, List.set_cons_succ]
  refine wpAnyT_take (i := 4) (oi := ⟨_, _, _, _, _, _⟩) (v := ?vr3_4) (by kernel_rfl) (by decide) rfl (by kernel_rfl) (by kernel_rfl) (by kernel_rfl) (fun _ _ _ h => h) (Or.inl ⟨by rfl, ?hyr3_4⟩) hS ?restr3_4
  case hyr3_4 =>
    intro w' hSw
    obtain ⟨s0, s1⟩ := hSw
    go_simp
    try with_reducible rfl
  try simp only [Act.put, List.setIfInBounds_toArray, List.set_cons_zero, List.set_cons_succ]
  refine wpAnyT_take (i := 5) (oi := ⟨_, _, _, _, _, _⟩) (v := ?vr3_5) (by kernel_rfl) (by decide) rfl (by kernel_rfl) (by kernel_rfl) (by kernel_rfl) (fun _ _ _ h => h) (Or.inl ⟨by rfl, ?hyr3_5⟩) hS ?restr3_5
  case hyr3_5 =>
    intro w' hSw
    obtain ⟨s0, s1⟩ := hSw
    go_simp
    try with_reducible rfl
  try simp only [Act.put, List.setIfInBounds_toArray, List.set_cons_zero, List.set_cons_succ]
  refine wpAnyT_take (i := 6) (oi := ⟨_, _, _, _, _, _⟩) (v := ?vr3_6) (by kernel_rfl) (by decide) rfl (by kernel_rfl) (by kernel_rfl) (by kernel_rfl) (fun _ _ _ h => h) (Or.inl ⟨by rfl, ?hyr3_6⟩) hS ?restr3_6
  case hyr3_6 =>
    intro w' hSw
    obtain ⟨s0, s1⟩ := hSw
    go_simp
    try with_reducible rfl
  try simp only [Act.put, List.setIfInBounds_toArray, List.set_cons_zero, List.set_cons_succ]
  refine wpAnyT_take (i := 7) (oi := ⟨_, _, _, _, _, _⟩) (v := ?vr3_7) (by kernel_rfl) (by decide) rfl (by kernel_rfl) (by kernel_rfl) (by kernel_rfl) (fun _ _ _ h => h) (Or.inl ⟨by rfl, ?hyr3_7⟩) hS ?restr3_7
  case hyr3_7 =>
    intro w' hSw
    obtain ⟨s0, s1⟩ := hSw
    go_simp
    try with_reducible rfl
  try simp only [Act.put, List.setIfInBounds_toArray, List.set_cons_zero, List.set_cons_succ]
  refine wpAnyT_take (i := 8) (oi := ⟨_, _, _, _, _, _⟩) (v := ?vr3_8) (by kernel_rfl) (by decide) rfl (by kernel_rfl) (by kernel_rfl) (by kernel_rfl) (fun _ _ _ h => h) (Or.inl ⟨by rfl, ?hyr3_8⟩) hS ?restr3_8
  case hyr3_8 =>
    intro w' hSw
    obtain ⟨s0, s1⟩ := hSw
    go_simp
    try with_reducible rfl
  try simp only [Act.put, List.setIfInBounds_toArray, List.set_cons_zero, List.set_cons_succ]
  refine wpAnyT_take (i := 9) (oi := ⟨_, _, _, _, _, _⟩) (v := ?vr3_9) (by kernel_rfl) (by decide) rfl (by kernel_rfl) (by kernel_rfl) (by kernel_rfl) (fun _ _ _ h => h) (Or.inl ⟨by rfl, ?hyr3_9⟩) hS ?restr3_9
  case hyr3_9 =>
    intro w' hSw
    obtain ⟨s0, s1⟩ := hSw
    go_simp
    try with_reducible rfl
  try simp only [Act.put, List.setIfInBounds_toArray, List.set_cons_zero, List.set_cons_succ]
  refine wpAnyT_take (i := 10) (oi := ⟨_, _, _, _, _, _⟩) (v := ?vr3_10) (by kernel_rfl) (by decide) rfl (by kernel_rfl) (by kernel_rfl) (by kernel_rfl) (fun _ _ _ h => h) (Or.inl ⟨by rfl, ?hyr3_10⟩) hS ?restr3_10
  case hyr3_10 =>
    intro w' hSw
    obtain ⟨s0, s1⟩ := hSw
    go_simp
    try with_reducible rfl
  try simp only [Act.put, List.setIfInBounds_toArray, List.set_cons_zero, List.set_cons_succ]
  refine wpAnyT_take (i := 11) (oi := ⟨_, _, _, _, _, _⟩) (v := ?vr3_11) (by kernel_rfl) (by decide) rfl (by kernel_rfl) (by kernel_rfl) (by kernel_rfl) (fun _ _ _ h => h) (Or.inl ⟨by rfl, ?hyr3_11⟩) hS ?restr3_11
  case hyr3_11 =>
    intro w' hSw
    obtain ⟨s0, s1⟩ := hSw
    go_simp
    try with_reducible rfl
  try simp only [Act.put, List.setIfInBounds_toArray, List.set_cons_zero, List.set_cons_succ]
  refine wpAnyT_ready1 (i := 12) (o := ⟨_, _, _, _, _, _⟩) (by kernel_rfl) rfl (fun KC_ hK => ?_)
  go_simp
  go_at_call 80
  refine (I_Delete bg bC i body (w.heap.size + 2) _ HIB.out hi (by omega)).mono ?_
  rintro e w4 ⟨rfl, h4, hg4⟩
  have k0 := hg4.cell k0 (fun hc => by have := Option.some.inj hc; first | omega | (simp only at this; omega))
  have hrow4 := PRowX.grown (k := b) HROW.out hb (by rw [HU.out]; exact hg4)
  obtain ⟨g9, C9, e9, _, _, _, hgl9, hcell9, hf9⟩ := PRowX.rd hrow4 (by omega)
  simp only [Value.slice.injEq, Option.some.injEq, Addr.mk.injEq, and_true, true_and] at e9
  obtain ⟨rfl, rfl⟩ := e9
  have k1 := hcell9 (b * 4 + 3) (by omega)
  rw [HU.out] at k1
  have f3 := hf9 (b * 4 + 3)
  have hS := And.intro k0 k1
  have H4 := Lib.hid h4
  have HG4 := Lib.hid hg4
  have HR4 := Lib.hid hrow4
  clear hcell9 hf9 h4 hg4 hrow4
  refine hK _ _ (fun _ => hS) ?_
  try simp only [Act.put, List.setIfInBounds_toArray, List.set_cons_zero, List.set_cons_succ]
  refine wpAnyT_ready1 (i := 13) (o := ⟨_, _, _, _, _, _⟩) (by kernel_rfl) rfl (fun KC_ hK => ?_)
  go_simp
  refine hK _ _ (fun h => absurd h (by decide)) ?_
  try simp only [Act.put, List.setIfInBounds_toArray, List.set_cons_zero, List.set_cons_succ]
  refine wpAnyT_ready1 (i := 14) (o := ⟨_, _, _, _, _, _⟩) (by kernel_rfl) rfl (fun KC_ hK => ?_)
  go_simp
  refine hK _ _ (fun h => absurd h (by decide)) ?_
  try simp only [Act.put, List.setIfInBounds_toArray, List.set_cons_zero, List.set_cons_succ]
  refine wpAnyT_ready1 (i := 15) (o := ⟨_, _, _, _, _, _⟩) (by kernel_rfl) rfl (fun KC_ hK => ?_)
  go_simp
  refine hK _ _ (fun h => absurd h (by decide)) ?_
  try simp only [Act.put, List.setIfInBounds_toArray, List.set_cons_zero, List.set_cons_succ]
  refine wpAnyT_done (by kernel_rfl) ?_ _
  have hb24 : Below (w.heap.size + 2) W2 w4 := (Below.refl (w.heap.size + 2) W2).grown HG4.out (by omega) (fun r hr => by have := Option.some.inj hr; first | omega | (simp only at this; omega))
  have hset := PRowX.setBody HR4.out hb H4.out (fun j hj hjb => by
    intro r h1 h2
    exact HROW.out.apart j b hj hb (by omega) (by omega) hjb r h1 (by rw [HU.out]; exact h2))
  rw [HCUT.out _ rfl] at hset
  have q4 := (hb24.cell (p := ⟨w.heap.size + 1, 0, none⟩) (by show w.heap.size + 1 < _; omega)).trans HQ2.out
  have u4 := ((bcell hb24).2 (w.heap.size + 1) 0 (by omega)).trans HU2.out
  have hne1 : og ≠ w1.heap.size := by omega
  have hne2 : og ≠ w.heap.size + 1 := by omega
  have hne3 : w.heap.size + 1 ≠ og := by omega
  have hne4 : w1.heap.size ≠ og := by omega
  have hbz : Below w.heap.size w (w4.setCell ⟨og, b * 4 + 3, none⟩ (.slice (some ⟨bg, 0, none⟩) (body.length - 1) bC)) := (HBW.out.trans (hb24.mono (by omega))).setCell (by show w.heap.size ≤ og; omega) _
  have HSET := Lib.hid hset
  have HBZ := Lib.hid hbz
  clear hset hbz hb24 f3 k1 hS
  go_wp2
  refine bodyPost_ret (v := .agg #[.slice (some ⟨og, 0, none⟩) p.length oC]) (by simp [results, Try.results43, go_sem, q4]) rfl
    ⟨_, rfl, ⟨_, (PRowX.only HSET.out ((Only.refl (w.heap.size + 1) (w.heap.size + 2) _).setCell (Nat.le_refl _) (Nat.lt_succ_self _) _) (Nat.le_refl _)).lo_ (by omega)⟩, HBZ.out.setCell (by show w.heap.size ≤ w.heap.size + 1; omega) _⟩

set_option maxRecDepth 100000 in
set_option maxHeartbeats 2000000 in
theorem I_isIdle (sl ov : Value) (us : List Value) (p : Pr) (b i lo lo2 : Nat) (w : World) (hv : Blks w lo sl p) (ho : RowsOf w lo2 ov us (ownRows p p.length)) (hs : shape p = true) (hb : b < p.length) (hi : i < (p.bk b).body.length) :
    Calls Try.prog 57 #[.agg #[sl], ov, .int .i64 b, .int .i64 i] w fun e w' => e = .returned (.bool (idleB p b i)) ∧ Below w.heap.size w w' := by
  have hl := shape_len hs
  have HV := Lib.hid hv
  have HO := Lib.hid ho
  have HS := Lib.hid hs
  have HI := Lib.hid hi
  obtain ⟨A, C, g, rfl, hn, hc, hA, hg, hcell, _⟩ := hv.rd
  obtain rfl := hA (by omega)
  obtain ⟨pv, bv, _, _, _, d3, _, hbd⟩ := hcell b hb
  have hgl := (hg (by omega)).2
  have hd := fun h => cutP_shape (p := p) (b := b) (i := i) hs hb hi h
  rw [bk_nat] at hi hd
  have hR : idleB p b i = (((p.getD b default).body.getD i default).decl && (validP (cutP p b i) && ownRows p p.length == ownRows (cutP p b i) (cutP p b i).length)) := by unfold idleB; rw [bk_nat]
  rw [hR]
  obtain ⟨body, hbody⟩ : ∃ body : List St, body = (p.getD b default).body := ⟨_, rfl⟩
  rw [← hbody] at hbd hi hd ⊢
  obtain ⟨bA, bC, bg, eb, hbn, hbC, hbA, hbg, hst, _⟩ := hbd.rd
  subst eb
  obtain rfl := hbA (by omega)
  obtain ⟨s0, s1, s2, s3⟩ := hst i hi
  obtain ⟨s, hsv⟩ : ∃ s : St, s = body.getD i default := ⟨_, rfl⟩
  rw [← hsv] at s0 s1 s2 s3 hd ⊢
  have hbgl := World.block_lt_of_cell? _ _ s0
  simp only at hbgl
  obtain ⟨sk, st, sa, sb⟩ := s
  simp only at s0 s1 s2 s3
  unfold maxLen at hc hbC
  have hi0 : (0 : Int) ≤ (b : Int) := by omega
  have hi1 : (b : Int) < (p.length : Int) := by omega
  have hj0 : (0 : Int) ≤ (i : Int) := by omega
  have hj1 : (i : Int) < (body.length : Int) := by omega
  have HD := Lib.hid hd
  clear hv ho hs hA hg hcell hR hbody hbd hst hbA hbg hsv hd
  cases hdc : (⟨sk, st, sa, sb⟩ : St).decl
  · have HDC := Lib.hid hdc
    clear hdc
    go_enter Try.func57, Try.ntmps57
    go_wp2_with fail
    refine (I_isDeclaration ⟨sk, st, sa, sb⟩ _).mono ?_
    rintro e w1 ⟨rfl, hb1⟩
    rw [HDC.out]
    go_wp2
    go_ret
    exact ⟨ret_bool rfl, bthen al1 hb1⟩
  have HDC := Lib.hid hdc
  have HSH := Lib.hid (HD.out hdc)
  clear hdc HD
  obtain ⟨Q, hQ⟩ : ∃ Q : Pr, Q = cutP p b i := ⟨_, rfl⟩
  rw [← hQ] at HSH ⊢
  have HQ := Lib.hid hQ
  clear hQ
  cases hV : validP Q
  · skip
    have HVV := Lib.hid hV
    clear hV
    go_enter Try.func57, Try.ntmps57
    go_wp2_with fail
    refine (I_isDeclaration ⟨sk, st, sa, sb⟩ _).mono ?_
    rintro e w1 ⟨rfl, hb1⟩
    rw [HDC.out]
    have c1 : w1.cell? ⟨w.heap.size, 0, none⟩ = some (.slice (some ⟨g, 0, none⟩) p.length C) := cell_later hb1 (by simp [go_sem])
    have hB := bthen al1 hb1
    clear hb1
    go_wp2_with fail
    refine (I_without _ p b i lo _ (HV.out.keep hB) HS.out hb HI.out).mono ?_
    rintro e w2 ⟨sl2, xs2, rfl, hrow2, hb2⟩
    have hB := bthen hB hb2
    rw [← HQ.out] at hrow2
    obtain ⟨A2, C2, rfl⟩ := PRowX.form hrow2
    have hq2 := PRowX.blks hrow2
    clear hb2 hrow2 c1
    go_wp2_with fail
    refine (I_ValidProgram _ Q _ _ ⟨_, rfl, hq2.keep al1⟩).mono ?_
    rintro e w3 ⟨rfl, hb3⟩
    rw [HVV.out]
    have hB3 := bthen (bal hB _) hb3
    go_wp2
    go_ret
    exact ⟨ret_bool (by simp), hB3⟩
  have HVV := Lib.hid hV
  clear hV
  go_enter Try.func57, Try.ntmps57
  go_wp2_with fail
  refine (I_isDeclaration ⟨sk, st, sa, sb⟩ _).mono ?_
  rintro e w1 ⟨rfl, hb1⟩
  rw [HDC.out]
  have c1 : w1.cell? ⟨w.heap.size, 0, none⟩ = some (.slice (some ⟨g, 0, none⟩) p.length C) := cell_later hb1 (by simp [go_sem])
  have hB := bthen al1 hb1
  clear hb1
  go_wp2_with fail
  refine (I_without _ p b i lo _ (HV.out.keep hB) HS.out hb HI.out).mono ?_
  rintro e w2 ⟨sl2, xs2, rfl, hrow2, hb2⟩
  have hB := bthen hB hb2
  rw [← HQ.out] at hrow2
  obtain ⟨A2, C2, rfl⟩ := PRowX.form hrow2
  have hq2 := PRowX.blks hrow2
  clear hb2 hrow2 c1
  go_wp2_with fail
  refine (I_ValidProgram _ Q _ _ ⟨_, rfl, hq2.keep al1⟩).mono ?_
  rintro e w3 ⟨rfl, hb3⟩
  rw [HVV.out]
  have hB3 := bthen (bal hB _) hb3
  have c3 : w3.cell? ⟨w2.heap.size, 0, none⟩ = some (.slice A2 Q.length C2) := cell_later hb3 (by simp [go_sem])
  have hq3 := (hq2.keep (al1 (o := .cells #[.slice A2 Q.length C2] 25))).keep hb3
  clear hb3 hq2
  go_wp2_with fail
  refine (I_ownersOf _ Q _ _ hq3 HSH.out).mono ?_
  rintro e w4 ⟨v4, us4, rfl, hr4, hb4⟩
  have hB4 := bthen hB3 hb4
  have ho4 := HO.out.keep hB4
  go_wp2_with fail
  refine (I_gridEqual _ _ _ _ _ _ _ _ _ hr4 ho4).mono ?_
  rintro e w5 ⟨rfl, hb5⟩
  have hB5 := bthen hB4 hb5
  go_wp2
  go_ret
  exact ⟨ret_bool (by simp only [Bool.true_and]; exact Bool.beq_comm), hB5⟩

end Go.Proofs.Ytiemhadpepbcjaa

namespace Go.Proofs.Ytiemhadpepbcjaa
open Go.RowKit
set_option linter.unusedVariables false

/-! ### plain -/
theorem bareP_bk (p : Pr) (b : Int) : (bareP p).bk b = bareB (p.bk b) := by
  unfold Pr.bk bareP
  simp only [List.getD, List.getElem?_map]
  cases h : p[b.toNat]?
  · rfl
  · rfl
theorem madeBy_bare (l : List St) (k : Int) : madeBy (l.filter fun s => !s.decl) k = madeBy l k := by
  unfold madeBy
  rw [List.countP_filter]
  congr 1
  funext s
  cases hm : s.makes
  · simp
  · have : s.decl = false := by
      unfold St.makes at hm
      unfold St.decl
      rw [decide_eq_true_iff] at hm
      rw [decide_eq_false_iff_not]
      omega
    simp [this]
theorem turned_bare (p : Pr) : Turned p (bareP p) := by
  refine ⟨bareP_len p, fun b => ?_, fun b => ?_, fun b => ?_, fun b => ?_, fun b s hs => ?_, fun b k => ?_⟩
  · rw [bareP_bk]; rfl
  · rw [bareP_bk]; rfl
  · rw [bareP_bk]; rfl
  · rw [bareP_bk]; exact List.length_filter_le _ _
  · rw [bareP_bk] at hs; exact (List.mem_filter.1 hs).1
  · rw [bareP_bk]; exact madeBy_bare _ _
theorem bare_shape {p : Pr} (h : shape p = true) : shape (bareP p) = true := shape_turned (turned_bare p) h
theorem bare_declB (p : Pr) (b d x : Int) (hd : d = 9 ∨ d = 10) : ((bareP p).bk b).declB d x = false := by
  rw [← Bool.not_eq_true, declB_iff, bareP_bk]
  rintro ⟨s, hs, h1, h2⟩
  have h3 := (List.mem_filter.1 hs).2
  unfold St.decl at h3
  rw [Bool.not_eq_true', decide_eq_false_iff_not] at h3
  exact h3 (by omega)
theorem bare_valid {p : Pr} (h : shape p = true) : validP (bareP p) = true := by
  unfold validP
  rw [bare_shape h, Bool.true_and, List.all_eq_true]
  intro b _
  rw [Bool.or_eq_true]
  right
  rw [List.all_eq_true]
  intro x _
  unfold declOk
  rw [bare_declB p b 9 x (.inl rfl), bare_declB p b 10 x (.inr rfl)]
  rfl
theorem bare_bare (p : Pr) : bareP (bareP p) = bareP p := by
  unfold bareP
  rw [List.map_map]
  congr 1
  funext k
  simp [bareB, List.filter_filter]
theorem rBare_bare (p : Pr) : rBare (rBare p) = rBare p := by
  cases h : shape p
  · have e : rBare p = [] := by unfold rBare; rw [h]; rfl
    rw [e]
    unfold rBare
    split <;> rfl
  · have e : rBare p = bareP p := by unfold rBare; rw [h]; rfl
    rw [e]
    unfold rBare
    rw [bare_shape h, if_pos rfl, bare_bare]
theorem rBare_valid {p : Pr} (h : (rBare p).length ≠ 0) : validP (rBare p) = true := by
  unfold rBare at h ⊢
  cases hs : shape p
  · rw [hs] at h; simp at h
  · rw [if_pos rfl]; exact bare_valid hs
/-- In a bare program each block but the block 0 owns the names that it binds. -/
theorem bare_owns {p : Pr} (h : (rBare p).length ≠ 0) (b x : Int) (hb : 0 < b) (hb1 : b < (rBare p).length) (hx : x ∈ rBound (rBare p) b) : rOwner (rBare p) b x = b := by
  have hv := rBare_valid h
  have hsh : shape p = true := by
    unfold rBare at h
    cases hs : shape p
    · rw [hs] at h; simp at h
    · rfl
  have e : rBare p = bareP p := by unfold rBare; rw [hsh]; rfl
  rw [e] at hv hx hb1 ⊢
  have hat : shapeAt (bareP p) b = true := by
    unfold shapeAt
    rw [bare_shape hsh, Bool.true_and, inR_iff]
    omega
  unfold rBound at hx
  rw [if_pos hat] at hx
  obtain ⟨⟨hx0, hx1⟩, hx2⟩ := mem_nms.1 hx
  unfold rOwner
  have hvb : validB (bareP p) b = true := by
    unfold validB
    rw [hv, Bool.true_and, inR_iff]
    omega
  rw [hvb, isNm_iff.2 ⟨hx0, hx1⟩, Bool.true_and, if_pos rfl]
  unfold ownerF
  rw [if_neg (by omega), bare_declB p b 9 x (.inl rfl), if_neg (by simp)]
  unfold Bk.locB Bk.declsB
  rw [hx2, bare_declB p b 9 x (.inl rfl), bare_declB p b 10 x (.inr rfl)]
  rfl

set_option maxRecDepth 100000 in
set_option maxHeartbeats 1000000 in
theorem L_sameStmts (va vb : Value) (l : List St) (l1 l2 : Nat) (w : World) (ha : Stmts w l1 va l) (hb : Stmts w l2 vb l) :
    Calls Try.prog 45 #[va, vb] w fun e w' => e = .returned (.bool true) ∧ Below w.heap.size w w' := by
  obtain ⟨A, C, g, rfl, hn, hc, hA, hg, hcell, hf⟩ := ha.rd
  obtain ⟨A', C', g', rfl, hn', hc', hA', hg', hcell', hf'⟩ := hb.rd
  clear ha hb hf hf'
  unfold maxLen at hc hc'
  have hb0 : ((l.length : Int) != (l.length : Int)) = false := by simp
  go_enter Try.func45, Try.ntmps45
  go_wp2
  go_loopw [5] (fun i wr => ∃ k : Nat, k ≤ l.length ∧ i = .int .i64 k ∧ Below w.heap.size w wr) (fun i _ => l.length - (intOf i).toNat)
  case atStart => exact ⟨0, Nat.zero_le _, rfl, Below.refl _ _⟩
  case round =>
    obtain ⟨k, hk, rfl, hB⟩ := hrel
    by_cases hlt : k < l.length
    · obtain ⟨c1, c2, c3, c4⟩ := hcell k hlt
      obtain ⟨d1, d2, d3, d4⟩ := hcell' k hlt
      have hgl := (hg (by omega)).2
      have hgl' := (hg' (by omega)).2
      rw [← hB.cell (p := ⟨g, _, none⟩) hgl] at c1 c2 c3 c4
      rw [← hB.cell (p := ⟨g', _, none⟩) hgl'] at d1 d2 d3 d4
      obtain rfl := hA (by omega)
      obtain rfl := hA' (by omega)
      clear hA hA' hcell hcell' hg hg'
      generalize l.getD k default = x at c1 c2 c3 c4 d1 d2 d3 d4
      have hi1 : (k : Int) < (l.length : Int) := by omega
      obtain ⟨xk, xt, xa, xb⟩ := x
      simp only at c1 c2 c3 c4 d1 d2 d3 d4
      go_wp2
      go_quiet (fail)
      go_wp2
      go_roundw
      case rel => exact ⟨k + 1, by omega, by go_num, below_drewN hB _⟩
      case measure => simp [intOf]; omega
    · go_wp2
      go_ret
      exact ⟨rfl, hB⟩

set_option maxRecDepth 100000 in
set_option maxHeartbeats 1000000 in
theorem L_sameProgram (sa sb : Value) (p : Pr) (l1 l2 : Nat) (w : World) (ha : Blks w l1 sa p) (hb : Blks w l2 sb p) :
    Calls Try.prog 14 #[.agg #[sa], .agg #[sb]] w fun e w' => e = .returned (.bool true) ∧ Below w.heap.size w w' := by
  obtain ⟨A, C, g, rfl, hn, hc, hA, hg, hcell, hf⟩ := ha.rd
  obtain ⟨A', C', g', rfl, hn', hc', hA', hg', hcell', hf'⟩ := hb.rd
  have HCELL := Lib.hid hcell
  have HCELL' := Lib.hid hcell'
  clear ha hb hf hf' hcell hcell'
  unfold maxLen at hc hc'
  have hb0 : ((p.length : Int) != (p.length : Int)) = false := by simp
  go_enter Try.func14, Try.ntmps14
  go_wp2
  go_loopw [5] (fun i wr => ∃ k : Nat, k ≤ p.length ∧ i = .int .i64 k ∧ Below w.heap.size w wr ∧ wr.cell? ⟨w.heap.size, 0, none⟩ = some (.slice A p.length C) ∧ wr.cell? ⟨w.heap.size + 1, 0, none⟩ = some (.slice A' p.length C')) (fun i _ => p.length - (intOf i).toNat)
  case atStart => exact ⟨0, Nat.zero_le _, rfl, al2, by simp [go_sem], by simp [go_sem]⟩
  case round =>
    obtain ⟨k, hk, rfl, hB, ca, cb⟩ := hrel
    obtain ⟨wo, hwo⟩ : ∃ wo : World, wo = wr := ⟨_, rfl⟩
    subst hwo
    by_cases hlt : k < p.length
    · obtain ⟨pv, bv, c1, c2, c3, c4, hp1, hb1⟩ := HCELL.out k hlt
      obtain ⟨pv', bv', d1, d2, d3, d4, hp2, hb2⟩ := HCELL'.out k hlt
      have hgl := (hg (by omega)).2
      have hgl' := (hg' (by omega)).2
      rw [← hB.cell (p := ⟨g, _, none⟩) hgl] at c1 c2 c3 c4
      rw [← hB.cell (p := ⟨g', _, none⟩) hgl'] at d1 d2 d3 d4
      obtain rfl := hA (by omega)
      obtain rfl := hA' (by omega)
      generalize p.getD k default = x at c1 c2 c3 c4 hp1 hb1 d1 d2 d3 d4 hp2 hb2
      have hgw := World.block_lt_of_cell? _ _ c1
      have hgw' := World.block_lt_of_cell? _ _ d1
      have hgb := World.block_lt_of_cell? _ _ cb
      simp only at hgw hgw' hgb
      replace hp1 := hp1.keep hB
      replace hp2 := hp2.keep hB
      replace hb1 := hb1.keep hB
      replace hb2 := hb2.keep hB
      obtain ⟨xk, xp, xps, xb⟩ := x
      simp only at c1 c2 c3 c4 d1 d2 d3 d4 hp1 hp2 hb1 hb2
      obtain ⟨pA1, pC1, rfl⟩ := hp1.form
      obtain ⟨pA2, pC2, rfl⟩ := hb1.form
      obtain ⟨pA3, pC3, rfl⟩ := hp2.form
      obtain ⟨pA4, pC4, rfl⟩ := hb2.form
      have hi1 : (k : Int) < (p.length : Int) := by omega
      have q1 : (xk != xk) = false := by simp
      have q2 : (xp != xp) = false := by simp
      have HP1 := Lib.hid hp1
      have HP2 := Lib.hid hp2
      have HB1 := Lib.hid hb1
      have HB2 := Lib.hid hb2
      have HBO := Lib.hid hB
      have HCA := Lib.hid ca
      have HCB := Lib.hid cb
      clear hA hA' hg hg' hp1 hp2 hb1 hb2 hB
      go_wp2_with (first
        | (go_at_call 44
           refine (L_equalInts _ _ xps xps _ _ _ (HP1.out.keep al2) (HP2.out.keep al2)).mono ?_
           rintro e w3 ⟨rfl, hb3⟩
           rw [beq_self_eq_true]
           have hB3 : Below wo.heap.size wo w3 := bthen al2 hb3
           have q0 : w3.cell? ⟨wo.heap.size, 3, none⟩ = some (.slice pA2 xb.length pC2) := cell_later hb3 (by simp [go_sem])
           have q9 : w3.cell? ⟨wo.heap.size + 1, 3, none⟩ = some (.slice pA4 xb.length pC4) := cell_later hb3 (by simp [go_sem]))
        | (go_at_call 45
           refine (L_sameStmts _ _ xb _ _ _ (HB1.out.keep hB3) (HB2.out.keep hB3)).mono ?_
           rintro e w4 ⟨rfl, hb4⟩
           have hB4 : Below wo.heap.size wo w4 := bthen hB3 hb4))
      go_roundw
      case rel => exact ⟨k + 1, by omega, by go_num, bthen HBO.out hB4, cell_later hB4 HCA.out, cell_later hB4 HCB.out⟩
      case measure => simp [intOf]; omega
    · go_wp2
      go_ret
      exact ⟨rfl, hB⟩

set_option maxRecDepth 100000 in
set_option maxHeartbeats 2000000 in
theorem I_firstIdle (sl : Value) (p : Pr) (lo : Nat) (w : World) (hv : Blks w lo sl p) (hs : shape p = true) :
    Calls Try.prog 42 #[.agg #[sl]] w fun e w' => ((∃ b i : Nat, b < p.length ∧ i < (p.bk b).body.length ∧ idleB p b i = true ∧ e = .returned (.tuple #[.int .i64 b, .int .i64 i, .bool true])) ∨ e = .returned (.tuple #[.int .i64 0, .int .i64 0, .bool false])) ∧ Below w.heap.size w w' := by
  have hl := shape_len hs
  have HV := Lib.hid hv
  have HSH := Lib.hid hs
  obtain ⟨A, C, rfl⟩ := hv.form
  clear hv hs
  go_enter Try.func42, Try.ntmps42
  go_wp2_with fail
  refine (I_ownersOf _ p lo _ (HV.out.keep al1) HSH.out).mono ?_
  rintro e w2 ⟨ov, ous, rfl, hro, hb2⟩
  have c2 : w2.cell? ⟨w.heap.size, 0, none⟩ = some (.slice A p.length C) := cell_later hb2 (by simp [go_sem])
  have hB2 := bthen al1 hb2
  have HO := Lib.hid hro
  have HB2 := Lib.hid hB2
  have hw2 := World.block_lt_of_cell? _ _ c2
  simp only at hw2
  clear hro hb2 hB2
  go_wp2
  go_loopw [14] (fun i wr => ∃ k : Nat, k ≤ p.length ∧ i = .int .i64 k ∧ Below w2.heap.size w2 wr) (fun i _ => p.length - (intOf i).toNat)
  case atStart => exact ⟨0, Nat.zero_le _, rfl, Below.refl _ _⟩
  case round =>
    obtain ⟨wo, rfl⟩ : ∃ wo : World, wo = wr := ⟨_, rfl⟩
    obtain ⟨k, hk, rfl, hB⟩ := hrel
    by_cases hlt : k < p.length
    · have hbk : p.bk (k : Int) = p.getD k default := bk_nat p k
      have hb12 := shape_body HSH.out (k : Int) (by omega) (by omega)
      have HV1 := Lib.hid (HV.out.keep (bthen HB2.out hB))
      obtain ⟨A', C', g, e, hn, hc, hA, _, hcell, _⟩ := HV1.out.rd
      simp only [Value.slice.injEq] at e
      obtain ⟨rfl, _, rfl⟩ := e
      obtain rfl := hA (by omega)
      obtain ⟨pv, bv, d0, d1, d2, d3, hpv, hbd⟩ := hcell k hlt
      rw [← hbk] at d0 d1 hbd hpv
      obtain ⟨n, hn9⟩ : ∃ n : Nat, n = (p.bk (k : Int)).body.length := ⟨_, rfl⟩
      obtain ⟨bA, bC, rfl⟩ := hbd.form
      obtain ⟨pA, pC, rfl⟩ := hpv.form
      rw [← hn9] at d3 hb12
      have HN := Lib.hid hn9
      have hk0 : (0 : Int) ≤ (k : Int) := by omega
      have hk1 : (k : Int) < (p.length : Int) := by omega
      have hgw := World.block_lt_of_cell? _ _ d3
      simp only at hgw
      unfold maxLen at hc
      generalize (p.bk (k : Int)).kind = bkind at d0
      generalize (p.bk (k : Int)).parent = bpar at d1
      generalize (p.bk (k : Int)).params.length = bplen at d2
      clear hA hcell hbd hpv hbk hn9
      go_wp2
      go_loopw [22] (fun i wi => ∃ m : Nat, m ≤ n ∧ i = .int .i64 m ∧ Below w2.heap.size w2 wi) (fun i _ => n - (intOf i).toNat)
      case atStart => exact ⟨0, Nat.zero_le _, rfl, bal hB _⟩
      case round =>
        clear d0 d1 d2 d3
        obtain ⟨m, hm, rfl, hBi⟩ := hrel
        have c4 := cell_later hBi c2
        have HV4 := Lib.hid (HV.out.keep (bthen HB2.out hBi))
        have HO4 := Lib.hid (HO.out.keep hBi)
        by_cases hlm : m < n
        · have hmm0 : (0 : Int) ≤ (m : Int) := by omega
          have hmm1 : (m : Int) < (n : Int) := by omega
          have HMB := Lib.hid (show m < (p.bk (k : Int)).body.length by rw [← HN.out]; exact hlm)
          cases hh : idleB p k m
          · have HH := Lib.hid hh
            clear hh
            go_wp2_with fail
            refine (I_isIdle _ _ _ p k m lo _ _ HV4.out HO4.out HSH.out hlt HMB.out).mono ?_
            rintro e w5 ⟨rfl, hb5⟩
            rw [HH.out]
            go_wp2
            go_roundw
            case rel => exact ⟨m + 1, by omega, by go_num, bthen hBi hb5⟩
            case measure => simp [intOf]; omega
          · have HH := Lib.hid hh
            clear hh
            go_wp2_with fail
            refine (I_isIdle _ _ _ p k m lo _ _ HV4.out HO4.out HSH.out hlt HMB.out).mono ?_
            rintro e w5 ⟨rfl, hb5⟩
            rw [HH.out]
            go_wp2
            go_ret3
            exact ⟨.inl ⟨k, m, hlt, HMB.out, HH.out, rfl⟩, bthen HB2.out (bthen hBi hb5)⟩
        · obtain rfl : m = n := by omega
          clear c4
          go_wp2
          go_roundw
          case rel => exact ⟨k + 1, by omega, by go_num, hBi⟩
          case measure => simp [intOf]; omega
    · obtain rfl : k = p.length := by omega
      go_wp2
      go_ret3
      exact ⟨.inr rfl, bthen HB2.out hB⟩

/-- How many statements. -/
def stmtsN (p : Pr) : Nat := (p.map fun k => k.body.length).sum
theorem stmtsN_set (p : Pr) (b : Nat) (hb : b < p.length) (k : Bk) : stmtsN (p.set b k) + (p.getD b default).body.length = stmtsN p + k.body.length := by
  induction p generalizing b with
  | nil => exact absurd hb (Nat.not_lt_zero _)
  | cons x p ih =>
    cases b with
    | zero => simp [stmtsN]; omega
    | succ b =>
      have := ih b (by simpa using hb)
      simp only [stmtsN, List.set_cons_succ, List.map_cons, List.sum_cons, List.getD_cons_succ] at this ⊢
      omega
theorem stmtsN_cut {p : Pr} {b i : Nat} (hb : b < p.length) (hi : i < (p.bk b).body.length) : stmtsN (cutP p b i) < stmtsN p := by
  have h := stmtsN_set p b hb ⟨(p.bk b).kind, (p.bk b).parent, (p.bk b).params, (p.bk b).body.take i ++ (p.bk b).body.drop (i + 1)⟩
  have e : cutP p b i = p.set b ⟨(p.bk b).kind, (p.bk b).parent, (p.bk b).params, (p.bk b).body.take i ++ (p.bk b).body.drop (i + 1)⟩ := rfl
  rw [e]
  rw [← bk_nat] at h
  simp only [List.length_append, List.length_take, List.length_drop] at h
  omega

set_option maxRecDepth 100000 in
set_option maxHeartbeats 2000000 in
theorem I_LeanProgram (sl : Value) (p : Pr) (lo : Nat) (w : World) (hv : Blks w lo sl p) (hp : validP p = true) :
    Calls Try.prog 12 #[.agg #[sl]] w fun e w' => ∃ (sl' : Value) (xs : List Value) (q : Pr), e = .returned (.agg #[sl']) ∧ PRow w' w.heap.size sl' xs q ∧ validP q = true ∧ Below w.heap.size w w' := by
  have HV := Lib.hid hv
  have HP := Lib.hid hp
  have HSM := Lib.hid (small_of_shape (validP_shape hp))
  obtain ⟨A, C, rfl⟩ := hv.form
  clear hv hp
  go_enter Try.func12, Try.ntmps12
  go_wp2_with fail
  have d0 : ∀ (w' : World), Below ((w.alloc (.cells #[.slice A p.length C] 25)).alloc (.cells #[.slice none 0 0] 25)).heap.size ((w.alloc (.cells #[.slice A p.length C] 25)).alloc (.cells #[.slice none 0 0] 25)) w' → w'.cell? ⟨w.heap.size, 0, none⟩ = some (.slice A p.length C) ∧ w'.cell? ⟨w.heap.size + 1, 0, none⟩ = some (.slice none 0 0) ∧ w'.frozen? ⟨w.heap.size + 1, 0, none⟩ = false ∧ w.heap.size + 2 ≤ w'.heap.size := fun w' hb => ⟨cell_later hb (by simp [go_sem]), cell_later hb (by simp [go_sem]), ((bcell hb).2 _ _ (by simp)).trans (by simp [go_sem]), by have := hb.size; simp only [World.size_alloc] at this; omega⟩
  have D0 := Lib.hid d0
  clear d0
  refine (I_ValidProgram _ p lo _ ⟨_, rfl, HV.out.keep al2⟩).mono ?_
  rintro e w1 ⟨rfl, hb1⟩
  rw [HP.out]
  obtain ⟨c1, q1, u1, z1⟩ := D0.out _ hb1
  have hB1 := bthen (al2 (w := w)) hb1
  have HB1 := Lib.hid hB1
  clear hB1
  go_wp2_with fail
  refine (I_copyOf _ p lo _ (HV.out.keep HB1.out) HSM.out.1 HSM.out.2).mono ?_
  rintro e w2 ⟨sl2, xs2, rfl, hr2, _, hb2⟩
  obtain ⟨A2, C2, rfl⟩ := PRowX.form hr2
  have hz2 := hb2.size
  obtain ⟨c2, q2, u2, z2⟩ := D0.out _ (bthen hb1 hb2)
  have HB2 := Lib.hid (bthen HB1.out hb2)
  have hr2 := PRowX.lo_ hr2 (lo' := w.heap.size + 2) (by omega)
  clear c1 q1 u1 z1 hb1 hb2
  go_wp2
  obtain ⟨W3, hW3⟩ : ∃ W3 : World, W3 = w2.alloc (.cells #[.slice A2 p.length C2] 25) := ⟨_, rfl⟩
  have hb3 : Below w2.heap.size w2 W3 := by rw [hW3]; exact al1
  have t3 : W3.cell? ⟨w2.heap.size, 0, none⟩ = some (.slice A2 p.length C2) := by rw [hW3]; simp [go_sem]
  have f3 : W3.frozen? ⟨w2.heap.size, 0, none⟩ = false := by rw [hW3]; simp [go_sem]
  have q3 := cell_later hb3 q2
  have u3 := ((bcell hb3).2 (w.heap.size + 1) 0 (by omega)).trans u2
  have hr3 := PRowX.keep hr2 hb3
  have z3 : w2.heap.size < W3.heap.size := World.block_lt_of_cell? _ _ t3
  have HB3 := Lib.hid (bthen HB2.out hb3)
  rw [← hW3]
  clear hW3 hb3 hr2 c2 q2 u2
  go_loopg [13] (stmtsN p) (fun N _ wr => ∃ (q : Pr) (A9 : Option Addr) (C9 : Nat) (xs : List Value), N = stmtsN q ∧ validP q = true ∧ PRow wr (w.heap.size + 2) (.slice A9 q.length C9) xs q ∧ wr.cell? ⟨w2.heap.size, 0, none⟩ = some (.slice A9 q.length C9) ∧ wr.frozen? ⟨w2.heap.size, 0, none⟩ = false ∧ wr.cell? ⟨w.heap.size + 1, 0, none⟩ = some (.slice none 0 0) ∧ wr.frozen? ⟨w.heap.size + 1, 0, none⟩ = false ∧ Below w.heap.size w wr)
  case atStart => exact ⟨p, A2, C2, xs2, rfl, HP.out, hr3, t3, f3, q3, u3, HB3.out⟩
  case round =>
    clear hr3 t3 f3 q3 u3
    obtain ⟨q, A9, C9, xs, rfl, hq, hrow, ht, hft, hq0, hu0, hB⟩ := hrel
    have HQ := Lib.hid hq
    have HROW := Lib.hid hrow
    have HBLK := Lib.hid (PRowX.blks hrow)
    have HB := Lib.hid hB
    have hbx := World.block_lt_of_cell? _ _ ht
    simp only at hbx
    clear hq hrow hB
    go_wp2_with fail
    refine (I_firstIdle _ q _ _ HBLK.out (validP_shape HQ.out)).mono ?_
    rintro e w5 ⟨hcase, hb5⟩
    have ht := cell_later hb5 ht
    have hft := ((bcell hb5).2 w2.heap.size 0 hbx).trans hft
    have hq0 := cell_later hb5 hq0
    have hu0 := ((bcell hb5).2 (w.heap.size + 1) 0 (by omega)).trans hu0
    have HBL5 := Lib.hid (HBLK.out.keep hb5)
    have HROW5 := Lib.hid (PRowX.keep HROW.out hb5)
    have HB5 := Lib.hid (bthen HB.out hb5)
    have hz5 := hb5.size
    clear hb5
    rcases hcase with ⟨b, i, hb, hi, hid, rfl⟩ | rfl
    · have hvq : validP (cutP q b i) = true := by
        unfold idleB at hid
        rw [Bool.and_eq_true, Bool.and_eq_true] at hid
        exact hid.2.1
      have hlt := stmtsN_cut (p := q) hb hi
      have HVQ := Lib.hid hvq
      have HI := Lib.hid hi
      clear hid hvq hi
      go_wp2_with fail
      refine (I_without _ q b i _ _ HBL5.out (validP_shape HQ.out) hb HI.out).mono ?_
      rintro e w6 ⟨sl6, xs6, rfl, hr6, hb6⟩
      have ht := cell_later hb6 ht
      have hft := ((bcell hb6).2 w2.heap.size 0 (by omega)).trans hft
      have hq0 := cell_later hb6 hq0
      have hu0 := ((bcell hb6).2 (w.heap.size + 1) 0 (by omega)).trans hu0
      have hB6 := bthen HB5.out hb6
      obtain ⟨A6, C6, rfl⟩ := PRowX.form hr6
      have HR6 := Lib.hid hr6
      have HB6 := Lib.hid hB6
      obtain ⟨Q, hQ⟩ : ∃ Q : Pr, Q = cutP q b i := ⟨_, rfl⟩
      rw [← hQ] at HR6 HVQ hlt ⊢
      have hne1 : w2.heap.size ≠ w.heap.size + 1 := by omega
      have hne2 : w.heap.size + 1 ≠ w2.heap.size := by omega
      clear hb6 hr6 hB6 hQ
      go_wp2
      go_roundg (stmtsN Q)
      case measure => exact hlt
      case rel =>
        exact ⟨Q, A6, C6, xs6, rfl, HVQ.out, (PRowX.only HR6.out ((Only.refl w2.heap.size (w2.heap.size + 1) w6).setCell (Nat.le_refl _) (Nat.lt_succ_self _) _) (by omega)).lo_ (by omega), by simp [go_sem, ht], by rw [World.frozen?_setCell]; exact hft, by simp [go_sem, hq0]; try omega, by rw [World.frozen?_setCell]; exact hu0, HB6.out.setCell (by show w.heap.size ≤ w2.heap.size; omega) _⟩
    · go_wp2
      exact bodyPost_ret (v := .agg #[.slice A9 q.length C9]) (by simp [results, Try.results12, go_sem, hq0]) rfl
        ⟨_, xs, q, rfl, (PRowX.only HROW5.out ((Only.refl (w.heap.size + 1) (w.heap.size + 2) w5).setCell (Nat.le_refl _) (Nat.lt_succ_self _) _) (Nat.le_refl _)).lo_ (by omega), HQ.out, HB5.out.setCell (by show w.heap.size ≤ w.heap.size + 1; omega) _⟩

end Go.Proofs.Ytiemhadpepbcjaa
