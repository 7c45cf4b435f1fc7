/-
  Walks: the reference's draws of programs of a valid shape and of valid programs. Condition: what the arguments name stands in memory.
-/
import Derived.Test.YtiemhadpepbcjaaDwP
import Derived.Test.YtiemhadpepbcjaaDwA
import Derived.Deep.RegionHeld3
namespace Go.Proofs.Ytiemhadpepbcjaa
open Go.RowKit
set_option linter.unusedVariables false

/-- What a drawn program is like ahead of its last turn. -/
structure Tame (p : Pr) : Prop where
  len : 1 ≤ p.length
  body : ∀ i, i < p.length → 1 ≤ (p.getD i default).body.length ∧ (p.getD i default).body.length ≤ 12
  params : ∀ i, i < p.length → (p.getD i default).params.length ≤ 1
  par0 : (p.getD 0 default).parent = -1
  par : ∀ i, 0 < i → i < p.length → 0 ≤ (p.getD i default).parent ∧ (p.getD i default).parent < i
  tos : ∀ i, i < p.length → ∀ s ∈ (p.getD i default).body, 0 ≤ s.to ∧ s.to ≤ 7
theorem Tame.one {K : Bk} (h1 : 1 ≤ K.body.length) (h2 : K.body.length ≤ 12) (h3 : K.params.length ≤ 1) (h4 : K.parent = -1) (h5 : ∀ s ∈ K.body, 0 ≤ s.to ∧ s.to ≤ 7) : Tame [K] := by
  refine ⟨by simp, fun i hi => ?_, fun i hi => ?_, h4, fun i h0 hi => absurd hi (by simp; omega), fun i hi => ?_⟩
  all_goals
    obtain rfl : i = 0 := by simpa using hi
    first | exact ⟨h1, h2⟩ | exact h3 | exact h5
theorem Tame.setBody {p : Pr} (h : Tame p) {k : Nat} (hk : k < p.length) {l : List St} (h1 : 1 ≤ l.length) (h2 : l.length ≤ 12) (h5 : ∀ s ∈ l, 0 ≤ s.to ∧ s.to ≤ 7) : Tame (p.set k { p.getD k default with body := l }) := by
  have e : ∀ i, i < p.length → (p.set k { p.getD k default with body := l }).getD i default = if i = k then { p.getD k default with body := l } else p.getD i default := fun i hi => by
    by_cases e : i = k
    · subst e; rw [if_pos rfl, getD_set_eq _ _ _ _ hk]
    · rw [if_neg e, getD_set_ne _ _ _ _ _ e]
  refine ⟨by rw [List.length_set]; exact h.len, fun i hi => ?_, fun i hi => ?_, ?_, fun i h0 hi => ?_, fun i hi => ?_⟩
  · rw [List.length_set] at hi; rw [e i hi]; split; exact ⟨h1, h2⟩; exact h.body i hi
  · rw [List.length_set] at hi; rw [e i hi]; split; exact h.params k hk; exact h.params i hi
  · rw [e 0 h.len]
    by_cases q : 0 = k
    · subst q; rw [if_pos rfl]; exact h.par0
    · rw [if_neg q]; exact h.par0
  · rw [List.length_set] at hi
    rw [e i hi]
    by_cases q : i = k
    · subst q; rw [if_pos rfl]; exact h.par i h0 hi
    · rw [if_neg q]; exact h.par i h0 hi
  · rw [List.length_set] at hi; rw [e i hi]; split; exact h5; exact h.tos i hi
theorem Tame.add {p : Pr} (h : Tame p) {K : Bk} (h1 : 1 ≤ K.body.length) (h2 : K.body.length ≤ 12) (h3 : K.params.length ≤ 1) (h4 : 0 ≤ K.parent) (h4' : K.parent < p.length) (h5 : ∀ s ∈ K.body, 0 ≤ s.to ∧ s.to ≤ 7) : Tame (p ++ [K]) := by
  have e : ∀ i, i < (p ++ [K]).length → (i < p.length ∧ (p ++ [K]).getD i default = p.getD i default) ∨ (i = p.length ∧ (p ++ [K]).getD i default = K) := fun i hi => by
    rw [List.length_append] at hi
    by_cases q : i < p.length
    · exact .inl ⟨q, by simp [List.getD, List.getElem?_append_left q]⟩
    · obtain rfl : i = p.length := by simp at hi; omega
      exact .inr ⟨rfl, by simp [List.getD]⟩
  have hl := h.len
  refine ⟨by rw [List.length_append]; omega, fun i hi => ?_, fun i hi => ?_, ?_, fun i h0 hi => ?_, fun i hi => ?_⟩
  · rcases e i hi with ⟨q, r⟩ | ⟨q, r⟩ <;> rw [r]; exact h.body i q; exact ⟨h1, h2⟩
  · rcases e i hi with ⟨q, r⟩ | ⟨q, r⟩ <;> rw [r]; exact h.params i q; exact h3
  · rcases e 0 (by rw [List.length_append]; omega) with ⟨q, r⟩ | ⟨q, r⟩ <;> rw [r]; exact h.par0; omega
  · rcases e i hi with ⟨q, r⟩ | ⟨q, r⟩ <;> rw [r]; exact h.par i h0 q; exact ⟨h4, by omega⟩
  · rcases e i hi with ⟨q, r⟩ | ⟨q, r⟩ <;> rw [r]; exact h.tos i q; exact h5

theorem grown_set (w : World) (B j : Nat) (u : Value) : w.grownBy (w.setCell ⟨B, j, none⟩ u) (some B) :=
  ⟨rfl, rfl, rfl, by simp [World.setCell], fun k _ hne => Below.heap_setCell _ _ _ _ (fun e => hne (by rw [e]))⟩
/-- A variable that holds a program: one cell. -/
def BoxP (w : World) (B : Nat) (u : Value) : Prop := w.heap[B]? = some (.cells #[u] 25 (0, 0))
theorem BoxP.ne {w : World} {B : Nat} {u V : Value} {lo e size n : Nat} {ys : List Value} (h : BoxP w B u) (hV : w.ownsRow lo e size V n ys) (he : e ≠ 25) : V.ownBlock = none ∨ V.ownBlock ≠ some B := by
  rcases hV.2 with ⟨rfl, _⟩ | ⟨g, cap, cur, rfl, hg, hh, _⟩
  · exact .inl rfl
  · right
    intro hc
    have e0 : g = B := by simpa [Value.ownBlock] using hc
    subst e0
    unfold BoxP at h
    rw [h] at hh
    simp at hh
    exact he hh.2.symm
theorem BoxP.set {w : World} {B : Nat} {u : Value} (h : BoxP w B u) (u' : Value) : BoxP (w.setCell ⟨B, 0, none⟩ u') B u' := by
  unfold BoxP at h ⊢
  have hlt := (Array.getElem?_eq_some_iff.1 h).1
  simp only [World.setCell, Array.getElem?_modify, if_pos, h]
  rfl
theorem BoxP.rows {w : World} {B lo k : Nat} {u v : Value} {xs : List Value} {p : Pr} (h : PRowX w lo v xs p k) (hb : BoxP w B u) (u' : Value) : PRowX (w.setCell ⟨B, 0, none⟩ u') lo v xs p k := by
  have hg := grown_set w B 0 u'
  exact ⟨World.ownsRow.kept h.own hg (hb.ne h.own (by decide)), h.head, fun i hi => Ints.kept (h.pars i hi) hg (hb.ne (h.pars i hi) (by decide)), fun i hi hk => Stmts.kept (h.body i hi hk) hg (hb.ne (h.body i hi hk) (by decide)), h.apart⟩
theorem BoxP.only {w w' : World} {B a b : Nat} {u : Value} (h : BoxP w B u) (ho : Only a b w w') (hB : B < a ∨ b ≤ B) : BoxP w' B u := (ho.block B (lt_of_block h) hB).trans h
theorem BoxP.below {w w' : World} {B C : Nat} {u : Value} (h : BoxP w B u) (hb : Below C w w') (hB : B < C) : BoxP w' B u := (hb.block B hB).trans h
theorem BoxP.grown {w w' : World} {B : Nat} {u : Value} {row : Option Nat} (h : BoxP w B u) (hg : w.grownBy w' row) (hB : some B ≠ row) : BoxP w' B u := (hg.block B (lt_of_block h) hB).trans h
theorem BoxP.other {w : World} {B : Nat} {u : Value} (h : BoxP w B u) (a : Addr) (x : Value) (hB : B ≠ a.block) : BoxP (w.setCell a x) B u := (Below.heap_setCell _ _ _ _ hB).trans h
theorem BoxP.cell {w : World} {B : Nat} {u : Value} (h : BoxP w B u) : w.cell? ⟨B, 0, none⟩ = some u := by
  unfold BoxP at h
  simp [World.cell?, h]
theorem BoxP.new {w : World} {B : Nat} (hB : w.heap.size = B) (u : Value) : BoxP (w.alloc (.cells #[u] 25)) B u := by
  subst hB
  exact heap_alloc_new w _
theorem FeedS.none {w : World} {v : Value} {l : List St} (hl : l = []) (hv : ∃ ad c, v = .slice (some ad) 0 c) : FeedS w v l := by
  subst hl
  obtain ⟨ad, c, rfl⟩ := hv
  exact ⟨rfl, .inr ⟨ad, c, rfl, fun j u hu => by simp [stCells] at hu⟩⟩
theorem lt_of_own {w : World} {lo : Nat} {e : TypeId} {size n B : Nat} {v : Value} {xs : List Value} (h : w.ownsRow lo e size v n xs) (hB : w.heap.size ≤ B) : ∀ g, v.ownBlock = some g → g < B := fun g hg => Nat.lt_of_lt_of_le (own_block_lt h g hg) hB
theorem PRowX.pastB {w0 w w' : World} {lo k B : Nat} {v : Value} {xs : List Value} {p : Pr} (h0 : PRowX w0 lo v xs p k) (h : PRowX w lo v xs p k) (hb : Below B w w') (hB : w0.heap.size ≤ B) : PRowX w' lo v xs p k :=
  ⟨own_keepB h.own hb (lt_of_own h0.own hB), h.head, fun i hi => own_keepB (h.pars i hi) hb (lt_of_own (h0.pars i hi) hB), fun i hi hk => own_keepB (h.body i hi hk) hb (lt_of_own (h0.body i hi hk) hB), h.apart⟩
theorem Stmts.pastB {w0 w w' : World} {lo B : Nat} {v : Value} {l : List St} (h0 : Stmts w0 lo v l) (h : Stmts w lo v l) (hb : Below B w w') (hB : w0.heap.size ≤ B) : Stmts w' lo v l := own_keepB h hb (lt_of_own h0 hB)
theorem Ints.pastB {w0 w w' : World} {lo B : Nat} {v : Value} {l : List Int} (h0 : Ints w0 lo v l) (h : Ints w lo v l) (hb : Below B w w') (hB : w0.heap.size ≤ B) : Ints w' lo v l := own_keepB h hb (lt_of_own h0 hB)

set_option maxRecDepth 100000 in
set_option maxHeartbeats 16000000 in
theorem S_shapedProgram (g m : Nat) (w : World) (h : Rdr w g m) (hm : m ≤ 700000) :
    Calls Try.prog 31 #[.pointer (some ⟨g, 0, none⟩)] w fun e w' => ∃ (sl : Value) (xs : List Value) (p : Pr), e = .returned (.agg #[sl]) ∧ PRow w' w.heap.size sl xs p ∧ Tame p ∧ p.length ≤ 6 ∧ Rdr w' g (m + 500) ∧ Only g (g + 1) w w' := by
  have hgl : g < w.heap.size := h.lt
  have hr := h.keep (al1 (o := (.cells #[.slice none 0 0] 25)))
  have hcur := Only.refl g (g + 1) (w.alloc (.cells #[.slice none 0 0] 25))
  clear h
  go_enter Try.func31, Try.ntmps31
  go_wp2_with fail
  refine (S_someBlock g _ 0 (-1) _ hr (by omega)).mono ?_
  rintro e w1 ⟨K0, pv0, bv0, rfl, hK1, hK2, hK3, hK4, hK5, hK6, hpv, hbv, hr, ho⟩
  have hcur := hcur.trans ho
  have hT : Tame [K0] := Tame.one hK4 (by omega) hK3 hK2 hK6
  have hsz1 : w.heap.size + 1 ≤ w1.heap.size := by have := ho.size; simpa using this
  obtain ⟨A2, C2, rfl⟩ := hpv.form
  obtain ⟨A3, C3, rfl⟩ := hbv.form
  simp only [World.size_alloc] at hpv hbv
  have hrow := PRowX.lit (w := w1) (B := w1.heap.size) (lo := w.heap.size + 1) rfl hsz1 hpv hbv
  have hrow := PRowX.keep hrow (al1 (o := .cells #[.slice (some ⟨w1.heap.size, 0, none⟩) 1 1] 25))
  have hcur := (hcur.alloc (.cells (bkCells K0 (.slice A2 K0.params.length C2) (.slice A3 K0.body.length C3)).toArray 56)).alloc (.cells #[.slice (some ⟨w1.heap.size, 0, none⟩) 1 1] 25)
  have hr := (hr.keep (al1 (o := .cells (bkCells K0 (.slice A2 K0.params.length C2) (.slice A3 K0.body.length C3)).toArray 56))).keep (al1 (o := .cells #[.slice (some ⟨w1.heap.size, 0, none⟩) 1 1] 25))
  clear ho hK1 hK2 hK3 hK4 hK5 hK6 hpv hbv
  go_wp2_with fail
  obtain ⟨W2, hW2⟩ : ∃ W2 : World, W2 = (w1.alloc (.cells #[.int .i64 K0.kind, .int .i64 K0.parent, .slice A2 K0.params.length C2, .slice A3 K0.body.length C3] 56)).alloc (.cells #[.slice (some ⟨w1.heap.size, 0, none⟩) 1 1] 25) := ⟨_, rfl⟩
  have cP : W2.cell? ⟨w1.heap.size + 1, 0, none⟩ = some (.slice (some ⟨w1.heap.size, 0, none⟩) 1 1) := by rw [hW2]; simp [go_sem]
  have bP : BoxP W2 (w1.heap.size + 1) (.slice (some ⟨w1.heap.size, 0, none⟩) 1 1) := by rw [hW2]; exact BoxP.new (by simp) _
  have fP : ∀ j, W2.frozen? ⟨w1.heap.size + 1, j, none⟩ = false := fun j => by rw [hW2]; simp [go_sem]
  have zP : w1.heap.size + 1 < W2.heap.size := by rw [hW2]; simp
  have HZ2 : Hid (W2.heap.size = w1.heap.size + 1 + 1) := Lib.hid (by rw [hW2]; simp)
  have hrow : PRow W2 (w.heap.size + 1) (.slice (some ⟨w1.heap.size, 0, none⟩) 1 1) (bkCells K0 (.slice A2 K0.params.length C2) (.slice A3 K0.body.length C3)) [K0] := by rw [hW2]; exact hrow
  have hcur : Only g (g + 1) (w.alloc (.cells #[.slice none 0 0] 25)) W2 := by rw [hW2]; exact hcur
  have hr : Rdr W2 g (m + 60) := by rw [hW2]; exact hr
  rw [← hW2]
  clear hW2
  refine (S_oneL g _ [3, 2, 4, 1, 5, 0] _ (w1.heap.size + 1 + 1) HZ2.out hr (by omega) (by simp) (by simp)).mono ?_
  rintro e w3 ⟨N, rfl, hN, hr, ho⟩
  have hN2 : 0 ≤ N ∧ N ≤ 5 := by simp at hN; omega
  have cP := cell_only ho cP (by omega)
  have bP := bP.only ho (by omega)
  have fP : ∀ j, w3.frozen? ⟨w1.heap.size + 1, j, none⟩ = false := fun j => ((ocell ho).2 _ j (by omega) zP).trans (fP j)
  have hrow := PRowX.only hrow ho (by omega)
  have hcur := hcur.trans ho
  have zP := Nat.lt_of_lt_of_le zP ho.size
  obtain ⟨PB, hPB⟩ : ∃ PB : Nat, PB = w1.heap.size + 1 := ⟨_, rfl⟩
  have hPB1 : w.heap.size + 1 < PB := by omega
  have hne : (Value.slice (some ⟨w1.heap.size, 0, none⟩) 1 1).ownBlock ≠ some PB := by simp [Value.ownBlock]; omega
  rw [← hPB] at cP bP fP zP
  clear hN ho
  go_wp2
  rw [← hPB]
  clear hPB hsz1
  go_loopw [4] (fun i wr => ∃ (r : Nat) (pv : Value) (xs : List Value) (p : Pr), i = .int .i64 r ∧ p.length + r ≤ 6 ∧ Tame p ∧ PRow wr (w.heap.size + 1) pv xs p ∧ BoxP wr PB pv ∧ (∀ j, wr.frozen? ⟨PB, j, none⟩ = false) ∧ PB < wr.heap.size ∧ pv.ownBlock ≠ some PB ∧ Rdr wr g (m + 61 + 80 * (5 - r)) ∧ Only g (g + 1) (w.alloc (.cells #[.slice none 0 0] 25)) wr) (fun i _ => (intOf i).toNat)
  case atStart => exact ⟨N.toNat, _, _, _, by rw [Int.toNat_of_nonneg hN2.1], by simp; omega, hT, hrow, bP, fP, zP, hne, hr.mono (by omega), hcur⟩
  case round =>
    clear hT hrow cP bP fP zP hne hr hcur hN2
    obtain ⟨r, pv, xs, p, rfl, hlr, hT, hrow, bP, fP, zP, hne, hr, hcur⟩ := hrel
    have cP := bP.cell
    have HBP := Lib.hid bP
    clear bP
    have hp1 := hT.len
    by_cases hlt : 0 < r
    · obtain ⟨ga, Cp, rfl, _, hCp, hga1, hga2, _, _⟩ := PRowX.rd hrow hp1
      have HT := Lib.hid hT
      have HF := Lib.hid fP
      unfold maxLen at hCp
      have hwr : IntKind.i64.wrap ((p.length : Int) - 1) = (p.length : Int) - 1 := IntWalk.i64_in _ (by omega)
      have hrow := PRowX.keep hrow (below0 wr).drew
      have hr := hr.drew
      have hcur := hcur.drew
      have hcw := Only.refl g (g + 1) wr.drew
      clear hT fP
      go_wp2
      go_region_held3 (fun w' => w'.cell? ⟨PB, 0, none⟩ = some (.slice (some ⟨ga, 0, none⟩) p.length Cp))
        (first | go_keep | exact cP)
        (first
          | (go_at_call 30
             refine (S_pick g _ _ _ hr (by omega)).mono ?_
             rintro e wa ⟨y, rfl, y0, y1, hr, ho, hsz⟩
             clear hsz
             have cP := cell_only ho cP (by omega)
             have hrow := PRowX.only hrow ho (by omega)
             have hcur := hcur.trans ho
             have hcw := hcw.trans ho
             have HO1 := Lib.hid ho)
          | (go_at_call 69
             refine (S_oneL g _ [(p.length : Int) - 1, y] _ _ rfl hr (by omega) (by simp) (by simp)).mono ?_
             rintro e wb ⟨par, rfl, hpar, hr, ho⟩
             have cP := cell_only ho cP (by omega)
             have hrow := PRowX.only hrow ho (by omega)
             have hcur := hcur.trans ho
             have hcw := hcw.trans ho
             have HO2 := Lib.hid ho))
      have hp0 : 0 ≤ par ∧ par < p.length := by
        simp only [List.mem_cons, List.not_mem_nil, or_false] at hpar
        have := y1 (by omega)
        omega
      obtain ⟨Q, rfl⟩ := Int.eq_ofNat_of_zero_le hp0.1
      have hQ : Q < p.length := by omega
      have hrowb := hrow
      have fPb : ∀ j, wb.frozen? ⟨PB, j, none⟩ = false := fun j => by
        have e1 := (ocell HO1.out).2 PB j (by omega) zP
        have e2 := (ocell HO2.out).2 PB j (by omega) (Nat.lt_of_lt_of_le zP HO1.out.size)
        rw [e2, e1]
        exact HF.out j
      have zPb : PB < wb.heap.size := Nat.lt_of_lt_of_le zP (Nat.le_trans HO1.out.size HO2.out.size)
      have HFB := Lib.hid fPb
      have hwrz : wr.heap.size ≤ wb.heap.size := Nat.le_trans HO1.out.size HO2.out.size
      have hgab : ga < wb.heap.size := own_block_lt hrowb.own ga rfl
      clear hpar y0 y1 hwr ho fPb HO1 HO2 HF
      go_wp2_with fail
      refine (S_oneL g _ [1, 1, 1, 2] _ _ rfl hr (by omega) (by simp) (by simp)).mono ?_
      rintro e wc ⟨kd, rfl, hkd, hr, ho⟩
      have cP := cell_only ho cP (by omega)
      have hrow := PRowX.only hrow ho (by omega)
      have hcur := hcur.trans ho
      have hcw := hcw.trans ho
      have HO3 := Lib.hid ho
      clear hkd ho
      go_wp2_with fail
      refine (S_someBlock g _ kd Q _ hr (by omega)).mono ?_
      rintro e wd ⟨K, Kpv, Kbv, rfl, hK1, hK2, hK3, hK4, hK5, hK6, hKp, hKb, hr, ho⟩
      have cP := cell_only ho cP (by omega)
      have hrow := PRowX.only hrow ho (by omega)
      have hcur := hcur.trans ho
      have hcw := hcw.trans ho
      have HO4 := Lib.hid ho
      have hlob : wb.heap.size ≤ wc.heap.size := HO3.out.size
      have hlod : wc.heap.size ≤ wd.heap.size := ho.size
      obtain ⟨Kk, Kp, Kps, Kbody⟩ := K
      obtain rfl : kd = Kk := hK1.symm
      obtain rfl : Kp = (Q : Int) := hK2
      have hK3 : Kps.length ≤ 1 := hK3
      have hK4 : 1 ≤ Kbody.length := hK4
      have hK5 : Kbody.length ≤ 6 := hK5
      have HK6 := Lib.hid (show ∀ s ∈ Kbody, 0 ≤ s.to ∧ s.to ≤ 7 from hK6)
      clear ho hK6
      obtain ⟨A2, C2, rfl⟩ := hKp.form
      obtain ⟨A3, C3, rfl⟩ := hKb.form
      obtain ⟨ga2, Cp2, ea, _, _, _, _, hcell, _⟩ := PRowX.rd hrow hp1
      obtain ⟨rfl, rfl⟩ : ga = ga2 ∧ Cp = Cp2 := by simpa using ea
      clear ea
      have hbv := PRowX.full hrow hQ
      have b3 := hcell (Q * 4 + 3) (by omega)
      obtain ⟨BV, hBV⟩ : ∃ BV : Value, BV = xs.getD (Q * 4 + 3) undef := ⟨_, rfl⟩
      rw [← hBV] at b3 hbv
      have HBV := Lib.hid hBV
      obtain ⟨hbl1, hbl2⟩ := HT.out.body Q hQ
      have HTOS := Lib.hid (HT.out.tos Q hQ)
      obtain ⟨body, hbody⟩ : ∃ body : List St, body = (p.getD Q default).body := ⟨_, rfl⟩
      rw [← hbody] at hbv hbl1 hbl2 HTOS
      have HBODY := Lib.hid hbody
      obtain ⟨Ab, Cb, bg, eb, hbn, hbc, hbA, hbg, hst, _⟩ := hbv.rd
      obtain rfl := hbA (by omega)
      subst eb
      have hbg2 := (hbg (by omega)).2
      have hbg1 := (hbg (by omega)).1
      have HST := Lib.hid hst
      unfold maxLen at hbc
      clear hBV hbody hcell hbA hbg hst
      have hPBd : PB < wd.heap.size := by omega
      have hgad : ga < wd.heap.size := by have := HO4.out.size; have := HO3.out.size; omega
      have hQ1 : (Q : Int) < (p.length : Int) := by omega
      have hQ0 : (0 : Int) ≤ (Q : Int) := by omega
      have k0 : (wd.alloc (.cells #[.int .i64 kd, .int .i64 Q, .slice A2 Kps.length C2, .slice A3 Kbody.length C3] 56)).cell? ⟨wd.heap.size, 0, none⟩ = some (.int .i64 kd) := by simp [go_sem]
      have k1 : (wd.alloc (.cells #[.int .i64 kd, .int .i64 Q, .slice A2 Kps.length C2, .slice A3 Kbody.length C3] 56)).cell? ⟨wd.heap.size, 1, none⟩ = some (.int .i64 Q) := by simp [go_sem]
      have k2 : (wd.alloc (.cells #[.int .i64 kd, .int .i64 Q, .slice A2 Kps.length C2, .slice A3 Kbody.length C3] 56)).cell? ⟨wd.heap.size, 2, none⟩ = some (.slice A2 Kps.length C2) := by simp [go_sem]
      have k3 : (wd.alloc (.cells #[.int .i64 kd, .int .i64 Q, .slice A2 Kps.length C2, .slice A3 Kbody.length C3] 56)).cell? ⟨wd.heap.size, 3, none⟩ = some (.slice A3 Kbody.length C3) := by simp [go_sem]
      have hx := al1 (w := wd) (o := .cells #[.int .i64 kd, .int .i64 Q, .slice A2 Kps.length C2, .slice A3 Kbody.length C3] 56)
      go_wp2_with fail
      refine (S_pick g _ _ _ (hr.keep hx) (by omega)).mono ?_
      rintro e we ⟨t, rfl, t0, t1, hr, ho, hsz⟩
      clear hsz
      have hKBg : g + 1 ≤ wd.heap.size := by have := hcur.size; simp only [World.size_alloc] at this; omega
      have k0 := cell_only ho k0 (by omega)
      have k1 := cell_only ho k1 (by omega)
      have k2 := cell_only ho k2 (by omega)
      have k3 := cell_only ho k3 (by omega)
      have cP := cell_only ho (cell_later hx cP) (by omega)
      have b3 := cell_only ho (cell_later hx b3) (by omega)
      have hrow := PRowX.only (PRowX.keep hrow hx) ho (by omega)
      have hKp := Ints.only (hKp.keep hx) ho (by omega)
      have hKb := Stmts.only (hKb.keep hx) ho (by omega)
      have hbv := Stmts.only (hbv.keep hx) ho (by omega)
      have hcur := (hcur.alloc _).trans ho
      have hcw := (hcw.alloc _).trans ho
      have ht1 : t < body.length + 1 := t1 (by omega)
      have hze : wd.heap.size < we.heap.size := by have := ho.size; simp only [World.size_alloc] at this; omega
      have HST2 : Hid (∀ j, j < body.length → we.cell? ⟨bg, j * 4, none⟩ = some (.int .i64 (body.getD j default).kind)) := Lib.hid fun j hj => cell_only ho (cell_later hx (HST.out j hj).1) (by omega)
      obtain ⟨T, rfl⟩ := Int.eq_ofNat_of_zero_le t0
      have hT : T ≤ body.length := by omega
      have hgae : ga < wd.heap.size := hgad
      clear t0 t1 ho hx ht1 HST hPBd hgad
      by_cases hT0 : T = 0
      · subst hT0
        have hT0 : (0 : Int) ≤ ((0 : Nat) : Int) := by omega
        have hTb : ((0 : Nat) : Int) ≤ (body.length : Int) := by omega
        have hTc : ((0 : Nat) : Int) ≤ (Cb : Int) := by omega
        go_wp2_with (at_builtin; refine wpList_append_stmts rfl _ _ rfl _ _ [] (body.drop (0)) we.heap.size rfl rfl (Stmts.zero rfl (Nat.le_refl _)) ((Stmts.from_ hbv (0) _ _ _ (by first | omega | (simp; done) | (simp; omega)) (by omega) (by first | omega | (simp; done) | (simp; omega))).keep al1) (by first | (simp; done) | (simp; omega)) (by simp) ?_; intro RV w7 hRV hg7 hb7 hf7; have hx7 : Below we.heap.size we w7 := al1.trans hb7; rw [List.nil_append] at hRV; obtain ⟨RA, RC, rfl⟩ := hRV.form; rw [show (body.drop (0)).length = body.length - (0) from List.length_drop] at hRV)
        have hz7 : we.heap.size ≤ w7.heap.size := hx7.size
        have cP := cell_later hx7 cP
        have k0 := cell_later hx7 k0
        have k1 := cell_later hx7 k1
        have k2 := cell_later hx7 k2
        have k3 := cell_later hx7 k3
        have b3 := cell_later hx7 b3
        have hrow7 := (PRowX.keep hrow hx7).keep (below0 w7).drew
        have hKp7 := (hKp.keep hx7).keep (below0 w7).drew
        have hKb7 := (hKb.keep hx7).keep (below0 w7).drew
        have hbv7 := (hbv.keep hx7).keep (below0 w7).drew
        have hRV7 := hRV.keep (below0 w7).drew
        have hrow := hrow7
        have hKp := hKp7
        have hKb := hKb7
        have hbv := hbv7
        have hRV := hRV7
        have hr := (hr.keep hx7).drew
        have hcur := (hcur.trans (Only.of_below hx7)).drew
        have hcw := (hcw.trans (Only.of_below hx7)).drew
        clear hx7 hb7 hg7 hf7
        go_region_held3 (fun w' => w'.cell? ⟨PB, 0, none⟩ = some (.slice (some ⟨ga, 0, none⟩) p.length Cp) ∧ w'.cell? ⟨wd.heap.size, 0, none⟩ = some (.int .i64 kd) ∧ w'.cell? ⟨wd.heap.size, 1, none⟩ = some (.int .i64 Q) ∧ w'.cell? ⟨wd.heap.size, 2, none⟩ = some (.slice A2 Kps.length C2) ∧ w'.cell? ⟨wd.heap.size, 3, none⟩ = some (.slice A3 Kbody.length C3))
          (first | go_keep | exact ⟨cP, k0, k1, k2, k3⟩)
          (first
            | (refine step_append_stmts rfl _ _ rfl V10 (.slice RA (body.length - (0)) RC) (body.take (0) ++ mk) (body.drop (0)) w7.heap.size rfl rfl h10 hRV.feed (by rw [List.length_append, List.length_take, List.length_drop]; omega) (by omega) ?_
               intro V11 w11 h11 hg11 hb11 hf11
               have cP := (hb11.cell (p := ⟨PB, _, none⟩) (show PB < w7.heap.size by omega)).trans cP
               have k0 := (hb11.cell (p := ⟨wd.heap.size, _, none⟩) (show wd.heap.size < w7.heap.size by omega)).trans k0
               have k1 := (hb11.cell (p := ⟨wd.heap.size, _, none⟩) (show wd.heap.size < w7.heap.size by omega)).trans k1
               have k2 := (hb11.cell (p := ⟨wd.heap.size, _, none⟩) (show wd.heap.size < w7.heap.size by omega)).trans k2
               have k3 := (hb11.cell (p := ⟨wd.heap.size, _, none⟩) (show wd.heap.size < w7.heap.size by omega)).trans k3
               have b3 := (hb11.cell (p := ⟨ga, _, none⟩) (show ga < w7.heap.size by omega)).trans b3
               have hrow := PRowX.pastB hrow7 hrow hb11 (Nat.le_refl _)
               have hKp := Ints.pastB hKp7 hKp hb11 (Nat.le_refl _)
               have hKb := Stmts.pastB hKb7 hKb hb11 (Nat.le_refl _)
               have hr := hr.grown hg11 (fun k hk => by have := own_block_ge h10 k hk; omega)
               have hcur := hcur.grow hg11 (fun k hk => by have := own_block_ge h10 k hk; simp only [World.size_alloc]; omega)
               have hcw := hcw.grow hg11 (fun k hk => by have := own_block_ge h10 k hk; show wr.heap.size ≤ k; omega)
               have hz11 : w7.heap.size ≤ w11.heap.size := Nat.le_trans hz10 hb11.size)
            | (refine step_append_stmts rfl _ _ rfl V8 V9 (body.take (0)) mk w7.heap.size rfl rfl h8 h9.feed (by rw [List.length_take]; omega) (by omega) ?_
               intro V10 w10 h10 hg10 hb10 hf10
               have cP := (hb10.cell (p := ⟨PB, _, none⟩) (show PB < w7.heap.size by omega)).trans cP
               have k0 := (hb10.cell (p := ⟨wd.heap.size, _, none⟩) (show wd.heap.size < w7.heap.size by omega)).trans k0
               have k1 := (hb10.cell (p := ⟨wd.heap.size, _, none⟩) (show wd.heap.size < w7.heap.size by omega)).trans k1
               have k2 := (hb10.cell (p := ⟨wd.heap.size, _, none⟩) (show wd.heap.size < w7.heap.size by omega)).trans k2
               have k3 := (hb10.cell (p := ⟨wd.heap.size, _, none⟩) (show wd.heap.size < w7.heap.size by omega)).trans k3
               have b3 := (hb10.cell (p := ⟨ga, _, none⟩) (show ga < w7.heap.size by omega)).trans b3
               have hrow := PRowX.pastB hrow7 hrow hb10 (Nat.le_refl _)
               have hKp := Ints.pastB hKp7 hKp hb10 (Nat.le_refl _)
               have hKb := Stmts.pastB hKb7 hKb hb10 (Nat.le_refl _)
               have hRV := Stmts.pastB hRV7 hRV hb10 (Nat.le_refl _)
               have hr := hr.grown hg10 (fun k hk => by have := own_block_ge h8 k hk; omega)
               have hcur := hcur.grow hg10 (fun k hk => by have := own_block_ge h8 k hk; simp only [World.size_alloc]; omega)
               have hcw := hcw.grow hg10 (fun k hk => by have := own_block_ge h8 k hk; show wr.heap.size ≤ k; omega)
               have hz10 : w7.heap.size ≤ w10.heap.size := Nat.le_trans hz9 hb10.size)
            | (go_at_call 70
               refine (S_making g _ ⟨kd, Q, Kps, Kbody⟩ _ _ p.length _ _ _ hr (by omega) hKp hKb).mono ?_
               rintro e w9 ⟨V9, mk, rfl, h9, hm1, hm2, hm3, hr, ho⟩
               have cP := cell_only ho cP (by omega)
               have k0 := cell_only ho k0 (by omega)
               have k1 := cell_only ho k1 (by omega)
               have k2 := cell_only ho k2 (by omega)
               have k3 := cell_only ho k3 (by omega)
               have b3 := cell_only ho b3 (by omega)
               have hrow := PRowX.only hrow ho (by omega)
               have hKp := Ints.only hKp ho (by omega)
               have hKb := Stmts.only hKb ho (by omega)
               have hRV := Stmts.only hRV ho (by omega)
               have h8 := Stmts.only h8 ho (by omega)
               have hcur := hcur.trans ho
               have hcw := hcw.trans ho
               have hz9 : w7.heap.size ≤ w9.heap.size := Nat.le_trans hz8 ho.size
               clear ho)
            | (refine step_append_stmts rfl _ _ rfl _ _ [] (body.take (0)) w7.heap.size rfl rfl (Stmts.zero rfl (Nat.le_refl _)) ((Stmts.upto_ hbv (0) _ (by omega)).keep al1) (by first | (simp; done) | (simp; omega)) (by simp) ?_
               intro V8 w8 h8 hg8 hb8 hf8
               have hx8 : Below w7.drew.heap.size w7.drew w8 := al1.trans hb8
               rw [List.nil_append] at h8
               have cP := cell_later hx8 cP
               have k0 := cell_later hx8 k0
               have k1 := cell_later hx8 k1
               have k2 := cell_later hx8 k2
               have k3 := cell_later hx8 k3
               have b3 := cell_later hx8 b3
               have hrow := PRowX.keep hrow hx8
               have hKp := hKp.keep hx8
               have hKb := hKb.keep hx8
               have hRV := hRV.keep hx8
               have hr := hr.keep hx8
               have hcur := hcur.trans (Only.of_below hx8)
               have hcw := hcw.trans (Only.of_below hx8)
               have hz8 : w7.heap.size ≤ w8.heap.size := hx8.size))
        obtain ⟨A11, C11, rfl⟩ := h11.form
        obtain ⟨NB, hNB⟩ : ∃ NB : List St, NB = body.take (0) ++ mk ++ body.drop (0) := ⟨_, rfl⟩
        rw [← hNB] at h11
        have hNB1 : 1 ≤ NB.length := by rw [hNB, List.length_append, List.length_append]; omega
        have hNB5 : ∀ s ∈ NB, 0 ≤ s.to ∧ s.to ≤ 7 := fun s hs => by
          rw [hNB] at hs
          rcases List.mem_append.1 hs with h | h
          · rcases List.mem_append.1 h with h | h
            · exact HTOS.out s (List.mem_of_mem_take h)
            · exact hm3 s h
          · exact HTOS.out s (List.mem_of_mem_drop h)
        have HNB5 := Lib.hid hNB5
        have hbx : BoxP w11 PB (.slice (some ⟨ga, 0, none⟩) p.length Cp) := HBP.out.only (w := wr) (Only.trans (Only.refl g (g + 1) wr).drew hcw) (by omega)
        have hgaPB : ga ≠ PB := fun e => hne (by rw [← e]; rfl)
        have hfb : ∀ j, w11.frozen? ⟨PB, j, none⟩ = false := fun j => by rw [World.frozen?, hbx]; rfl
        rw [← hNB]
        have h12i : (12 : Int) < 13 := by omega
        clear hNB5 hNB
        by_cases h12 : NB.length ≤ 12
        · obtain ⟨ga3, Cp3, ea, _, _, _, _, _, hfz⟩ := PRowX.rd hrow hp1
          obtain ⟨rfl, rfl⟩ : ga = ga3 ∧ Cp = Cp3 := by simpa using ea
          have fb3 := hfz (Q * 4 + 3)
          have hrow12 := PRowX.setBody (PRowX.part hrow Q) hQ (h11.lo_ (lo' := w.heap.size + 1) (by omega)) (fun i hi _ => Apart.of_lt (PRowX.full hrow7 hi) (own_block_ge h11))
          have hKp12 := (Ints.set hKp (a := ⟨ga, Q * 4 + 3, none⟩) (show ga < wc.heap.size by omega) (.slice A11 NB.length C11)).lo_ (lo' := w.heap.size + 1) (by omega)
          have hKb12 := (Stmts.set hKb (a := ⟨ga, Q * 4 + 3, none⟩) (show ga < wc.heap.size by omega) (.slice A11 NB.length C11)).lo_ (lo' := w.heap.size + 1) (by omega)
          have hap12 : ∀ i, i < (p.set Q { p.getD Q default with body := NB }).length → Apart ((xs.set (Q * 4 + 3) (.slice A11 NB.length C11)).getD (i * 4 + 3) undef) (.slice A3 Kbody.length C3) := fun i hi => by
            rw [List.length_set] at hi
            by_cases e : i = Q
            · subst e
              rw [getD_set_eq _ _ _ _ (by have := hrow.own.1; omega)]
              exact fun r h1 h2 => by
                have a1 := own_block_ge h11 r h1
                have a2 : r < w7.heap.size := own_block_lt hKb7 r h2
                omega
            · rw [getD_set_ne _ _ _ _ _ (by omega)]
              exact Apart.of_lt (PRowX.full hrowb hi) (fun r hr => by have := own_block_ge hKb r hr; omega)
          have hbx12 := hbx.other ⟨ga, Q * 4 + 3, none⟩ (.slice A11 NB.length C11) (fun e => hgaPB e.symm)
          have hz12 : w7.heap.size ≤ (w11.setCell ⟨ga, Q * 4 + 3, none⟩ (.slice A11 NB.length C11)).heap.size := by simpa using hz11
          have hr12 := hr.store (p := ⟨ga, Q * 4 + 3, none⟩) (show g < ga by omega) (.slice A11 NB.length C11)
          have hcur12 := hcur.store (p := ⟨ga, Q * 4 + 3, none⟩) (show _ ≤ ga by simp only [World.size_alloc]; omega) (.slice A11 NB.length C11)
          have hlen12 : (p.set Q { p.getD Q default with body := NB }).length = p.length := List.length_set
          have HNBL := Lib.hid h12
          clear hfz ea
          go_wp2_with (at_builtin; refine wpList_append_block rfl _ _ rfl (.slice (some ⟨ga, 0, none⟩) p.length Cp) (.slice A2 Kps.length C2) (.slice A3 Kbody.length C3) _ _ ⟨kd, Q, Kps, Kbody⟩ (w.heap.size + 1) w11.heap.size (by simp) rfl rfl hrow12 hKp12 hKb12 hap12 (by rw [hlen12]; omega) (by omega) ?_; intro NV w13 hrow13 hg13 hb13 hf13; obtain ⟨NA, NC, rfl⟩ := PRowX.form hrow13; have hbx13 := (hbx12.below (al1 (o := .cells (bkCells ⟨kd, Q, Kps, Kbody⟩ (.slice A2 Kps.length C2) (.slice A3 Kbody.length C3)).toArray 56)) (lt_of_block hbx12)).grown hg13 (fun e => hgaPB (Option.some.inj e).symm); have z1 := hbx13.cell; have z2 : ∀ j, w13.frozen? ⟨PB, j, none⟩ = false := fun j => by rw [World.frozen?, hbx13]; rfl)
          have el : (p.set Q { p.getD Q default with body := NB } ++ [(⟨kd, Q, Kps, Kbody⟩ : Bk)]).length = p.length + 1 := by rw [List.length_append, hlen12]; rfl
          have hV : Value.slice NA (p.set Q { p.getD Q default with body := NB } ++ [(⟨kd, Q, Kps, Kbody⟩ : Bk)]).length NC = .slice NA (p.length + 1) NC := by rw [el]
          have hrow14 : PRow w13 (w.heap.size + 1) (.slice NA (p.length + 1) NC) (xs.set (Q * 4 + 3) (.slice A11 NB.length C11) ++ bkCells ⟨kd, Q, Kps, Kbody⟩ (.slice A2 Kps.length C2) (.slice A3 Kbody.length C3)) (p.set Q { p.getD Q default with body := NB } ++ [(⟨kd, Q, Kps, Kbody⟩ : Bk)]) := by rw [← hV]; exact hrow13
          have hne14 : (Value.slice NA (p.length + 1) NC).ownBlock ≠ some PB := fun e => by
            rw [← hV] at e
            have hlt := lt_of_block hbx12
            rcases hf13 with h | ⟨gg, h, h'⟩
            · rw [e] at h
              exact hgaPB (Option.some.inj h).symm
            · rw [e] at h
              have := Option.some.inj h
              omega
          have hr14 := (hr12.keep (al1 (o := .cells (bkCells ⟨kd, Q, Kps, Kbody⟩ (.slice A2 Kps.length C2) (.slice A3 Kbody.length C3)).toArray 56))).grown hg13 (fun k hk => by have : ga = k := Option.some.inj hk; omega)
          have hcur14 := (hcur12.alloc (.cells (bkCells ⟨kd, Q, Kps, Kbody⟩ (.slice A2 Kps.length C2) (.slice A3 Kbody.length C3)).toArray 56)).grow hg13 (fun k hk => by have : ga = k := Option.some.inj hk; simp only [World.size_alloc]; omega)
          clear hrow13 hf13 hb13
          go_roundw
          case rel => exact ⟨r - 1, _, _, _, by go_num, by rw [el]; omega, Tame.add (Tame.setBody HT.out hQ hNB1 HNBL.out HNB5.out) hK4 (show Kbody.length ≤ 12 by omega) hK3 hQ0 (by rw [hlen12]; exact hQ1) HK6.out, BoxP.rows hrow14 hbx13 _, hbx13.set _, fun j => by simp [go_sem]; exact z2 j, by have := lt_of_block hbx13; simpa using this, hne14, (hr14.store (p := ⟨PB, 0, none⟩) (show g < PB by omega) _).mono (by omega), hcur14.store (p := ⟨PB, 0, none⟩) (show _ ≤ PB by simp only [World.size_alloc]; omega) _⟩
          case measure => simp [intOf]; omega
        · go_wp2
          go_roundw
          case rel => exact ⟨r - 1, _, xs, p, by go_num, by omega, HT.out, hrow, hbx, hfb, by have := lt_of_block hbx; omega, hne, hr.mono (by omega), hcur⟩
          case measure => simp [intOf]; omega
      by_cases h8 : (body.getD (T - 1) default).kind = 8
      · obtain ⟨T1, rfl⟩ : ∃ T1, T = T1 + 1 := ⟨T - 1, by omega⟩
        have hs0 := HST2.out T1 (by omega)
        have ht2 : ((T1 : Int) + 1 - 1).toNat = T1 := by omega
        have h8 : (body.getD T1 default).kind = 8 := h8
        rw [h8] at hs0
        have hT0 : (0 : Int) ≤ ((T1 : Nat) : Int) := by omega
        have hTb : ((T1 : Nat) : Int) ≤ (body.length : Int) := by omega
        have hTc : ((T1 : Nat) : Int) ≤ (Cb : Int) := by omega
        go_wp2_with (at_builtin; refine wpList_append_stmts rfl _ _ rfl _ _ [] (body.drop (T1)) we.heap.size rfl rfl (Stmts.zero rfl (Nat.le_refl _)) ((Stmts.from_ hbv (T1) _ _ _ (by first | omega | (simp; done) | (simp; omega)) (by omega) (by first | omega | (simp; done) | (simp; omega))).keep al1) (by first | (simp; done) | (simp; omega)) (by simp) ?_; intro RV w7 hRV hg7 hb7 hf7; have hx7 : Below we.heap.size we w7 := al1.trans hb7; rw [List.nil_append] at hRV; obtain ⟨RA, RC, rfl⟩ := hRV.form; rw [show (body.drop (T1)).length = body.length - (T1) from List.length_drop] at hRV)
        have hz7 : we.heap.size ≤ w7.heap.size := hx7.size
        have cP := cell_later hx7 cP
        have k0 := cell_later hx7 k0
        have k1 := cell_later hx7 k1
        have k2 := cell_later hx7 k2
        have k3 := cell_later hx7 k3
        have b3 := cell_later hx7 b3
        have hrow7 := (PRowX.keep hrow hx7).keep (below0 w7).drew
        have hKp7 := (hKp.keep hx7).keep (below0 w7).drew
        have hKb7 := (hKb.keep hx7).keep (below0 w7).drew
        have hbv7 := (hbv.keep hx7).keep (below0 w7).drew
        have hRV7 := hRV.keep (below0 w7).drew
        have hrow := hrow7
        have hKp := hKp7
        have hKb := hKb7
        have hbv := hbv7
        have hRV := hRV7
        have hr := (hr.keep hx7).drew
        have hcur := (hcur.trans (Only.of_below hx7)).drew
        have hcw := (hcw.trans (Only.of_below hx7)).drew
        clear hx7 hb7 hg7 hf7
        go_region_held3 (fun w' => w'.cell? ⟨PB, 0, none⟩ = some (.slice (some ⟨ga, 0, none⟩) p.length Cp) ∧ w'.cell? ⟨wd.heap.size, 0, none⟩ = some (.int .i64 kd) ∧ w'.cell? ⟨wd.heap.size, 1, none⟩ = some (.int .i64 Q) ∧ w'.cell? ⟨wd.heap.size, 2, none⟩ = some (.slice A2 Kps.length C2) ∧ w'.cell? ⟨wd.heap.size, 3, none⟩ = some (.slice A3 Kbody.length C3))
          (first | go_keep | exact ⟨cP, k0, k1, k2, k3⟩)
          (first
            | (refine step_append_stmts rfl _ _ rfl V10 (.slice RA (body.length - (T1)) RC) (body.take (T1) ++ mk) (body.drop (T1)) w7.heap.size rfl rfl h10 hRV.feed (by rw [List.length_append, List.length_take, List.length_drop]; omega) (by omega) ?_
               intro V11 w11 h11 hg11 hb11 hf11
               have cP := (hb11.cell (p := ⟨PB, _, none⟩) (show PB < w7.heap.size by omega)).trans cP
               have k0 := (hb11.cell (p := ⟨wd.heap.size, _, none⟩) (show wd.heap.size < w7.heap.size by omega)).trans k0
               have k1 := (hb11.cell (p := ⟨wd.heap.size, _, none⟩) (show wd.heap.size < w7.heap.size by omega)).trans k1
               have k2 := (hb11.cell (p := ⟨wd.heap.size, _, none⟩) (show wd.heap.size < w7.heap.size by omega)).trans k2
               have k3 := (hb11.cell (p := ⟨wd.heap.size, _, none⟩) (show wd.heap.size < w7.heap.size by omega)).trans k3
               have b3 := (hb11.cell (p := ⟨ga, _, none⟩) (show ga < w7.heap.size by omega)).trans b3
               have hrow := PRowX.pastB hrow7 hrow hb11 (Nat.le_refl _)
               have hKp := Ints.pastB hKp7 hKp hb11 (Nat.le_refl _)
               have hKb := Stmts.pastB hKb7 hKb hb11 (Nat.le_refl _)
               have hr := hr.grown hg11 (fun k hk => by have := own_block_ge h10 k hk; omega)
               have hcur := hcur.grow hg11 (fun k hk => by have := own_block_ge h10 k hk; simp only [World.size_alloc]; omega)
               have hcw := hcw.grow hg11 (fun k hk => by have := own_block_ge h10 k hk; show wr.heap.size ≤ k; omega)
               have hz11 : w7.heap.size ≤ w11.heap.size := Nat.le_trans hz10 hb11.size)
            | (refine step_append_stmts rfl _ _ rfl V8 V9 (body.take (T1)) mk w7.heap.size rfl rfl h8 h9.feed (by rw [List.length_take]; omega) (by omega) ?_
               intro V10 w10 h10 hg10 hb10 hf10
               have cP := (hb10.cell (p := ⟨PB, _, none⟩) (show PB < w7.heap.size by omega)).trans cP
               have k0 := (hb10.cell (p := ⟨wd.heap.size, _, none⟩) (show wd.heap.size < w7.heap.size by omega)).trans k0
               have k1 := (hb10.cell (p := ⟨wd.heap.size, _, none⟩) (show wd.heap.size < w7.heap.size by omega)).trans k1
               have k2 := (hb10.cell (p := ⟨wd.heap.size, _, none⟩) (show wd.heap.size < w7.heap.size by omega)).trans k2
               have k3 := (hb10.cell (p := ⟨wd.heap.size, _, none⟩) (show wd.heap.size < w7.heap.size by omega)).trans k3
               have b3 := (hb10.cell (p := ⟨ga, _, none⟩) (show ga < w7.heap.size by omega)).trans b3
               have hrow := PRowX.pastB hrow7 hrow hb10 (Nat.le_refl _)
               have hKp := Ints.pastB hKp7 hKp hb10 (Nat.le_refl _)
               have hKb := Stmts.pastB hKb7 hKb hb10 (Nat.le_refl _)
               have hRV := Stmts.pastB hRV7 hRV hb10 (Nat.le_refl _)
               have hr := hr.grown hg10 (fun k hk => by have := own_block_ge h8 k hk; omega)
               have hcur := hcur.grow hg10 (fun k hk => by have := own_block_ge h8 k hk; simp only [World.size_alloc]; omega)
               have hcw := hcw.grow hg10 (fun k hk => by have := own_block_ge h8 k hk; show wr.heap.size ≤ k; omega)
               have hz10 : w7.heap.size ≤ w10.heap.size := Nat.le_trans hz9 hb10.size)
            | (go_at_call 70
               refine (S_making g _ ⟨kd, Q, Kps, Kbody⟩ _ _ p.length _ _ _ hr (by omega) hKp hKb).mono ?_
               rintro e w9 ⟨V9, mk, rfl, h9, hm1, hm2, hm3, hr, ho⟩
               have cP := cell_only ho cP (by omega)
               have k0 := cell_only ho k0 (by omega)
               have k1 := cell_only ho k1 (by omega)
               have k2 := cell_only ho k2 (by omega)
               have k3 := cell_only ho k3 (by omega)
               have b3 := cell_only ho b3 (by omega)
               have hrow := PRowX.only hrow ho (by omega)
               have hKp := Ints.only hKp ho (by omega)
               have hKb := Stmts.only hKb ho (by omega)
               have hRV := Stmts.only hRV ho (by omega)
               have h8 := Stmts.only h8 ho (by omega)
               have hcur := hcur.trans ho
               have hcw := hcw.trans ho
               have hz9 : w7.heap.size ≤ w9.heap.size := Nat.le_trans hz8 ho.size
               clear ho)
            | (refine step_append_stmts rfl _ _ rfl _ _ [] (body.take (T1)) w7.heap.size rfl rfl (Stmts.zero rfl (Nat.le_refl _)) ((Stmts.upto_ hbv (T1) _ (by omega)).keep al1) (by first | (simp; done) | (simp; omega)) (by simp) ?_
               intro V8 w8 h8 hg8 hb8 hf8
               have hx8 : Below w7.drew.heap.size w7.drew w8 := al1.trans hb8
               rw [List.nil_append] at h8
               have cP := cell_later hx8 cP
               have k0 := cell_later hx8 k0
               have k1 := cell_later hx8 k1
               have k2 := cell_later hx8 k2
               have k3 := cell_later hx8 k3
               have b3 := cell_later hx8 b3
               have hrow := PRowX.keep hrow hx8
               have hKp := hKp.keep hx8
               have hKb := hKb.keep hx8
               have hRV := hRV.keep hx8
               have hr := hr.keep hx8
               have hcur := hcur.trans (Only.of_below hx8)
               have hcw := hcw.trans (Only.of_below hx8)
               have hz8 : w7.heap.size ≤ w8.heap.size := hx8.size))
        obtain ⟨A11, C11, rfl⟩ := h11.form
        obtain ⟨NB, hNB⟩ : ∃ NB : List St, NB = body.take (T1) ++ mk ++ body.drop (T1) := ⟨_, rfl⟩
        rw [← hNB] at h11
        have hNB1 : 1 ≤ NB.length := by rw [hNB, List.length_append, List.length_append]; omega
        have hNB5 : ∀ s ∈ NB, 0 ≤ s.to ∧ s.to ≤ 7 := fun s hs => by
          rw [hNB] at hs
          rcases List.mem_append.1 hs with h | h
          · rcases List.mem_append.1 h with h | h
            · exact HTOS.out s (List.mem_of_mem_take h)
            · exact hm3 s h
          · exact HTOS.out s (List.mem_of_mem_drop h)
        have HNB5 := Lib.hid hNB5
        have hbx : BoxP w11 PB (.slice (some ⟨ga, 0, none⟩) p.length Cp) := HBP.out.only (w := wr) (Only.trans (Only.refl g (g + 1) wr).drew hcw) (by omega)
        have hgaPB : ga ≠ PB := fun e => hne (by rw [← e]; rfl)
        have hfb : ∀ j, w11.frozen? ⟨PB, j, none⟩ = false := fun j => by rw [World.frozen?, hbx]; rfl
        rw [← hNB]
        have h12i : (12 : Int) < 13 := by omega
        clear hNB5 hNB
        by_cases h12 : NB.length ≤ 12
        · obtain ⟨ga3, Cp3, ea, _, _, _, _, _, hfz⟩ := PRowX.rd hrow hp1
          obtain ⟨rfl, rfl⟩ : ga = ga3 ∧ Cp = Cp3 := by simpa using ea
          have fb3 := hfz (Q * 4 + 3)
          have hrow12 := PRowX.setBody (PRowX.part hrow Q) hQ (h11.lo_ (lo' := w.heap.size + 1) (by omega)) (fun i hi _ => Apart.of_lt (PRowX.full hrow7 hi) (own_block_ge h11))
          have hKp12 := (Ints.set hKp (a := ⟨ga, Q * 4 + 3, none⟩) (show ga < wc.heap.size by omega) (.slice A11 NB.length C11)).lo_ (lo' := w.heap.size + 1) (by omega)
          have hKb12 := (Stmts.set hKb (a := ⟨ga, Q * 4 + 3, none⟩) (show ga < wc.heap.size by omega) (.slice A11 NB.length C11)).lo_ (lo' := w.heap.size + 1) (by omega)
          have hap12 : ∀ i, i < (p.set Q { p.getD Q default with body := NB }).length → Apart ((xs.set (Q * 4 + 3) (.slice A11 NB.length C11)).getD (i * 4 + 3) undef) (.slice A3 Kbody.length C3) := fun i hi => by
            rw [List.length_set] at hi
            by_cases e : i = Q
            · subst e
              rw [getD_set_eq _ _ _ _ (by have := hrow.own.1; omega)]
              exact fun r h1 h2 => by
                have a1 := own_block_ge h11 r h1
                have a2 : r < w7.heap.size := own_block_lt hKb7 r h2
                omega
            · rw [getD_set_ne _ _ _ _ _ (by omega)]
              exact Apart.of_lt (PRowX.full hrowb hi) (fun r hr => by have := own_block_ge hKb r hr; omega)
          have hbx12 := hbx.other ⟨ga, Q * 4 + 3, none⟩ (.slice A11 NB.length C11) (fun e => hgaPB e.symm)
          have hz12 : w7.heap.size ≤ (w11.setCell ⟨ga, Q * 4 + 3, none⟩ (.slice A11 NB.length C11)).heap.size := by simpa using hz11
          have hr12 := hr.store (p := ⟨ga, Q * 4 + 3, none⟩) (show g < ga by omega) (.slice A11 NB.length C11)
          have hcur12 := hcur.store (p := ⟨ga, Q * 4 + 3, none⟩) (show _ ≤ ga by simp only [World.size_alloc]; omega) (.slice A11 NB.length C11)
          have hlen12 : (p.set Q { p.getD Q default with body := NB }).length = p.length := List.length_set
          have HNBL := Lib.hid h12
          clear hfz ea
          go_wp2_with (at_builtin; refine wpList_append_block rfl _ _ rfl (.slice (some ⟨ga, 0, none⟩) p.length Cp) (.slice A2 Kps.length C2) (.slice A3 Kbody.length C3) _ _ ⟨kd, Q, Kps, Kbody⟩ (w.heap.size + 1) w11.heap.size (by simp) rfl rfl hrow12 hKp12 hKb12 hap12 (by rw [hlen12]; omega) (by omega) ?_; intro NV w13 hrow13 hg13 hb13 hf13; obtain ⟨NA, NC, rfl⟩ := PRowX.form hrow13; have hbx13 := (hbx12.below (al1 (o := .cells (bkCells ⟨kd, Q, Kps, Kbody⟩ (.slice A2 Kps.length C2) (.slice A3 Kbody.length C3)).toArray 56)) (lt_of_block hbx12)).grown hg13 (fun e => hgaPB (Option.some.inj e).symm); have z1 := hbx13.cell; have z2 : ∀ j, w13.frozen? ⟨PB, j, none⟩ = false := fun j => by rw [World.frozen?, hbx13]; rfl)
          have el : (p.set Q { p.getD Q default with body := NB } ++ [(⟨kd, Q, Kps, Kbody⟩ : Bk)]).length = p.length + 1 := by rw [List.length_append, hlen12]; rfl
          have hV : Value.slice NA (p.set Q { p.getD Q default with body := NB } ++ [(⟨kd, Q, Kps, Kbody⟩ : Bk)]).length NC = .slice NA (p.length + 1) NC := by rw [el]
          have hrow14 : PRow w13 (w.heap.size + 1) (.slice NA (p.length + 1) NC) (xs.set (Q * 4 + 3) (.slice A11 NB.length C11) ++ bkCells ⟨kd, Q, Kps, Kbody⟩ (.slice A2 Kps.length C2) (.slice A3 Kbody.length C3)) (p.set Q { p.getD Q default with body := NB } ++ [(⟨kd, Q, Kps, Kbody⟩ : Bk)]) := by rw [← hV]; exact hrow13
          have hne14 : (Value.slice NA (p.length + 1) NC).ownBlock ≠ some PB := fun e => by
            rw [← hV] at e
            have hlt := lt_of_block hbx12
            rcases hf13 with h | ⟨gg, h, h'⟩
            · rw [e] at h
              exact hgaPB (Option.some.inj h).symm
            · rw [e] at h
              have := Option.some.inj h
              omega
          have hr14 := (hr12.keep (al1 (o := .cells (bkCells ⟨kd, Q, Kps, Kbody⟩ (.slice A2 Kps.length C2) (.slice A3 Kbody.length C3)).toArray 56))).grown hg13 (fun k hk => by have : ga = k := Option.some.inj hk; omega)
          have hcur14 := (hcur12.alloc (.cells (bkCells ⟨kd, Q, Kps, Kbody⟩ (.slice A2 Kps.length C2) (.slice A3 Kbody.length C3)).toArray 56)).grow hg13 (fun k hk => by have : ga = k := Option.some.inj hk; simp only [World.size_alloc]; omega)
          clear hrow13 hf13 hb13
          go_roundw
          case rel => exact ⟨r - 1, _, _, _, by go_num, by rw [el]; omega, Tame.add (Tame.setBody HT.out hQ hNB1 HNBL.out HNB5.out) hK4 (show Kbody.length ≤ 12 by omega) hK3 hQ0 (by rw [hlen12]; exact hQ1) HK6.out, BoxP.rows hrow14 hbx13 _, hbx13.set _, fun j => by simp [go_sem]; exact z2 j, by have := lt_of_block hbx13; simpa using this, hne14, (hr14.store (p := ⟨PB, 0, none⟩) (show g < PB by omega) _).mono (by omega), hcur14.store (p := ⟨PB, 0, none⟩) (show _ ≤ PB by simp only [World.size_alloc]; omega) _⟩
          case measure => simp [intOf]; omega
        · go_wp2
          go_roundw
          case rel => exact ⟨r - 1, _, xs, p, by go_num, by omega, HT.out, hrow, hbx, hfb, by have := lt_of_block hbx; omega, hne, hr.mono (by omega), hcur⟩
          case measure => simp [intOf]; omega
      · obtain ⟨sk, hsk⟩ : ∃ sk, sk = (body.getD (T - 1) default).kind := ⟨_, rfl⟩
        have hs0 : we.cell? ⟨bg, (T - 1) * 4, none⟩ = some (.int .i64 sk) := by rw [hsk]; exact HST2.out (T - 1) (by omega)
        rw [← hsk] at h8
        have h8b : (sk == 8) = false := by rw [beq_eq_false_iff_ne]; exact h8
        have hT1i : (0 : Int) ≤ (T : Int) - 1 := by omega
        have hT1j : (T : Int) - 1 < (body.length : Int) := by omega
        clear hsk
        by_cases hCT : Cb = T
        · obtain rfl : T = body.length := by omega
          subst hCT
          have hT0 : (0 : Int) ≤ ((body.length : Nat) : Int) := by omega
          have hTb : ((body.length : Nat) : Int) ≤ (body.length : Int) := by omega
          have hTc : ((body.length : Nat) : Int) ≤ (body.length : Int) := by omega
          go_wp2_with (at_builtin; refine wpList_append_stmts rfl _ _ rfl _ _ [] (body.drop (body.length)) we.heap.size rfl rfl (Stmts.zero rfl (Nat.le_refl _)) (FeedS.none (by simp) ⟨_, _, rfl⟩) (by first | (simp; done) | (simp; omega)) (by simp) ?_; intro RV w7 hRV hg7 hb7 hf7; have hx7 : Below we.heap.size we w7 := al1.trans hb7; rw [List.nil_append] at hRV; obtain ⟨RA, RC, rfl⟩ := hRV.form; rw [show (body.drop (body.length)).length = 0 from (by simp)] at hRV)
          have hz7 : we.heap.size ≤ w7.heap.size := hx7.size
          have cP := cell_later hx7 cP
          have k0 := cell_later hx7 k0
          have k1 := cell_later hx7 k1
          have k2 := cell_later hx7 k2
          have k3 := cell_later hx7 k3
          have b3 := cell_later hx7 b3
          have hrow7 := (PRowX.keep hrow hx7).keep (below0 w7).drew
          have hKp7 := (hKp.keep hx7).keep (below0 w7).drew
          have hKb7 := (hKb.keep hx7).keep (below0 w7).drew
          have hbv7 := (hbv.keep hx7).keep (below0 w7).drew
          have hRV7 := hRV.keep (below0 w7).drew
          have hrow := hrow7
          have hKp := hKp7
          have hKb := hKb7
          have hbv := hbv7
          have hRV := hRV7
          have hr := (hr.keep hx7).drew
          have hcur := (hcur.trans (Only.of_below hx7)).drew
          have hcw := (hcw.trans (Only.of_below hx7)).drew
          clear hx7 hb7 hg7 hf7
          go_region_held3 (fun w' => w'.cell? ⟨PB, 0, none⟩ = some (.slice (some ⟨ga, 0, none⟩) p.length Cp) ∧ w'.cell? ⟨wd.heap.size, 0, none⟩ = some (.int .i64 kd) ∧ w'.cell? ⟨wd.heap.size, 1, none⟩ = some (.int .i64 Q) ∧ w'.cell? ⟨wd.heap.size, 2, none⟩ = some (.slice A2 Kps.length C2) ∧ w'.cell? ⟨wd.heap.size, 3, none⟩ = some (.slice A3 Kbody.length C3))
            (first | go_keep | exact ⟨cP, k0, k1, k2, k3⟩)
            (first
              | (refine step_append_stmts rfl _ _ rfl V10 (.slice RA (0) RC) (body.take (body.length) ++ mk) (body.drop (body.length)) w7.heap.size rfl rfl h10 hRV.feed (by rw [List.length_append, List.length_take, List.length_drop]; omega) (by omega) ?_
                 intro V11 w11 h11 hg11 hb11 hf11
                 have cP := (hb11.cell (p := ⟨PB, _, none⟩) (show PB < w7.heap.size by omega)).trans cP
                 have k0 := (hb11.cell (p := ⟨wd.heap.size, _, none⟩) (show wd.heap.size < w7.heap.size by omega)).trans k0
                 have k1 := (hb11.cell (p := ⟨wd.heap.size, _, none⟩) (show wd.heap.size < w7.heap.size by omega)).trans k1
                 have k2 := (hb11.cell (p := ⟨wd.heap.size, _, none⟩) (show wd.heap.size < w7.heap.size by omega)).trans k2
                 have k3 := (hb11.cell (p := ⟨wd.heap.size, _, none⟩) (show wd.heap.size < w7.heap.size by omega)).trans k3
                 have b3 := (hb11.cell (p := ⟨ga, _, none⟩) (show ga < w7.heap.size by omega)).trans b3
                 have hrow := PRowX.pastB hrow7 hrow hb11 (Nat.le_refl _)
                 have hKp := Ints.pastB hKp7 hKp hb11 (Nat.le_refl _)
                 have hKb := Stmts.pastB hKb7 hKb hb11 (Nat.le_refl _)
                 have hr := hr.grown hg11 (fun k hk => by have := own_block_ge h10 k hk; omega)
                 have hcur := hcur.grow hg11 (fun k hk => by have := own_block_ge h10 k hk; simp only [World.size_alloc]; omega)
                 have hcw := hcw.grow hg11 (fun k hk => by have := own_block_ge h10 k hk; show wr.heap.size ≤ k; omega)
                 have hz11 : w7.heap.size ≤ w11.heap.size := Nat.le_trans hz10 hb11.size)
              | (refine step_append_stmts rfl _ _ rfl V8 V9 (body.take (body.length)) mk w7.heap.size rfl rfl h8 h9.feed (by rw [List.length_take]; omega) (by omega) ?_
                 intro V10 w10 h10 hg10 hb10 hf10
                 have cP := (hb10.cell (p := ⟨PB, _, none⟩) (show PB < w7.heap.size by omega)).trans cP
                 have k0 := (hb10.cell (p := ⟨wd.heap.size, _, none⟩) (show wd.heap.size < w7.heap.size by omega)).trans k0
                 have k1 := (hb10.cell (p := ⟨wd.heap.size, _, none⟩) (show wd.heap.size < w7.heap.size by omega)).trans k1
                 have k2 := (hb10.cell (p := ⟨wd.heap.size, _, none⟩) (show wd.heap.size < w7.heap.size by omega)).trans k2
                 have k3 := (hb10.cell (p := ⟨wd.heap.size, _, none⟩) (show wd.heap.size < w7.heap.size by omega)).trans k3
                 have b3 := (hb10.cell (p := ⟨ga, _, none⟩) (show ga < w7.heap.size by omega)).trans b3
                 have hrow := PRowX.pastB hrow7 hrow hb10 (Nat.le_refl _)
                 have hKp := Ints.pastB hKp7 hKp hb10 (Nat.le_refl _)
                 have hKb := Stmts.pastB hKb7 hKb hb10 (Nat.le_refl _)
                 have hRV := Stmts.pastB hRV7 hRV hb10 (Nat.le_refl _)
                 have hr := hr.grown hg10 (fun k hk => by have := own_block_ge h8 k hk; omega)
                 have hcur := hcur.grow hg10 (fun k hk => by have := own_block_ge h8 k hk; simp only [World.size_alloc]; omega)
                 have hcw := hcw.grow hg10 (fun k hk => by have := own_block_ge h8 k hk; show wr.heap.size ≤ k; omega)
                 have hz10 : w7.heap.size ≤ w10.heap.size := Nat.le_trans hz9 hb10.size)
              | (go_at_call 70
                 refine (S_making g _ ⟨kd, Q, Kps, Kbody⟩ _ _ p.length _ _ _ hr (by omega) hKp hKb).mono ?_
                 rintro e w9 ⟨V9, mk, rfl, h9, hm1, hm2, hm3, hr, ho⟩
                 have cP := cell_only ho cP (by omega)
                 have k0 := cell_only ho k0 (by omega)
                 have k1 := cell_only ho k1 (by omega)
                 have k2 := cell_only ho k2 (by omega)
                 have k3 := cell_only ho k3 (by omega)
                 have b3 := cell_only ho b3 (by omega)
                 have hrow := PRowX.only hrow ho (by omega)
                 have hKp := Ints.only hKp ho (by omega)
                 have hKb := Stmts.only hKb ho (by omega)
                 have hRV := Stmts.only hRV ho (by omega)
                 have h8 := Stmts.only h8 ho (by omega)
                 have hcur := hcur.trans ho
                 have hcw := hcw.trans ho
                 have hz9 : w7.heap.size ≤ w9.heap.size := Nat.le_trans hz8 ho.size
                 clear ho)
              | (refine step_append_stmts rfl _ _ rfl _ _ [] (body.take (body.length)) w7.heap.size rfl rfl (Stmts.zero rfl (Nat.le_refl _)) ((Stmts.upto_ hbv (body.length) _ (by omega)).keep al1) (by first | (simp; done) | (simp; omega)) (by simp) ?_
                 intro V8 w8 h8 hg8 hb8 hf8
                 have hx8 : Below w7.drew.heap.size w7.drew w8 := al1.trans hb8
                 rw [List.nil_append] at h8
                 have cP := cell_later hx8 cP
                 have k0 := cell_later hx8 k0
                 have k1 := cell_later hx8 k1
                 have k2 := cell_later hx8 k2
                 have k3 := cell_later hx8 k3
                 have b3 := cell_later hx8 b3
                 have hrow := PRowX.keep hrow hx8
                 have hKp := hKp.keep hx8
                 have hKb := hKb.keep hx8
                 have hRV := hRV.keep hx8
                 have hr := hr.keep hx8
                 have hcur := hcur.trans (Only.of_below hx8)
                 have hcw := hcw.trans (Only.of_below hx8)
                 have hz8 : w7.heap.size ≤ w8.heap.size := hx8.size))
          obtain ⟨A11, C11, rfl⟩ := h11.form
          obtain ⟨NB, hNB⟩ : ∃ NB : List St, NB = body.take (body.length) ++ mk ++ body.drop (body.length) := ⟨_, rfl⟩
          rw [← hNB] at h11
          have hNB1 : 1 ≤ NB.length := by rw [hNB, List.length_append, List.length_append]; omega
          have hNB5 : ∀ s ∈ NB, 0 ≤ s.to ∧ s.to ≤ 7 := fun s hs => by
            rw [hNB] at hs
            rcases List.mem_append.1 hs with h | h
            · rcases List.mem_append.1 h with h | h
              · exact HTOS.out s (List.mem_of_mem_take h)
              · exact hm3 s h
            · exact HTOS.out s (List.mem_of_mem_drop h)
          have HNB5 := Lib.hid hNB5
          have hbx : BoxP w11 PB (.slice (some ⟨ga, 0, none⟩) p.length Cp) := HBP.out.only (w := wr) (Only.trans (Only.refl g (g + 1) wr).drew hcw) (by omega)
          have hgaPB : ga ≠ PB := fun e => hne (by rw [← e]; rfl)
          have hfb : ∀ j, w11.frozen? ⟨PB, j, none⟩ = false := fun j => by rw [World.frozen?, hbx]; rfl
          rw [← hNB]
          have h12i : (12 : Int) < 13 := by omega
          clear hNB5 hNB
          by_cases h12 : NB.length ≤ 12
          · obtain ⟨ga3, Cp3, ea, _, _, _, _, _, hfz⟩ := PRowX.rd hrow hp1
            obtain ⟨rfl, rfl⟩ : ga = ga3 ∧ Cp = Cp3 := by simpa using ea
            have fb3 := hfz (Q * 4 + 3)
            have hrow12 := PRowX.setBody (PRowX.part hrow Q) hQ (h11.lo_ (lo' := w.heap.size + 1) (by omega)) (fun i hi _ => Apart.of_lt (PRowX.full hrow7 hi) (own_block_ge h11))
            have hKp12 := (Ints.set hKp (a := ⟨ga, Q * 4 + 3, none⟩) (show ga < wc.heap.size by omega) (.slice A11 NB.length C11)).lo_ (lo' := w.heap.size + 1) (by omega)
            have hKb12 := (Stmts.set hKb (a := ⟨ga, Q * 4 + 3, none⟩) (show ga < wc.heap.size by omega) (.slice A11 NB.length C11)).lo_ (lo' := w.heap.size + 1) (by omega)
            have hap12 : ∀ i, i < (p.set Q { p.getD Q default with body := NB }).length → Apart ((xs.set (Q * 4 + 3) (.slice A11 NB.length C11)).getD (i * 4 + 3) undef) (.slice A3 Kbody.length C3) := fun i hi => by
              rw [List.length_set] at hi
              by_cases e : i = Q
              · subst e
                rw [getD_set_eq _ _ _ _ (by have := hrow.own.1; omega)]
                exact fun r h1 h2 => by
                  have a1 := own_block_ge h11 r h1
                  have a2 : r < w7.heap.size := own_block_lt hKb7 r h2
                  omega
              · rw [getD_set_ne _ _ _ _ _ (by omega)]
                exact Apart.of_lt (PRowX.full hrowb hi) (fun r hr => by have := own_block_ge hKb r hr; omega)
            have hbx12 := hbx.other ⟨ga, Q * 4 + 3, none⟩ (.slice A11 NB.length C11) (fun e => hgaPB e.symm)
            have hz12 : w7.heap.size ≤ (w11.setCell ⟨ga, Q * 4 + 3, none⟩ (.slice A11 NB.length C11)).heap.size := by simpa using hz11
            have hr12 := hr.store (p := ⟨ga, Q * 4 + 3, none⟩) (show g < ga by omega) (.slice A11 NB.length C11)
            have hcur12 := hcur.store (p := ⟨ga, Q * 4 + 3, none⟩) (show _ ≤ ga by simp only [World.size_alloc]; omega) (.slice A11 NB.length C11)
            have hlen12 : (p.set Q { p.getD Q default with body := NB }).length = p.length := List.length_set
            have HNBL := Lib.hid h12
            clear hfz ea
            go_wp2_with (at_builtin; refine wpList_append_block rfl _ _ rfl (.slice (some ⟨ga, 0, none⟩) p.length Cp) (.slice A2 Kps.length C2) (.slice A3 Kbody.length C3) _ _ ⟨kd, Q, Kps, Kbody⟩ (w.heap.size + 1) w11.heap.size (by simp) rfl rfl hrow12 hKp12 hKb12 hap12 (by rw [hlen12]; omega) (by omega) ?_; intro NV w13 hrow13 hg13 hb13 hf13; obtain ⟨NA, NC, rfl⟩ := PRowX.form hrow13; have hbx13 := (hbx12.below (al1 (o := .cells (bkCells ⟨kd, Q, Kps, Kbody⟩ (.slice A2 Kps.length C2) (.slice A3 Kbody.length C3)).toArray 56)) (lt_of_block hbx12)).grown hg13 (fun e => hgaPB (Option.some.inj e).symm); have z1 := hbx13.cell; have z2 : ∀ j, w13.frozen? ⟨PB, j, none⟩ = false := fun j => by rw [World.frozen?, hbx13]; rfl)
            have el : (p.set Q { p.getD Q default with body := NB } ++ [(⟨kd, Q, Kps, Kbody⟩ : Bk)]).length = p.length + 1 := by rw [List.length_append, hlen12]; rfl
            have hV : Value.slice NA (p.set Q { p.getD Q default with body := NB } ++ [(⟨kd, Q, Kps, Kbody⟩ : Bk)]).length NC = .slice NA (p.length + 1) NC := by rw [el]
            have hrow14 : PRow w13 (w.heap.size + 1) (.slice NA (p.length + 1) NC) (xs.set (Q * 4 + 3) (.slice A11 NB.length C11) ++ bkCells ⟨kd, Q, Kps, Kbody⟩ (.slice A2 Kps.length C2) (.slice A3 Kbody.length C3)) (p.set Q { p.getD Q default with body := NB } ++ [(⟨kd, Q, Kps, Kbody⟩ : Bk)]) := by rw [← hV]; exact hrow13
            have hne14 : (Value.slice NA (p.length + 1) NC).ownBlock ≠ some PB := fun e => by
              rw [← hV] at e
              have hlt := lt_of_block hbx12
              rcases hf13 with h | ⟨gg, h, h'⟩
              · rw [e] at h
                exact hgaPB (Option.some.inj h).symm
              · rw [e] at h
                have := Option.some.inj h
                omega
            have hr14 := (hr12.keep (al1 (o := .cells (bkCells ⟨kd, Q, Kps, Kbody⟩ (.slice A2 Kps.length C2) (.slice A3 Kbody.length C3)).toArray 56))).grown hg13 (fun k hk => by have : ga = k := Option.some.inj hk; omega)
            have hcur14 := (hcur12.alloc (.cells (bkCells ⟨kd, Q, Kps, Kbody⟩ (.slice A2 Kps.length C2) (.slice A3 Kbody.length C3)).toArray 56)).grow hg13 (fun k hk => by have : ga = k := Option.some.inj hk; simp only [World.size_alloc]; omega)
            clear hrow13 hf13 hb13
            go_roundw
            case rel => exact ⟨r - 1, _, _, _, by go_num, by rw [el]; omega, Tame.add (Tame.setBody HT.out hQ hNB1 HNBL.out HNB5.out) hK4 (show Kbody.length ≤ 12 by omega) hK3 hQ0 (by rw [hlen12]; exact hQ1) HK6.out, BoxP.rows hrow14 hbx13 _, hbx13.set _, fun j => by simp [go_sem]; exact z2 j, by have := lt_of_block hbx13; simpa using this, hne14, (hr14.store (p := ⟨PB, 0, none⟩) (show g < PB by omega) _).mono (by omega), hcur14.store (p := ⟨PB, 0, none⟩) (show _ ≤ PB by simp only [World.size_alloc]; omega) _⟩
            case measure => simp [intOf]; omega
          · go_wp2
            go_roundw
            case rel => exact ⟨r - 1, _, xs, p, by go_num, by omega, HT.out, hrow, hbx, hfb, by have := lt_of_block hbx; omega, hne, hr.mono (by omega), hcur⟩
            case measure => simp [intOf]; omega
        · have hCT2 : T < Cb := by omega
          have hT0 : (0 : Int) ≤ ((T : Nat) : Int) := by omega
          have hTb : ((T : Nat) : Int) ≤ (body.length : Int) := by omega
          have hTc : ((T : Nat) : Int) ≤ (Cb : Int) := by omega
          go_wp2_with (at_builtin; refine wpList_append_stmts rfl _ _ rfl _ _ [] (body.drop (T)) we.heap.size rfl rfl (Stmts.zero rfl (Nat.le_refl _)) ((Stmts.from_ hbv (T) _ _ _ (by first | omega | (simp; done) | (simp; omega)) (by omega) (by first | omega | (simp; done) | (simp; omega))).keep al1) (by first | (simp; done) | (simp; omega)) (by simp) ?_; intro RV w7 hRV hg7 hb7 hf7; have hx7 : Below we.heap.size we w7 := al1.trans hb7; rw [List.nil_append] at hRV; obtain ⟨RA, RC, rfl⟩ := hRV.form; rw [show (body.drop (T)).length = body.length - (T) from List.length_drop] at hRV)
          have hz7 : we.heap.size ≤ w7.heap.size := hx7.size
          have cP := cell_later hx7 cP
          have k0 := cell_later hx7 k0
          have k1 := cell_later hx7 k1
          have k2 := cell_later hx7 k2
          have k3 := cell_later hx7 k3
          have b3 := cell_later hx7 b3
          have hrow7 := (PRowX.keep hrow hx7).keep (below0 w7).drew
          have hKp7 := (hKp.keep hx7).keep (below0 w7).drew
          have hKb7 := (hKb.keep hx7).keep (below0 w7).drew
          have hbv7 := (hbv.keep hx7).keep (below0 w7).drew
          have hRV7 := hRV.keep (below0 w7).drew
          have hrow := hrow7
          have hKp := hKp7
          have hKb := hKb7
          have hbv := hbv7
          have hRV := hRV7
          have hr := (hr.keep hx7).drew
          have hcur := (hcur.trans (Only.of_below hx7)).drew
          have hcw := (hcw.trans (Only.of_below hx7)).drew
          clear hx7 hb7 hg7 hf7
          go_region_held3 (fun w' => w'.cell? ⟨PB, 0, none⟩ = some (.slice (some ⟨ga, 0, none⟩) p.length Cp) ∧ w'.cell? ⟨wd.heap.size, 0, none⟩ = some (.int .i64 kd) ∧ w'.cell? ⟨wd.heap.size, 1, none⟩ = some (.int .i64 Q) ∧ w'.cell? ⟨wd.heap.size, 2, none⟩ = some (.slice A2 Kps.length C2) ∧ w'.cell? ⟨wd.heap.size, 3, none⟩ = some (.slice A3 Kbody.length C3))
            (first | go_keep | exact ⟨cP, k0, k1, k2, k3⟩)
            (first
              | (refine step_append_stmts rfl _ _ rfl V10 (.slice RA (body.length - (T)) RC) (body.take (T) ++ mk) (body.drop (T)) w7.heap.size rfl rfl h10 hRV.feed (by rw [List.length_append, List.length_take, List.length_drop]; omega) (by omega) ?_
                 intro V11 w11 h11 hg11 hb11 hf11
                 have cP := (hb11.cell (p := ⟨PB, _, none⟩) (show PB < w7.heap.size by omega)).trans cP
                 have k0 := (hb11.cell (p := ⟨wd.heap.size, _, none⟩) (show wd.heap.size < w7.heap.size by omega)).trans k0
                 have k1 := (hb11.cell (p := ⟨wd.heap.size, _, none⟩) (show wd.heap.size < w7.heap.size by omega)).trans k1
                 have k2 := (hb11.cell (p := ⟨wd.heap.size, _, none⟩) (show wd.heap.size < w7.heap.size by omega)).trans k2
                 have k3 := (hb11.cell (p := ⟨wd.heap.size, _, none⟩) (show wd.heap.size < w7.heap.size by omega)).trans k3
                 have b3 := (hb11.cell (p := ⟨ga, _, none⟩) (show ga < w7.heap.size by omega)).trans b3
                 have hrow := PRowX.pastB hrow7 hrow hb11 (Nat.le_refl _)
                 have hKp := Ints.pastB hKp7 hKp hb11 (Nat.le_refl _)
                 have hKb := Stmts.pastB hKb7 hKb hb11 (Nat.le_refl _)
                 have hr := hr.grown hg11 (fun k hk => by have := own_block_ge h10 k hk; omega)
                 have hcur := hcur.grow hg11 (fun k hk => by have := own_block_ge h10 k hk; simp only [World.size_alloc]; omega)
                 have hcw := hcw.grow hg11 (fun k hk => by have := own_block_ge h10 k hk; show wr.heap.size ≤ k; omega)
                 have hz11 : w7.heap.size ≤ w11.heap.size := Nat.le_trans hz10 hb11.size)
              | (refine step_append_stmts rfl _ _ rfl V8 V9 (body.take (T)) mk w7.heap.size rfl rfl h8 h9.feed (by rw [List.length_take]; omega) (by omega) ?_
                 intro V10 w10 h10 hg10 hb10 hf10
                 have cP := (hb10.cell (p := ⟨PB, _, none⟩) (show PB < w7.heap.size by omega)).trans cP
                 have k0 := (hb10.cell (p := ⟨wd.heap.size, _, none⟩) (show wd.heap.size < w7.heap.size by omega)).trans k0
                 have k1 := (hb10.cell (p := ⟨wd.heap.size, _, none⟩) (show wd.heap.size < w7.heap.size by omega)).trans k1
                 have k2 := (hb10.cell (p := ⟨wd.heap.size, _, none⟩) (show wd.heap.size < w7.heap.size by omega)).trans k2
                 have k3 := (hb10.cell (p := ⟨wd.heap.size, _, none⟩) (show wd.heap.size < w7.heap.size by omega)).trans k3
                 have b3 := (hb10.cell (p := ⟨ga, _, none⟩) (show ga < w7.heap.size by omega)).trans b3
                 have hrow := PRowX.pastB hrow7 hrow hb10 (Nat.le_refl _)
                 have hKp := Ints.pastB hKp7 hKp hb10 (Nat.le_refl _)
                 have hKb := Stmts.pastB hKb7 hKb hb10 (Nat.le_refl _)
                 have hRV := Stmts.pastB hRV7 hRV hb10 (Nat.le_refl _)
                 have hr := hr.grown hg10 (fun k hk => by have := own_block_ge h8 k hk; omega)
                 have hcur := hcur.grow hg10 (fun k hk => by have := own_block_ge h8 k hk; simp only [World.size_alloc]; omega)
                 have hcw := hcw.grow hg10 (fun k hk => by have := own_block_ge h8 k hk; show wr.heap.size ≤ k; omega)
                 have hz10 : w7.heap.size ≤ w10.heap.size := Nat.le_trans hz9 hb10.size)
              | (go_at_call 70
                 refine (S_making g _ ⟨kd, Q, Kps, Kbody⟩ _ _ p.length _ _ _ hr (by omega) hKp hKb).mono ?_
                 rintro e w9 ⟨V9, mk, rfl, h9, hm1, hm2, hm3, hr, ho⟩
                 have cP := cell_only ho cP (by omega)
                 have k0 := cell_only ho k0 (by omega)
                 have k1 := cell_only ho k1 (by omega)
                 have k2 := cell_only ho k2 (by omega)
                 have k3 := cell_only ho k3 (by omega)
                 have b3 := cell_only ho b3 (by omega)
                 have hrow := PRowX.only hrow ho (by omega)
                 have hKp := Ints.only hKp ho (by omega)
                 have hKb := Stmts.only hKb ho (by omega)
                 have hRV := Stmts.only hRV ho (by omega)
                 have h8 := Stmts.only h8 ho (by omega)
                 have hcur := hcur.trans ho
                 have hcw := hcw.trans ho
                 have hz9 : w7.heap.size ≤ w9.heap.size := Nat.le_trans hz8 ho.size
                 clear ho)
              | (refine step_append_stmts rfl _ _ rfl _ _ [] (body.take (T)) w7.heap.size rfl rfl (Stmts.zero rfl (Nat.le_refl _)) ((Stmts.upto_ hbv (T) _ (by omega)).keep al1) (by first | (simp; done) | (simp; omega)) (by simp) ?_
                 intro V8 w8 h8 hg8 hb8 hf8
                 have hx8 : Below w7.drew.heap.size w7.drew w8 := al1.trans hb8
                 rw [List.nil_append] at h8
                 have cP := cell_later hx8 cP
                 have k0 := cell_later hx8 k0
                 have k1 := cell_later hx8 k1
                 have k2 := cell_later hx8 k2
                 have k3 := cell_later hx8 k3
                 have b3 := cell_later hx8 b3
                 have hrow := PRowX.keep hrow hx8
                 have hKp := hKp.keep hx8
                 have hKb := hKb.keep hx8
                 have hRV := hRV.keep hx8
                 have hr := hr.keep hx8
                 have hcur := hcur.trans (Only.of_below hx8)
                 have hcw := hcw.trans (Only.of_below hx8)
                 have hz8 : w7.heap.size ≤ w8.heap.size := hx8.size))
          obtain ⟨A11, C11, rfl⟩ := h11.form
          obtain ⟨NB, hNB⟩ : ∃ NB : List St, NB = body.take (T) ++ mk ++ body.drop (T) := ⟨_, rfl⟩
          rw [← hNB] at h11
          have hNB1 : 1 ≤ NB.length := by rw [hNB, List.length_append, List.length_append]; omega
          have hNB5 : ∀ s ∈ NB, 0 ≤ s.to ∧ s.to ≤ 7 := fun s hs => by
            rw [hNB] at hs
            rcases List.mem_append.1 hs with h | h
            · rcases List.mem_append.1 h with h | h
              · exact HTOS.out s (List.mem_of_mem_take h)
              · exact hm3 s h
            · exact HTOS.out s (List.mem_of_mem_drop h)
          have HNB5 := Lib.hid hNB5
          have hbx : BoxP w11 PB (.slice (some ⟨ga, 0, none⟩) p.length Cp) := HBP.out.only (w := wr) (Only.trans (Only.refl g (g + 1) wr).drew hcw) (by omega)
          have hgaPB : ga ≠ PB := fun e => hne (by rw [← e]; rfl)
          have hfb : ∀ j, w11.frozen? ⟨PB, j, none⟩ = false := fun j => by rw [World.frozen?, hbx]; rfl
          rw [← hNB]
          have h12i : (12 : Int) < 13 := by omega
          clear hNB5 hNB
          by_cases h12 : NB.length ≤ 12
          · obtain ⟨ga3, Cp3, ea, _, _, _, _, _, hfz⟩ := PRowX.rd hrow hp1
            obtain ⟨rfl, rfl⟩ : ga = ga3 ∧ Cp = Cp3 := by simpa using ea
            have fb3 := hfz (Q * 4 + 3)
            have hrow12 := PRowX.setBody (PRowX.part hrow Q) hQ (h11.lo_ (lo' := w.heap.size + 1) (by omega)) (fun i hi _ => Apart.of_lt (PRowX.full hrow7 hi) (own_block_ge h11))
            have hKp12 := (Ints.set hKp (a := ⟨ga, Q * 4 + 3, none⟩) (show ga < wc.heap.size by omega) (.slice A11 NB.length C11)).lo_ (lo' := w.heap.size + 1) (by omega)
            have hKb12 := (Stmts.set hKb (a := ⟨ga, Q * 4 + 3, none⟩) (show ga < wc.heap.size by omega) (.slice A11 NB.length C11)).lo_ (lo' := w.heap.size + 1) (by omega)
            have hap12 : ∀ i, i < (p.set Q { p.getD Q default with body := NB }).length → Apart ((xs.set (Q * 4 + 3) (.slice A11 NB.length C11)).getD (i * 4 + 3) undef) (.slice A3 Kbody.length C3) := fun i hi => by
              rw [List.length_set] at hi
              by_cases e : i = Q
              · subst e
                rw [getD_set_eq _ _ _ _ (by have := hrow.own.1; omega)]
                exact fun r h1 h2 => by
                  have a1 := own_block_ge h11 r h1
                  have a2 : r < w7.heap.size := own_block_lt hKb7 r h2
                  omega
              · rw [getD_set_ne _ _ _ _ _ (by omega)]
                exact Apart.of_lt (PRowX.full hrowb hi) (fun r hr => by have := own_block_ge hKb r hr; omega)
            have hbx12 := hbx.other ⟨ga, Q * 4 + 3, none⟩ (.slice A11 NB.length C11) (fun e => hgaPB e.symm)
            have hz12 : w7.heap.size ≤ (w11.setCell ⟨ga, Q * 4 + 3, none⟩ (.slice A11 NB.length C11)).heap.size := by simpa using hz11
            have hr12 := hr.store (p := ⟨ga, Q * 4 + 3, none⟩) (show g < ga by omega) (.slice A11 NB.length C11)
            have hcur12 := hcur.store (p := ⟨ga, Q * 4 + 3, none⟩) (show _ ≤ ga by simp only [World.size_alloc]; omega) (.slice A11 NB.length C11)
            have hlen12 : (p.set Q { p.getD Q default with body := NB }).length = p.length := List.length_set
            have HNBL := Lib.hid h12
            clear hfz ea
            go_wp2_with (at_builtin; refine wpList_append_block rfl _ _ rfl (.slice (some ⟨ga, 0, none⟩) p.length Cp) (.slice A2 Kps.length C2) (.slice A3 Kbody.length C3) _ _ ⟨kd, Q, Kps, Kbody⟩ (w.heap.size + 1) w11.heap.size (by simp) rfl rfl hrow12 hKp12 hKb12 hap12 (by rw [hlen12]; omega) (by omega) ?_; intro NV w13 hrow13 hg13 hb13 hf13; obtain ⟨NA, NC, rfl⟩ := PRowX.form hrow13; have hbx13 := (hbx12.below (al1 (o := .cells (bkCells ⟨kd, Q, Kps, Kbody⟩ (.slice A2 Kps.length C2) (.slice A3 Kbody.length C3)).toArray 56)) (lt_of_block hbx12)).grown hg13 (fun e => hgaPB (Option.some.inj e).symm); have z1 := hbx13.cell; have z2 : ∀ j, w13.frozen? ⟨PB, j, none⟩ = false := fun j => by rw [World.frozen?, hbx13]; rfl)
            have el : (p.set Q { p.getD Q default with body := NB } ++ [(⟨kd, Q, Kps, Kbody⟩ : Bk)]).length = p.length + 1 := by rw [List.length_append, hlen12]; rfl
            have hV : Value.slice NA (p.set Q { p.getD Q default with body := NB } ++ [(⟨kd, Q, Kps, Kbody⟩ : Bk)]).length NC = .slice NA (p.length + 1) NC := by rw [el]
            have hrow14 : PRow w13 (w.heap.size + 1) (.slice NA (p.length + 1) NC) (xs.set (Q * 4 + 3) (.slice A11 NB.length C11) ++ bkCells ⟨kd, Q, Kps, Kbody⟩ (.slice A2 Kps.length C2) (.slice A3 Kbody.length C3)) (p.set Q { p.getD Q default with body := NB } ++ [(⟨kd, Q, Kps, Kbody⟩ : Bk)]) := by rw [← hV]; exact hrow13
            have hne14 : (Value.slice NA (p.length + 1) NC).ownBlock ≠ some PB := fun e => by
              rw [← hV] at e
              have hlt := lt_of_block hbx12
              rcases hf13 with h | ⟨gg, h, h'⟩
              · rw [e] at h
                exact hgaPB (Option.some.inj h).symm
              · rw [e] at h
                have := Option.some.inj h
                omega
            have hr14 := (hr12.keep (al1 (o := .cells (bkCells ⟨kd, Q, Kps, Kbody⟩ (.slice A2 Kps.length C2) (.slice A3 Kbody.length C3)).toArray 56))).grown hg13 (fun k hk => by have : ga = k := Option.some.inj hk; omega)
            have hcur14 := (hcur12.alloc (.cells (bkCells ⟨kd, Q, Kps, Kbody⟩ (.slice A2 Kps.length C2) (.slice A3 Kbody.length C3)).toArray 56)).grow hg13 (fun k hk => by have : ga = k := Option.some.inj hk; simp only [World.size_alloc]; omega)
            clear hrow13 hf13 hb13
            go_roundw
            case rel => exact ⟨r - 1, _, _, _, by go_num, by rw [el]; omega, Tame.add (Tame.setBody HT.out hQ hNB1 HNBL.out HNB5.out) hK4 (show Kbody.length ≤ 12 by omega) hK3 hQ0 (by rw [hlen12]; exact hQ1) HK6.out, BoxP.rows hrow14 hbx13 _, hbx13.set _, fun j => by simp [go_sem]; exact z2 j, by have := lt_of_block hbx13; simpa using this, hne14, (hr14.store (p := ⟨PB, 0, none⟩) (show g < PB by omega) _).mono (by omega), hcur14.store (p := ⟨PB, 0, none⟩) (show _ ≤ PB by simp only [World.size_alloc]; omega) _⟩
            case measure => simp [intOf]; omega
          · go_wp2
            go_roundw
            case rel => exact ⟨r - 1, _, xs, p, by go_num, by omega, HT.out, hrow, hbx, hfb, by have := lt_of_block hbx; omega, hne, hr.mono (by omega), hcur⟩
            case measure => simp [intOf]; omega
    · obtain rfl : r = 0 := by omega
      have cP := cP
      have r1 := fun o => (ocell hcur).1 w.heap.size o (by omega) (by simp)
      have m1 := fun o => (ocell hcur).2 w.heap.size o (by omega) (by simp)
      obtain ⟨pA, pC, rfl⟩ := PRowX.form hrow
      go_wp2
      exact bodyPost_ret (v := .agg #[.slice pA p.length pC]) (by simp [results, Try.results31, go_sem, r1]) rfl
        ⟨_, xs, p, rfl, (PRowX.only hrow ((Only.refl w.heap.size (w.heap.size + 1) wr).setCell (Nat.le_refl _) (Nat.lt_succ_self _) _) (Nat.le_refl _)).lo_ (by omega), hT, by omega, (hr.store (p := ⟨w.heap.size, 0, none⟩) hgl _).mono (by omega), ((Only.of_below al1).trans hcur).store (Nat.le_refl _) _⟩

end Go.Proofs.Ytiemhadpepbcjaa

namespace Go.Proofs.Ytiemhadpepbcjaa
open Go.RowKit
set_option linter.unusedVariables false

theorem Tame.weak {p : Pr} (h : Tame p) (hl : p.length ≤ 7) : Weak p := by
  have e : ∀ b : Int, 0 ≤ b → p.bk b = p.getD b.toNat default := fun b _ => rfl
  refine ⟨⟨h.len, hl⟩, fun b h0 h1 => ?_, fun b h0 h1 => ?_, fun b h0 h1 => ?_, ?_⟩
  · rw [e b h0]; exact (h.body _ (by omega)).2
  · rw [e b h0]; exact h.params _ (by omega)
  · have := h.par b.toNat (by omega) (by omega)
    rw [e b (by omega)]
    omega
  · exact h.par0
/-- A statement that goodProgram leaves out. -/
def badS (p : Pr) (b : Int) (s : St) : Bool :=
  (s.kind == 10 && (decide (outerF p b s.to < 0) || hasF (p.bk b).params s.to)) || (s.kind == 9 && (hasF (p.bk b).params s.to || hasF (declF p b 10) s.to))

def Tos (p : Pr) : Prop := ∀ i, i < p.length → ∀ s ∈ (p.getD i default).body, 0 ≤ s.to ∧ s.to ≤ 7
theorem Weak.setBody {p : Pr} (h : Weak p) {k : Nat} (hk : k < p.length) {l : List St} (h2 : l.length ≤ 12) : Weak (p.set k { p.getD k default with body := l }) := by
  have hl : (p.set k { p.getD k default with body := l }).length = p.length := List.length_set
  have e : ∀ b : Int, 0 ≤ b → b < p.length → (Pr.bk (p.set k { p.getD k default with body := l }) b) = if b.toNat = k then { p.getD k default with body := l } else p.bk b := fun b h0 h1 => by
    show (p.set k { p.getD k default with body := l }).getD b.toNat default = _
    by_cases q : b.toNat = k
    · rw [if_pos q, q, getD_set_eq _ _ _ _ hk]
    · rw [if_neg q, getD_set_ne _ _ _ _ _ q]; rfl
  have hkb : p.getD k default = p.bk (k : Int) := by show _ = p.getD (k : Int).toNat default; rw [Int.toNat_natCast]
  refine ⟨by rw [hl]; exact h.len, fun b h0 h1 => ?_, fun b h0 h1 => ?_, fun b h0 h1 => ?_, ?_⟩
  · rw [hl] at h1; rw [e b h0 h1]; split; exact h2; exact h.body b h0 h1
  · rw [hl] at h1; rw [e b h0 h1]; split; rw [hkb]; exact h.params k (by omega) (by omega); exact h.params b h0 h1
  · rw [hl] at h1
    rw [e b (by omega) h1]
    by_cases q : b.toNat = k
    · rw [if_pos q]
      have := h.par b h0 h1
      rw [hkb, show (k : Int) = b by omega]
      exact this
    · rw [if_neg q]; exact h.par b h0 h1
  · have hl1 := h.len
    rw [e 0 (by omega) (by omega)]
    by_cases q : (0 : Int).toNat = k
    · rw [if_pos q, hkb, show (k : Int) = 0 by omega]; exact h.par0
    · rw [if_neg q]; exact h.par0
theorem Tos.setBody {p : Pr} (h : Tos p) {k : Nat} (hk : k < p.length) {l : List St} (h5 : ∀ s ∈ l, 0 ≤ s.to ∧ s.to ≤ 7) : Tos (p.set k { p.getD k default with body := l }) := by
  intro i hi
  rw [List.length_set] at hi
  by_cases q : i = k
  · subst q; rw [getD_set_eq _ _ _ _ hk]; exact h5
  · rw [getD_set_ne _ _ _ _ _ q]; exact h i hi
theorem bareP_at (p : Pr) (i : Nat) : (bareP p).getD i default = bareB (p.getD i default) := by
  unfold bareP
  simp only [List.getD, List.getElem?_map]
  cases p[i]? <;> rfl
theorem Weak.bare {p : Pr} (h : Weak p) : Weak (bareP p) := by
  have hl : (bareP p).length = p.length := by unfold bareP; rw [List.length_map]
  have e : ∀ b : Int, (bareP p).bk b = bareB (p.bk b) := fun b => bareP_at p b.toNat
  refine ⟨by rw [hl]; exact h.len, fun b h0 h1 => ?_, fun b h0 h1 => ?_, fun b h0 h1 => ?_, ?_⟩
  · rw [hl] at h1; rw [e]; exact Nat.le_trans (List.length_filter_le _ _) (h.body b h0 h1)
  · rw [hl] at h1; rw [e]; exact h.params b h0 h1
  · rw [hl] at h1; rw [e]; exact h.par b h0 h1
  · rw [e]; exact h.par0

set_option maxRecDepth 100000 in
set_option maxHeartbeats 16000000 in
theorem S_goodProgram (g m : Nat) (w : World) (h : Rdr w g m) (hm : m ≤ 690000) :
    Calls Try.prog 71 #[.pointer (some ⟨g, 0, none⟩)] w fun e w' => ∃ (sl : Value) (xs : List Value) (p : Pr), e = .returned (.agg #[sl]) ∧ PRow w' w.heap.size sl xs p ∧ Weak p ∧ Rdr w' g (m + 500) ∧ Only g (g + 1) w w' := by
  have hgl : g < w.heap.size := h.lt
  have hr := h.keep (al1 (o := (.cells #[.slice none 0 0] 25)))
  have hcur := Only.refl g (g + 1) (w.alloc (.cells #[.slice none 0 0] 25))
  clear h
  go_enter Try.func71, Try.ntmps71
  go_wp2_with fail
  refine (S_shapedProgram g _ _ hr (by omega)).mono ?_
  rintro e w1 ⟨sl, xs0, p0, rfl, hrow, hT, hpl, hr, ho⟩
  have hcur := hcur.trans ho
  have hsz1 : w.heap.size + 1 ≤ w1.heap.size := by have := ho.size; simpa using this
  have hwk := hT.weak (by omega)
  have htos : Tos p0 := hT.tos
  have hp1 := hT.len
  simp only [World.size_alloc] at hrow
  obtain ⟨ga, Cp, rfl, _, hCp, hga1, hga2, _, _⟩ := PRowX.rd hrow hp1
  unfold maxLen at hCp
  obtain ⟨n0, hn0⟩ : ∃ n0 : Nat, n0 = p0.length := ⟨_, rfl⟩
  rw [← hn0] at hrow hp1 hpl ⊢
  have hrow := PRowX.keep hrow (al1 (o := .cells #[.slice (some ⟨ga, 0, none⟩) n0 Cp] 25))
  have hcur := hcur.alloc (.cells #[.slice (some ⟨ga, 0, none⟩) n0 Cp] 25)
  have hr := hr.keep (al1 (o := .cells #[.slice (some ⟨ga, 0, none⟩) n0 Cp] 25))
  have bP : BoxP (w1.alloc (.cells #[.slice (some ⟨ga, 0, none⟩) n0 Cp] 25)) w1.heap.size (.slice (some ⟨ga, 0, none⟩) n0 Cp) := BoxP.new rfl _
  obtain ⟨PB, hPB⟩ : ∃ PB : Nat, PB = w1.heap.size := ⟨_, rfl⟩
  have hPB1 : w.heap.size + 1 ≤ PB := by omega
  have hgaPB : ga < PB := by omega
  have hgal : w.heap.size + 1 ≤ ga := hga1
  rw [← hPB] at bP
  have HN := Lib.hid hn0
  clear hn0
  go_wp2
  rw [← hPB]
  clear hPB hsz1 ho hga1 hga2 hT
  go_loopw [4] (fun i wr => ∃ (b : Nat) (xs : List Value) (p : Pr), i = .int .i64 b ∧ 1 ≤ b ∧ (b ≤ n0 ∨ b = 1) ∧ p.length = n0 ∧ Weak p ∧ Tos p ∧ PRow wr (w.heap.size + 1) (.slice (some ⟨ga, 0, none⟩) n0 Cp) xs p ∧ BoxP wr PB (.slice (some ⟨ga, 0, none⟩) n0 Cp) ∧ Rdr wr g (m + 500) ∧ Only g (g + 1) (w.alloc (.cells #[.slice none 0 0] 25)) wr) (fun i _ => n0 - (intOf i).toNat)
  case atStart => exact ⟨1, xs0, p0, rfl, Nat.le_refl _, .inr rfl, HN.out.symm, hwk, htos, by rw [HN.out] at hrow ⊢; exact hrow, bP, hr, hcur⟩
  case round =>
    clear hrow bP hr hcur hwk htos
    obtain ⟨b, xs, p, rfl, hb1, hb2, hpn, hwk, htos, hrow, bP, hr, hcur⟩ := hrel
    have cP := bP.cell
    have hblk : Blks wr (w.heap.size + 1) (.slice (some ⟨ga, 0, none⟩) n0 Cp) p := PRowX.blks hrow
    by_cases hlt : b < n0
    · cases hvp : validP p
      · have HVP := Lib.hid hvp
        clear hvp
        go_wp2_with fail
        refine (S_validProgram _ p _ _ hblk).mono ?_
        rintro e wz ⟨rfl, hbz⟩
        rw [HVP.out]
        have hrow := PRowX.keep hrow hbz
        have bP := bP.below hbz (lt_of_block bP)
        have cP := bP.cell
        have hr := hr.keep hbz
        have hcur := hcur.trans (Only.of_below hbz)
        have zP := lt_of_block bP
        have hbp : b < p.length := by omega
        obtain ⟨ga2, Cp2, ea, _, _, _, hgz, hcell, hfzz⟩ := PRowX.rd hrow (by omega)
        obtain ⟨rfl, -, rfl⟩ : ga = ga2 ∧ n0 = p.length ∧ Cp = Cp2 := by simpa using ea
        have b2 := hcell (b * 4 + 2) (by omega)
        have b3 := hcell (b * 4 + 3) (by omega)
        have f3 := hfzz (b * 4 + 3)
        have hpv := hrow.pars b hbp
        have hbv := PRowX.full hrow hbp
        have hto := htos b hbp
        have hblen := hwk.body b (by omega) (by omega)
        have hplen := hwk.params b (by omega) (by omega)
        have ebk : p.bk (b : Int) = p.getD b default := by show p.getD (b : Int).toNat default = _; rw [Int.toNat_natCast]
        rw [ebk] at hblen hplen
        generalize xs.getD (b * 4 + 2) undef = PV at b2 hpv
        obtain ⟨ps, hps⟩ : ∃ ps : List Int, ps = (p.getD b default).params := ⟨_, rfl⟩
        rw [← hps] at hpv hplen
        clear hps
        obtain ⟨BV, hBV⟩ : ∃ BV : Value, BV = xs.getD (b * 4 + 3) undef := ⟨_, rfl⟩
        rw [← hBV] at b3 hbv
        obtain ⟨A2, C2, rfl⟩ := hpv.form
        obtain ⟨A3, C3, g3, e3, hn3, hc3, hA3, hg3, hst, _⟩ := hbv.rd
        subst e3
        obtain ⟨body, hbody⟩ : ∃ body : List St, body = (p.getD b default).body := ⟨_, rfl⟩
        rw [← hbody] at b3 hbv hn3 hA3 hg3 hst hto hblen
        have HST := Lib.hid hst
        have HTO := Lib.hid hto
        have hbi0 : (0 : Int) ≤ (b : Int) := by omega
        have hbi1 : (b : Int) < (n0 : Int) := by omega
        have HROW := Lib.hid hrow
        have HBK := Lib.hid ebk
        have HR := Lib.hid hr
        have HCUR := Lib.hid hcur
        have HBODY := Lib.hid hbody
        unfold maxLen at hc3
        clear hblk hrow hst hto hcell hfzz ebk ea hbody hBV hr hcur
        go_wp2
        go_loopw [5, 6] (fun q i wi => ∃ (j : Nat) (l : List St), j ≤ body.length ∧ i = .int .i64 j ∧ Stmts wi wz.heap.size q l ∧ l.length ≤ j ∧ (∀ s ∈ l, 0 ≤ s.to ∧ s.to ≤ 7) ∧ Below wz.heap.size wz wi) (fun _ i _ => body.length - (intOf i).toNat)
        case atStart => exact ⟨0, [], Nat.zero_le _, rfl, Stmts.zero rfl (Nat.le_refl _), by simp, by simp, al1⟩
        case round =>
          obtain ⟨j, l, hj, rfl, hq, hlj, hlt2, hBi⟩ := hrel
          have cPi := cell_later hBi cP
          have b2i := cell_later hBi b2
          have b3i := cell_later hBi b3
          have HLT2 := Lib.hid hlt2
          clear hlt2
          by_cases hjl : j < body.length
          · obtain ⟨s0, s1, s2, s3⟩ := HST.out j hjl
            have hg3l := (hg3 (by omega)).2
            have s0 := cell_later hBi s0
            have s1 := cell_later hBi s1
            have s2 := cell_later hBi s2
            have s3 := cell_later hBi s3
            obtain rfl := hA3 (by omega)
            have hj0 : (0 : Int) ≤ (j : Int) := by omega
            have hj1 : (j : Int) < (body.length : Int) := by omega
            have hsto : 0 ≤ (body.getD j default).to ∧ (body.getD j default).to ≤ 7 := HTO.out _ (by rw [show body.getD j default = body[j] by simp [List.getD, hjl]]; exact List.getElem_mem _)
            obtain ⟨s, hs⟩ : ∃ s : St, s = body.getD j default := ⟨_, rfl⟩
            rw [← hs] at s0 s1 s2 s3 hsto
            obtain ⟨sk, st, sa, sb⟩ := s
            have hx := (al1 (w := wr) (o := .cells #[.int .i64 sk, .int .i64 st, .int .i64 sa, .int .i64 sb] 60)).drew
            have cP := cell_later hx cPi
            have b2 := cell_later hx b2i
            have q0 : (wr.alloc (.cells #[.int .i64 sk, .int .i64 st, .int .i64 sa, .int .i64 sb] 60)).drew.cell? ⟨wr.heap.size, 0, none⟩ = some (.int .i64 sk) := by simp [go_sem]
            have q1 : (wr.alloc (.cells #[.int .i64 sk, .int .i64 st, .int .i64 sa, .int .i64 sb] 60)).drew.cell? ⟨wr.heap.size, 1, none⟩ = some (.int .i64 st) := by simp [go_sem]
            have q2 : (wr.alloc (.cells #[.int .i64 sk, .int .i64 st, .int .i64 sa, .int .i64 sb] 60)).drew.cell? ⟨wr.heap.size, 2, none⟩ = some (.int .i64 sa) := by simp [go_sem]
            have q3 : (wr.alloc (.cells #[.int .i64 sk, .int .i64 st, .int .i64 sa, .int .i64 sb] 60)).drew.cell? ⟨wr.heap.size, 3, none⟩ = some (.int .i64 sb) := by simp [go_sem]
            have hB5 := bthen hBi hx
            have hrow5 := PRowX.keep HROW.out hB5
            have hpv5 := hpv.keep hB5
            have hq5 := hq.keep hx
            have hsz5 : wr.heap.size < (wr.alloc (.cells #[.int .i64 sk, .int .i64 st, .int .i64 sa, .int .i64 sb] 60)).drew.heap.size := by show _ < (wr.alloc _).heap.size; simp
            have HQ := Lib.hid hq
            have HBX := Lib.hid hBi
            clear hs hA3 hg3 hq hBi hx b2i
            by_cases hk10 : sk = 10
            · subst hk10
              rcases outerF_cases p b st (by omega) with hRn | hRn
              · have HRN := Lib.hid hRn
                clear hRn
                go_wp2
                have hS := And.intro cP (And.intro q0 (And.intro q1 b2))
                refine wp_region_T 47 (by kernel_rfl) (fun w' => w'.cell? ⟨PB, 0, none⟩ = some (.slice (some ⟨ga, 0, none⟩) n0 Cp) ∧ w'.cell? ⟨wr.heap.size, 0, none⟩ = some (.int .i64 10) ∧ w'.cell? ⟨wr.heap.size, 1, none⟩ = some (.int .i64 st) ∧ w'.cell? ⟨ga, b * 4 + 2, none⟩ = some (.slice A2 ps.length C2)) ?_
                refine wpAnyT_take (i := 0) (oi := ⟨_, _, _, _, _, _⟩) (v := ?vr1_0) (by kernel_rfl) (by decide) rfl (by kernel_rfl) (by kernel_rfl) (by kernel_rfl) (fun _ _ _ h => h) (Or.inl ⟨by rfl, ?hyr1_0⟩) hS ?restr1_0
                case hyr1_0 =>
                  intro w' hSw
                  obtain ⟨s0, s1, s2, s3⟩ := hSw
                  go_simp
                  try with_reducible rfl
                try simp only [Act.put, List.setIfInBounds_toArray, List.set_cons_zero, List.set_cons_succ]
                refine wpAnyT_take (i := 1) (oi := ⟨_, _, _, _, _, _⟩) (v := ?vr1_1) (by kernel_rfl) (by decide) rfl (by kernel_rfl) (by kernel_rfl) (by kernel_rfl) (fun _ _ _ h => h) (Or.inl ⟨by rfl, ?hyr1_1⟩) hS ?restr1_1
                case hyr1_1 =>
                  intro w' hSw
                  obtain ⟨s0, s1, s2, s3⟩ := hSw
                  go_simp
                  try with_reducible rfl
                try simp only [Act.put, List.setIfInBounds_toArray, List.set_cons_zero, List.set_cons_succ]
                refine wpAnyT_take (i := 2) (oi := ⟨_, _, _, _, _, _⟩) (v := ?vr1_2) (by kernel_rfl) (by decide) rfl (by kernel_rfl) (by kernel_rfl) (by kernel_rfl) (fun _ _ _ h => h) (Or.inl ⟨by rfl, ?hyr1_2⟩) hS ?restr1_2
                case hyr1_2 =>
                  intro w' hSw
                  obtain ⟨s0, s1, s2, s3⟩ := hSw
                  go_simp
                  try with_reducible rfl
                try simp only [Act.put, List.setIfInBounds_toArray, List.set_cons_zero, List.set_cons_succ]
                refine wpAnyT_take (i := 3) (oi := ⟨_, _, _, _, _, _⟩) (v := ?vr1_3) (by kernel_rfl) (by decide) rfl (by kernel_rfl) (by kernel_rfl) (by kernel_rfl) (fun _ _ _ h => h) (Or.inl ⟨by rfl, ?hyr1_3⟩) hS ?restr1_3
                case hyr1_3 =>
                  intro w' hSw
                  obtain ⟨s0, s1, s2, s3⟩ := hSw
                  go_simp
                  try with_reducible rfl
                try simp only [Act.put, List.setIfInBounds_toArray, List.set_cons_zero, List.set_cons_succ]
                refine wpAnyT_take (i := 4) (oi := ⟨_, _, _, _, _, _⟩) (v := ?vr1_4) (by kernel_rfl) (by decide) rfl (by kernel_rfl) (by kernel_rfl) (by kernel_rfl) (fun _ _ _ h => h) (Or.inl ⟨by rfl, ?hyr1_4⟩) hS ?restr1_4
                case hyr1_4 =>
                  intro w' hSw
                  obtain ⟨s0, s1, s2, s3⟩ := hSw
                  go_simp
                  try with_reducible rfl
                try simp only [Act.put, List.setIfInBounds_toArray, List.set_cons_zero, List.set_cons_succ]
                refine wpAnyT_take (i := 5) (oi := ⟨_, _, _, _, _, _⟩) (v := ?vr1_5) (by kernel_rfl) (by decide) rfl (by kernel_rfl) (by kernel_rfl) (by kernel_rfl) (fun _ _ _ h => h) (Or.inl ⟨by rfl, ?hyr1_5⟩) hS ?restr1_5
                case hyr1_5 =>
                  intro w' hSw
                  obtain ⟨s0, s1, s2, s3⟩ := hSw
                  go_simp
                  try with_reducible rfl
                try simp only [Act.put, List.setIfInBounds_toArray, List.set_cons_zero, List.set_cons_succ]
                refine wpAnyT_take (i := 6) (oi := ⟨_, _, _, _, _, _⟩) (v := ?vr1_6) (by kernel_rfl) (by decide) rfl (by kernel_rfl) (by kernel_rfl) (by kernel_rfl) (fun _ _ _ h => h) (Or.inl ⟨by rfl, ?hyr1_6⟩) hS ?restr1_6
                case hyr1_6 =>
                  intro w' hSw
                  obtain ⟨s0, s1, s2, s3⟩ := hSw
                  go_simp
                  try with_reducible rfl
                try simp only [Act.put, List.setIfInBounds_toArray, List.set_cons_zero, List.set_cons_succ]
                refine wpAnyT_take (i := 7) (oi := ⟨_, _, _, _, _, _⟩) (v := ?vr1_7) (by kernel_rfl) (by decide) rfl (by kernel_rfl) (by kernel_rfl) (by kernel_rfl) (fun _ _ _ h => h) (Or.inl ⟨by rfl, ?hyr1_7⟩) hS ?restr1_7
                case hyr1_7 =>
                  intro w' hSw
                  obtain ⟨s0, s1, s2, s3⟩ := hSw
                  go_simp
                  try with_reducible rfl
                try simp only [Act.put, List.setIfInBounds_toArray, List.set_cons_zero, List.set_cons_succ]
                refine wpAnyT_ready1 (i := 8) (o := ⟨_, _, _, _, _, _⟩) (by kernel_rfl) rfl (fun K hK => ?_)
                go_simp
                go_at_call 78
                refine (S_outerW _ p (w.heap.size + 1) b st _ (PRowX.blks hrow5) hwk (by omega) (by omega) hsto.1 hsto.2).mono ?_
                rintro e wu ⟨rfl, hbu⟩
                rw [HRN.out]
                have cP := cell_later hbu cP
                have b2 := cell_later hbu b2
                have q0 := cell_later hbu q0
                have q1 := cell_later hbu q1
                have q2 := cell_later hbu q2
                have q3 := cell_later hbu q3
                have hB5 := bthen hB5 hbu
                have hrow5 := PRowX.keep hrow5 hbu
                have hpv5 := hpv5.keep hbu
                have hq5 := hq5.keep hbu
                have hsz5 := Nat.lt_of_lt_of_le hsz5 hbu.size
                have hS := And.intro cP (And.intro q0 (And.intro q1 b2))
                refine hK _ _ (fun _ => hS) ?_
                try simp only [Act.put, List.setIfInBounds_toArray, List.set_cons_zero, List.set_cons_succ]
                refine wpAnyT_take (i := 9) (oi := ⟨_, _, _, _, _, _⟩) (v := ?vr1_9) (by kernel_rfl) (by decide) rfl (by kernel_rfl) (by kernel_rfl) (by kernel_rfl) (fun _ _ _ h => h) (Or.inl ⟨by rfl, ?hyr1_9⟩) hS ?restr1_9
                case hyr1_9 =>
                  intro w' hSw
                  obtain ⟨s0, s1, s2, s3⟩ := hSw
                  go_simp
                  try with_reducible rfl
                try simp only [Act.put, List.setIfInBounds_toArray, List.set_cons_zero, List.set_cons_succ]
                refine wpAnyT_take (i := 10) (oi := ⟨_, _, _, _, _, _⟩) (v := ?vr1_10) (by kernel_rfl) (by decide) rfl (by kernel_rfl) (by kernel_rfl) (by kernel_rfl) (fun _ _ _ h => h) (Or.inl ⟨by rfl, ?hyr1_10⟩) hS ?restr1_10
                case hyr1_10 =>
                  intro w' hSw
                  obtain ⟨s0, s1, s2, s3⟩ := hSw
                  go_simp
                  try with_reducible rfl
                try simp only [Act.put, List.setIfInBounds_toArray, List.set_cons_zero, List.set_cons_succ]
                refine wpAnyT_take (i := 11) (oi := ⟨_, _, _, _, _, _⟩) (v := undef) (by kernel_rfl) (by decide) rfl (by kernel_rfl) (by kernel_rfl) (by kernel_rfl) (fun _ _ _ h => h) (Or.inr ⟨by rfl, rfl⟩) hS ?restr1_11
                try simp only [Act.put, List.setIfInBounds_toArray, List.set_cons_zero, List.set_cons_succ]
                refine wpAnyT_take (i := 12) (oi := ⟨_, _, _, _, _, _⟩) (v := undef) (by kernel_rfl) (by decide) rfl (by kernel_rfl) (by kernel_rfl) (by kernel_rfl) (fun _ _ _ h => h) (Or.inr ⟨by rfl, rfl⟩) hS ?restr1_12
                try simp only [Act.put, List.setIfInBounds_toArray, List.set_cons_zero, List.set_cons_succ]
                refine wpAnyT_take (i := 13) (oi := ⟨_, _, _, _, _, _⟩) (v := undef) (by kernel_rfl) (by decide) rfl (by kernel_rfl) (by kernel_rfl) (by kernel_rfl) (fun _ _ _ h => h) (Or.inr ⟨by rfl, rfl⟩) hS ?restr1_13
                try simp only [Act.put, List.setIfInBounds_toArray, List.set_cons_zero, List.set_cons_succ]
                refine wpAnyT_take (i := 14) (oi := ⟨_, _, _, _, _, _⟩) (v := undef) (by kernel_rfl) (by decide) rfl (by kernel_rfl) (by kernel_rfl) (by kernel_rfl) (fun _ _ _ h => h) (Or.inr ⟨by rfl, rfl⟩) hS ?restr1_14
                try simp only [Act.put, List.setIfInBounds_toArray, List.set_cons_zero, List.set_cons_succ]
                refine wpAnyT_take (i := 15) (oi := ⟨_, _, _, _, _, _⟩) (v := undef) (by kernel_rfl) (by decide) rfl (by kernel_rfl) (by kernel_rfl) (by kernel_rfl) (fun _ _ _ h => h) (Or.inr ⟨by rfl, rfl⟩) hS ?restr1_15
                try simp only [Act.put, List.setIfInBounds_toArray, List.set_cons_zero, List.set_cons_succ]
                refine wpAnyT_take (i := 16) (oi := ⟨_, _, _, _, _, _⟩) (v := undef) (by kernel_rfl) (by decide) rfl (by kernel_rfl) (by kernel_rfl) (by kernel_rfl) (fun _ _ _ h => h) (Or.inr ⟨by rfl, rfl⟩) hS ?restr1_16
                try simp only [Act.put, List.setIfInBounds_toArray, List.set_cons_zero, List.set_cons_succ]
                refine wpAnyT_take (i := 17) (oi := ⟨_, _, _, _, _, _⟩) (v := undef) (by kernel_rfl) (by decide) rfl (by kernel_rfl) (by kernel_rfl) (by kernel_rfl) (fun _ _ _ h => h) (Or.inr ⟨by rfl, rfl⟩) hS ?restr1_17
                try simp only [Act.put, List.setIfInBounds_toArray, List.set_cons_zero, List.set_cons_succ]
                refine wpAnyT_take (i := 18) (oi := ⟨_, _, _, _, _, _⟩) (v := undef) (by kernel_rfl) (by decide) rfl (by kernel_rfl) (by kernel_rfl) (by kernel_rfl) (fun _ _ _ h => h) (Or.inr ⟨by rfl, rfl⟩) hS ?restr1_18
                try simp only [Act.put, List.setIfInBounds_toArray, List.set_cons_zero, List.set_cons_succ]
                refine wpAnyT_ready1 (i := 19) (o := ⟨_, _, _, _, _, _⟩) (by kernel_rfl) rfl (fun K hK => ?_)
                go_simp
                refine hK _ _ (fun _ => hS) ?_
                try simp only [Act.put, List.setIfInBounds_toArray, List.set_cons_zero, List.set_cons_succ]
                refine wpAnyT_take (i := 20) (oi := ⟨_, _, _, _, _, _⟩) (v := ?vr1_20) (by kernel_rfl) (by decide) rfl (by kernel_rfl) (by kernel_rfl) (by kernel_rfl) (fun _ _ _ h => h) (Or.inl ⟨by rfl, ?hyr1_20⟩) hS ?restr1_20
                case hyr1_20 =>
                  intro w' hSw
                  obtain ⟨s0, s1, s2, s3⟩ := hSw
                  go_simp
                  try with_reducible rfl
                try simp only [Act.put, List.setIfInBounds_toArray, List.set_cons_zero, List.set_cons_succ]
                refine wpAnyT_take (i := 21) (oi := ⟨_, _, _, _, _, _⟩) (v := ?vr1_21) (by kernel_rfl) (by decide) rfl (by kernel_rfl) (by kernel_rfl) (by kernel_rfl) (fun _ _ _ h => h) (Or.inl ⟨by rfl, ?hyr1_21⟩) hS ?restr1_21
                case hyr1_21 =>
                  intro w' hSw
                  obtain ⟨s0, s1, s2, s3⟩ := hSw
                  go_simp
                  try with_reducible rfl
                try simp only [Act.put, List.setIfInBounds_toArray, List.set_cons_zero, List.set_cons_succ]
                refine wpAnyT_take (i := 22) (oi := ⟨_, _, _, _, _, _⟩) (v := ?vr1_22) (by kernel_rfl) (by decide) rfl (by kernel_rfl) (by kernel_rfl) (by kernel_rfl) (fun _ _ _ h => h) (Or.inl ⟨by rfl, ?hyr1_22⟩) hS ?restr1_22
                case hyr1_22 =>
                  intro w' hSw
                  obtain ⟨s0, s1, s2, s3⟩ := hSw
                  go_simp
                  try with_reducible rfl
                try simp only [Act.put, List.setIfInBounds_toArray, List.set_cons_zero, List.set_cons_succ]
                refine wpAnyT_take (i := 23) (oi := ⟨_, _, _, _, _, _⟩) (v := undef) (by kernel_rfl) (by decide) rfl (by kernel_rfl) (by kernel_rfl) (by kernel_rfl) (fun _ _ _ h => h) (Or.inr ⟨by rfl, rfl⟩) hS ?restr1_23
                try simp only [Act.put, List.setIfInBounds_toArray, List.set_cons_zero, List.set_cons_succ]
                refine wpAnyT_take (i := 24) (oi := ⟨_, _, _, _, _, _⟩) (v := undef) (by kernel_rfl) (by decide) rfl (by kernel_rfl) (by kernel_rfl) (by kernel_rfl) (fun _ _ _ h => h) (Or.inr ⟨by rfl, rfl⟩) hS ?restr1_24
                try simp only [Act.put, List.setIfInBounds_toArray, List.set_cons_zero, List.set_cons_succ]
                refine wpAnyT_take (i := 25) (oi := ⟨_, _, _, _, _, _⟩) (v := undef) (by kernel_rfl) (by decide) rfl (by kernel_rfl) (by kernel_rfl) (by kernel_rfl) (fun _ _ _ h => h) (Or.inr ⟨by rfl, rfl⟩) hS ?restr1_25
                try simp only [Act.put, List.setIfInBounds_toArray, List.set_cons_zero, List.set_cons_succ]
                refine wpAnyT_take (i := 26) (oi := ⟨_, _, _, _, _, _⟩) (v := undef) (by kernel_rfl) (by decide) rfl (by kernel_rfl) (by kernel_rfl) (by kernel_rfl) (fun _ _ _ h => h) (Or.inr ⟨by rfl, rfl⟩) hS ?restr1_26
                try simp only [Act.put, List.setIfInBounds_toArray, List.set_cons_zero, List.set_cons_succ]
                refine wpAnyT_take (i := 27) (oi := ⟨_, _, _, _, _, _⟩) (v := undef) (by kernel_rfl) (by decide) rfl (by kernel_rfl) (by kernel_rfl) (by kernel_rfl) (fun _ _ _ h => h) (Or.inr ⟨by rfl, rfl⟩) hS ?restr1_27
                try simp only [Act.put, List.setIfInBounds_toArray, List.set_cons_zero, List.set_cons_succ]
                refine wpAnyT_take (i := 28) (oi := ⟨_, _, _, _, _, _⟩) (v := undef) (by kernel_rfl) (by decide) rfl (by kernel_rfl) (by kernel_rfl) (by kernel_rfl) (fun _ _ _ h => h) (Or.inr ⟨by rfl, rfl⟩) hS ?restr1_28
                try simp only [Act.put, List.setIfInBounds_toArray, List.set_cons_zero, List.set_cons_succ]
                refine wpAnyT_take (i := 29) (oi := ⟨_, _, _, _, _, _⟩) (v := undef) (by kernel_rfl) (by decide) rfl (by kernel_rfl) (by kernel_rfl) (by kernel_rfl) (fun _ _ _ h => h) (Or.inr ⟨by rfl, rfl⟩) hS ?restr1_29
                try simp only [Act.put, List.setIfInBounds_toArray, List.set_cons_zero, List.set_cons_succ]
                refine wpAnyT_take (i := 30) (oi := ⟨_, _, _, _, _, _⟩) (v := undef) (by kernel_rfl) (by decide) rfl (by kernel_rfl) (by kernel_rfl) (by kernel_rfl) (fun _ _ _ h => h) (Or.inr ⟨by rfl, rfl⟩) hS ?restr1_30
                try simp only [Act.put, List.setIfInBounds_toArray, List.set_cons_zero, List.set_cons_succ]
                refine wpAnyT_take (i := 31) (oi := ⟨_, _, _, _, _, _⟩) (v := undef) (by kernel_rfl) (by decide) rfl (by kernel_rfl) (by kernel_rfl) (by kernel_rfl) (fun _ _ _ h => h) (Or.inr ⟨by rfl, rfl⟩) hS ?restr1_31
                try simp only [Act.put, List.setIfInBounds_toArray, List.set_cons_zero, List.set_cons_succ]
                refine wpAnyT_take (i := 32) (oi := ⟨_, _, _, _, _, _⟩) (v := undef) (by kernel_rfl) (by decide) rfl (by kernel_rfl) (by kernel_rfl) (by kernel_rfl) (fun _ _ _ h => h) (Or.inr ⟨by rfl, rfl⟩) hS ?restr1_32
                try simp only [Act.put, List.setIfInBounds_toArray, List.set_cons_zero, List.set_cons_succ]
                refine wpAnyT_take (i := 33) (oi := ⟨_, _, _, _, _, _⟩) (v := undef) (by kernel_rfl) (by decide) rfl (by kernel_rfl) (by kernel_rfl) (by kernel_rfl) (fun _ _ _ h => h) (Or.inr ⟨by rfl, rfl⟩) hS ?restr1_33
                try simp only [Act.put, List.setIfInBounds_toArray, List.set_cons_zero, List.set_cons_succ]
                refine wpAnyT_take (i := 34) (oi := ⟨_, _, _, _, _, _⟩) (v := undef) (by kernel_rfl) (by decide) rfl (by kernel_rfl) (by kernel_rfl) (by kernel_rfl) (fun _ _ _ h => h) (Or.inr ⟨by rfl, rfl⟩) hS ?restr1_34
                try simp only [Act.put, List.setIfInBounds_toArray, List.set_cons_zero, List.set_cons_succ]
                refine wpAnyT_ready1 (i := 35) (o := ⟨_, _, _, _, _, _⟩) (by kernel_rfl) rfl (fun K hK => ?_)
                go_simp
                refine hK _ _ (fun _ => hS) ?_
                try simp only [Act.put, List.setIfInBounds_toArray, List.set_cons_zero, List.set_cons_succ]
                refine wpAnyT_take (i := 36) (oi := ⟨_, _, _, _, _, _⟩) (v := undef) (by kernel_rfl) (by decide) rfl (by kernel_rfl) (by kernel_rfl) (by kernel_rfl) (fun _ _ _ h => h) (Or.inr ⟨by rfl, rfl⟩) hS ?restr1_36
                try simp only [Act.put, List.setIfInBounds_toArray, List.set_cons_zero, List.set_cons_succ]
                refine wpAnyT_take (i := 37) (oi := ⟨_, _, _, _, _, _⟩) (v := undef) (by kernel_rfl) (by decide) rfl (by kernel_rfl) (by kernel_rfl) (by kernel_rfl) (fun _ _ _ h => h) (Or.inr ⟨by rfl, rfl⟩) hS ?restr1_37
                try simp only [Act.put, List.setIfInBounds_toArray, List.set_cons_zero, List.set_cons_succ]
                refine wpAnyT_take (i := 38) (oi := ⟨_, _, _, _, _, _⟩) (v := undef) (by kernel_rfl) (by decide) rfl (by kernel_rfl) (by kernel_rfl) (by kernel_rfl) (fun _ _ _ h => h) (Or.inr ⟨by rfl, rfl⟩) hS ?restr1_38
                try simp only [Act.put, List.setIfInBounds_toArray, List.set_cons_zero, List.set_cons_succ]
                refine wpAnyT_take (i := 40) (oi := ⟨_, _, _, _, _, _⟩) (v := undef) (by kernel_rfl) (by decide) rfl (by kernel_rfl) (by kernel_rfl) (by kernel_rfl) (fun _ _ _ h => h) (Or.inr ⟨by rfl, rfl⟩) hS ?restr1_40
                try simp only [Act.put, List.setIfInBounds_toArray, List.set_cons_zero, List.set_cons_succ]
                refine wpAnyT_take (i := 41) (oi := ⟨_, _, _, _, _, _⟩) (v := undef) (by kernel_rfl) (by decide) rfl (by kernel_rfl) (by kernel_rfl) (by kernel_rfl) (fun _ _ _ h => h) (Or.inr ⟨by rfl, rfl⟩) hS ?restr1_41
                try simp only [Act.put, List.setIfInBounds_toArray, List.set_cons_zero, List.set_cons_succ]
                refine wpAnyT_ready1 (i := 39) (o := ⟨_, _, _, _, _, _⟩) (by kernel_rfl) rfl (fun K hK => ?_)
                go_simp
                refine hK _ _ (fun _ => hS) ?_
                try simp only [Act.put, List.setIfInBounds_toArray, List.set_cons_zero, List.set_cons_succ]
                refine wpAnyT_ready1 (i := 42) (o := ⟨_, _, _, _, _, _⟩) (by kernel_rfl) rfl (fun K hK => ?_)
                go_simp
                refine hK _ _ (fun _ => hS) ?_
                try simp only [Act.put, List.setIfInBounds_toArray, List.set_cons_zero, List.set_cons_succ]
                refine wpAnyT_take (i := 43) (oi := ⟨_, _, _, _, _, _⟩) (v := undef) (by kernel_rfl) (by decide) rfl (by kernel_rfl) (by kernel_rfl) (by kernel_rfl) (fun _ _ _ h => h) (Or.inr ⟨by rfl, rfl⟩) hS ?restr1_43
                try simp only [Act.put, List.setIfInBounds_toArray, List.set_cons_zero, List.set_cons_succ]
                refine wpAnyT_take (i := 44) (oi := ⟨_, _, _, _, _, _⟩) (v := undef) (by kernel_rfl) (by decide) rfl (by kernel_rfl) (by kernel_rfl) (by kernel_rfl) (fun _ _ _ h => h) (Or.inr ⟨by rfl, rfl⟩) hS ?restr1_44
                try simp only [Act.put, List.setIfInBounds_toArray, List.set_cons_zero, List.set_cons_succ]
                refine wpAnyT_take (i := 45) (oi := ⟨_, _, _, _, _, _⟩) (v := ?vr1_45) (by kernel_rfl) (by decide) rfl (by kernel_rfl) (by kernel_rfl) (by kernel_rfl) (fun _ _ _ h => h) (Or.inl ⟨by rfl, ?hyr1_45⟩) hS ?restr1_45
                case hyr1_45 =>
                  intro w' hSw
                  obtain ⟨s0, s1, s2, s3⟩ := hSw
                  go_simp
                  try with_reducible rfl
                try simp only [Act.put, List.setIfInBounds_toArray, List.set_cons_zero, List.set_cons_succ]
                refine wpAnyT_take (i := 46) (oi := ⟨_, _, _, _, _, _⟩) (v := ?vr1_46) (by kernel_rfl) (by decide) rfl (by kernel_rfl) (by kernel_rfl) (by kernel_rfl) (fun _ _ _ h => h) (Or.inl ⟨by rfl, ?hyr1_46⟩) hS ?restr1_46
                case hyr1_46 =>
                  intro w' hSw
                  obtain ⟨s0, s1, s2, s3⟩ := hSw
                  go_simp
                  try with_reducible rfl
                try simp only [Act.put, List.setIfInBounds_toArray, List.set_cons_zero, List.set_cons_succ]
                refine wpAnyT_done (by kernel_rfl) ?_ _
                all_goals
                  go_wp2
                  go_roundw
                  case rel => exact ⟨j + 1, l, by omega, by go_num, hq5, by omega, HLT2.out, hB5⟩
                  case measure => simp [intOf]; omega
              · obtain ⟨Q, hQ⟩ := Int.eq_ofNat_of_zero_le (show 0 ≤ outerF p b st by omega)
                have HRN := Lib.hid hQ
                clear hQ hRn
                cases hhp : hasF ps st
                · have HHP := Lib.hid hhp
                  clear hhp
                  go_wp2
                  have hS := And.intro cP (And.intro q0 (And.intro q1 b2))
                  refine wp_region_T 47 (by kernel_rfl) (fun w' => w'.cell? ⟨PB, 0, none⟩ = some (.slice (some ⟨ga, 0, none⟩) n0 Cp) ∧ w'.cell? ⟨wr.heap.size, 0, none⟩ = some (.int .i64 10) ∧ w'.cell? ⟨wr.heap.size, 1, none⟩ = some (.int .i64 st) ∧ w'.cell? ⟨ga, b * 4 + 2, none⟩ = some (.slice A2 ps.length C2)) ?_
                  refine wpAnyT_take (i := 0) (oi := ⟨_, _, _, _, _, _⟩) (v := ?vr2_0) (by kernel_rfl) (by decide) rfl (by kernel_rfl) (by kernel_rfl) (by kernel_rfl) (fun _ _ _ h => h) (Or.inl ⟨by rfl, ?hyr2_0⟩) hS ?restr2_0
                  case hyr2_0 =>
                    intro w' hSw
                    obtain ⟨s0, s1, s2, s3⟩ := hSw
                    go_simp
                    try with_reducible rfl
                  try simp only [Act.put, List.setIfInBounds_toArray, List.set_cons_zero, List.set_cons_succ]
                  refine wpAnyT_take (i := 1) (oi := ⟨_, _, _, _, _, _⟩) (v := ?vr2_1) (by kernel_rfl) (by decide) rfl (by kernel_rfl) (by kernel_rfl) (by kernel_rfl) (fun _ _ _ h => h) (Or.inl ⟨by rfl, ?hyr2_1⟩) hS ?restr2_1
                  case hyr2_1 =>
                    intro w' hSw
                    obtain ⟨s0, s1, s2, s3⟩ := hSw
                    go_simp
                    try with_reducible rfl
                  try simp only [Act.put, List.setIfInBounds_toArray, List.set_cons_zero, List.set_cons_succ]
                  refine wpAnyT_take (i := 2) (oi := ⟨_, _, _, _, _, _⟩) (v := ?vr2_2) (by kernel_rfl) (by decide) rfl (by kernel_rfl) (by kernel_rfl) (by kernel_rfl) (fun _ _ _ h => h) (Or.inl ⟨by rfl, ?hyr2_2⟩) hS ?restr2_2
                  case hyr2_2 =>
                    intro w' hSw
                    obtain ⟨s0, s1, s2, s3⟩ := hSw
                    go_simp
                    try with_reducible rfl
                  try simp only [Act.put, List.setIfInBounds_toArray, List.set_cons_zero, List.set_cons_succ]
                  refine wpAnyT_take (i := 3) (oi := ⟨_, _, _, _, _, _⟩) (v := ?vr2_3) (by kernel_rfl) (by decide) rfl (by kernel_rfl) (by kernel_rfl) (by kernel_rfl) (fun _ _ _ h => h) (Or.inl ⟨by rfl, ?hyr2_3⟩) hS ?restr2_3
                  case hyr2_3 =>
                    intro w' hSw
                    obtain ⟨s0, s1, s2, s3⟩ := hSw
                    go_simp
                    try with_reducible rfl
                  try simp only [Act.put, List.setIfInBounds_toArray, List.set_cons_zero, List.set_cons_succ]
                  refine wpAnyT_take (i := 4) (oi := ⟨_, _, _, _, _, _⟩) (v := ?vr2_4) (by kernel_rfl) (by decide) rfl (by kernel_rfl) (by kernel_rfl) (by kernel_rfl) (fun _ _ _ h => h) (Or.inl ⟨by rfl, ?hyr2_4⟩) hS ?restr2_4
                  case hyr2_4 =>
                    intro w' hSw
                    obtain ⟨s0, s1, s2, s3⟩ := hSw
                    go_simp
                    try with_reducible rfl
                  try simp only [Act.put, List.setIfInBounds_toArray, List.set_cons_zero, List.set_cons_succ]
                  refine wpAnyT_take (i := 5) (oi := ⟨_, _, _, _, _, _⟩) (v := ?vr2_5) (by kernel_rfl) (by decide) rfl (by kernel_rfl) (by kernel_rfl) (by kernel_rfl) (fun _ _ _ h => h) (Or.inl ⟨by rfl, ?hyr2_5⟩) hS ?restr2_5
                  case hyr2_5 =>
                    intro w' hSw
                    obtain ⟨s0, s1, s2, s3⟩ := hSw
                    go_simp
                    try with_reducible rfl
                  try simp only [Act.put, List.setIfInBounds_toArray, List.set_cons_zero, List.set_cons_succ]
                  refine wpAnyT_take (i := 6) (oi := ⟨_, _, _, _, _, _⟩) (v := ?vr2_6) (by kernel_rfl) (by decide) rfl (by kernel_rfl) (by kernel_rfl) (by kernel_rfl) (fun _ _ _ h => h) (Or.inl ⟨by rfl, ?hyr2_6⟩) hS ?restr2_6
                  case hyr2_6 =>
                    intro w' hSw
                    obtain ⟨s0, s1, s2, s3⟩ := hSw
                    go_simp
                    try with_reducible rfl
                  try simp only [Act.put, List.setIfInBounds_toArray, List.set_cons_zero, List.set_cons_succ]
                  refine wpAnyT_take (i := 7) (oi := ⟨_, _, _, _, _, _⟩) (v := ?vr2_7) (by kernel_rfl) (by decide) rfl (by kernel_rfl) (by kernel_rfl) (by kernel_rfl) (fun _ _ _ h => h) (Or.inl ⟨by rfl, ?hyr2_7⟩) hS ?restr2_7
                  case hyr2_7 =>
                    intro w' hSw
                    obtain ⟨s0, s1, s2, s3⟩ := hSw
                    go_simp
                    try with_reducible rfl
                  try simp only [Act.put, List.setIfInBounds_toArray, List.set_cons_zero, List.set_cons_succ]
                  refine wpAnyT_ready1 (i := 8) (o := ⟨_, _, _, _, _, _⟩) (by kernel_rfl) rfl (fun K hK => ?_)
                  go_simp
                  go_at_call 78
                  refine (S_outerW _ p (w.heap.size + 1) b st _ (PRowX.blks hrow5) hwk (by omega) (by omega) hsto.1 hsto.2).mono ?_
                  rintro e wu ⟨rfl, hbu⟩
                  rw [HRN.out]
                  have cP := cell_later hbu cP
                  have b2 := cell_later hbu b2
                  have q0 := cell_later hbu q0
                  have q1 := cell_later hbu q1
                  have q2 := cell_later hbu q2
                  have q3 := cell_later hbu q3
                  have hB5 := bthen hB5 hbu
                  have hrow5 := PRowX.keep hrow5 hbu
                  have hpv5 := hpv5.keep hbu
                  have hq5 := hq5.keep hbu
                  have hsz5 := Nat.lt_of_lt_of_le hsz5 hbu.size
                  have hS := And.intro cP (And.intro q0 (And.intro q1 b2))
                  refine hK _ _ (fun _ => hS) ?_
                  try simp only [Act.put, List.setIfInBounds_toArray, List.set_cons_zero, List.set_cons_succ]
                  refine wpAnyT_take (i := 9) (oi := ⟨_, _, _, _, _, _⟩) (v := ?vr2_9) (by kernel_rfl) (by decide) rfl (by kernel_rfl) (by kernel_rfl) (by kernel_rfl) (fun _ _ _ h => h) (Or.inl ⟨by rfl, ?hyr2_9⟩) hS ?restr2_9
                  case hyr2_9 =>
                    intro w' hSw
                    obtain ⟨s0, s1, s2, s3⟩ := hSw
                    go_simp
                    try with_reducible rfl
                  try simp only [Act.put, List.setIfInBounds_toArray, List.set_cons_zero, List.set_cons_succ]
                  refine wpAnyT_take (i := 10) (oi := ⟨_, _, _, _, _, _⟩) (v := ?vr2_10) (by kernel_rfl) (by decide) rfl (by kernel_rfl) (by kernel_rfl) (by kernel_rfl) (fun _ _ _ h => h) (Or.inl ⟨by rfl, ?hyr2_10⟩) hS ?restr2_10
                  case hyr2_10 =>
                    intro w' hSw
                    obtain ⟨s0, s1, s2, s3⟩ := hSw
                    go_simp
                    try with_reducible rfl
                  try simp only [Act.put, List.setIfInBounds_toArray, List.set_cons_zero, List.set_cons_succ]
                  refine wpAnyT_take (i := 11) (oi := ⟨_, _, _, _, _, _⟩) (v := ?vr2_11) (by kernel_rfl) (by decide) rfl (by kernel_rfl) (by kernel_rfl) (by kernel_rfl) (fun _ _ _ h => h) (Or.inl ⟨by rfl, ?hyr2_11⟩) hS ?restr2_11
                  case hyr2_11 =>
                    intro w' hSw
                    obtain ⟨s0, s1, s2, s3⟩ := hSw
                    go_simp
                    try with_reducible rfl
                  try simp only [Act.put, List.setIfInBounds_toArray, List.set_cons_zero, List.set_cons_succ]
                  refine wpAnyT_take (i := 12) (oi := ⟨_, _, _, _, _, _⟩) (v := ?vr2_12) (by kernel_rfl) (by decide) rfl (by kernel_rfl) (by kernel_rfl) (by kernel_rfl) (fun _ _ _ h => h) (Or.inl ⟨by rfl, ?hyr2_12⟩) hS ?restr2_12
                  case hyr2_12 =>
                    intro w' hSw
                    obtain ⟨s0, s1, s2, s3⟩ := hSw
                    go_simp
                    try with_reducible rfl
                  try simp only [Act.put, List.setIfInBounds_toArray, List.set_cons_zero, List.set_cons_succ]
                  refine wpAnyT_take (i := 13) (oi := ⟨_, _, _, _, _, _⟩) (v := ?vr2_13) (by kernel_rfl) (by decide) rfl (by kernel_rfl) (by kernel_rfl) (by kernel_rfl) (fun _ _ _ h => h) (Or.inl ⟨by rfl, ?hyr2_13⟩) hS ?restr2_13
                  case hyr2_13 =>
                    intro w' hSw
                    obtain ⟨s0, s1, s2, s3⟩ := hSw
                    go_simp
                    try with_reducible rfl
                  try simp only [Act.put, List.setIfInBounds_toArray, List.set_cons_zero, List.set_cons_succ]
                  refine wpAnyT_take (i := 14) (oi := ⟨_, _, _, _, _, _⟩) (v := ?vr2_14) (by kernel_rfl) (by decide) rfl (by kernel_rfl) (by kernel_rfl) (by kernel_rfl) (fun _ _ _ h => h) (Or.inl ⟨by rfl, ?hyr2_14⟩) hS ?restr2_14
                  case hyr2_14 =>
                    intro w' hSw
                    obtain ⟨s0, s1, s2, s3⟩ := hSw
                    go_simp
                    try with_reducible rfl
                  try simp only [Act.put, List.setIfInBounds_toArray, List.set_cons_zero, List.set_cons_succ]
                  refine wpAnyT_take (i := 15) (oi := ⟨_, _, _, _, _, _⟩) (v := ?vr2_15) (by kernel_rfl) (by decide) rfl (by kernel_rfl) (by kernel_rfl) (by kernel_rfl) (fun _ _ _ h => h) (Or.inl ⟨by rfl, ?hyr2_15⟩) hS ?restr2_15
                  case hyr2_15 =>
                    intro w' hSw
                    obtain ⟨s0, s1, s2, s3⟩ := hSw
                    go_simp
                    try with_reducible rfl
                  try simp only [Act.put, List.setIfInBounds_toArray, List.set_cons_zero, List.set_cons_succ]
                  refine wpAnyT_take (i := 16) (oi := ⟨_, _, _, _, _, _⟩) (v := ?vr2_16) (by kernel_rfl) (by decide) rfl (by kernel_rfl) (by kernel_rfl) (by kernel_rfl) (fun _ _ _ h => h) (Or.inl ⟨by rfl, ?hyr2_16⟩) hS ?restr2_16
                  case hyr2_16 =>
                    intro w' hSw
                    obtain ⟨s0, s1, s2, s3⟩ := hSw
                    go_simp
                    try with_reducible rfl
                  try simp only [Act.put, List.setIfInBounds_toArray, List.set_cons_zero, List.set_cons_succ]
                  refine wpAnyT_take (i := 17) (oi := ⟨_, _, _, _, _, _⟩) (v := ?vr2_17) (by kernel_rfl) (by decide) rfl (by kernel_rfl) (by kernel_rfl) (by kernel_rfl) (fun _ _ _ h => h) (Or.inl ⟨by rfl, ?hyr2_17⟩) hS ?restr2_17
                  case hyr2_17 =>
                    intro w' hSw
                    obtain ⟨s0, s1, s2, s3⟩ := hSw
                    go_simp
                    try with_reducible rfl
                  try simp only [Act.put, List.setIfInBounds_toArray, List.set_cons_zero, List.set_cons_succ]
                  refine wpAnyT_take (i := 18) (oi := ⟨_, _, _, _, _, _⟩) (v := ?vr2_18) (by kernel_rfl) (by decide) rfl (by kernel_rfl) (by kernel_rfl) (by kernel_rfl) (fun _ _ _ h => h) (Or.inl ⟨by rfl, ?hyr2_18⟩) hS ?restr2_18
                  case hyr2_18 =>
                    intro w' hSw
                    obtain ⟨s0, s1, s2, s3⟩ := hSw
                    go_simp
                    try with_reducible rfl
                  try simp only [Act.put, List.setIfInBounds_toArray, List.set_cons_zero, List.set_cons_succ]
                  refine wpAnyT_ready1 (i := 19) (o := ⟨_, _, _, _, _, _⟩) (by kernel_rfl) rfl (fun K hK => ?_)
                  go_simp
                  go_at_call 77
                  refine (S_has _ _ _ st _ hpv5).mono ?_
                  rintro e w' ⟨rfl, rfl⟩
                  rw [HHP.out]
                  refine hK _ _ (fun _ => hS) ?_
                  try simp only [Act.put, List.setIfInBounds_toArray, List.set_cons_zero, List.set_cons_succ]
                  refine wpAnyT_take (i := 20) (oi := ⟨_, _, _, _, _, _⟩) (v := ?vr2_20) (by kernel_rfl) (by decide) rfl (by kernel_rfl) (by kernel_rfl) (by kernel_rfl) (fun _ _ _ h => h) (Or.inl ⟨by rfl, ?hyr2_20⟩) hS ?restr2_20
                  case hyr2_20 =>
                    intro w' hSw
                    obtain ⟨s0, s1, s2, s3⟩ := hSw
                    go_simp
                    try with_reducible rfl
                  try simp only [Act.put, List.setIfInBounds_toArray, List.set_cons_zero, List.set_cons_succ]
                  refine wpAnyT_take (i := 21) (oi := ⟨_, _, _, _, _, _⟩) (v := ?vr2_21) (by kernel_rfl) (by decide) rfl (by kernel_rfl) (by kernel_rfl) (by kernel_rfl) (fun _ _ _ h => h) (Or.inl ⟨by rfl, ?hyr2_21⟩) hS ?restr2_21
                  case hyr2_21 =>
                    intro w' hSw
                    obtain ⟨s0, s1, s2, s3⟩ := hSw
                    go_simp
                    try with_reducible rfl
                  try simp only [Act.put, List.setIfInBounds_toArray, List.set_cons_zero, List.set_cons_succ]
                  refine wpAnyT_take (i := 22) (oi := ⟨_, _, _, _, _, _⟩) (v := ?vr2_22) (by kernel_rfl) (by decide) rfl (by kernel_rfl) (by kernel_rfl) (by kernel_rfl) (fun _ _ _ h => h) (Or.inl ⟨by rfl, ?hyr2_22⟩) hS ?restr2_22
                  case hyr2_22 =>
                    intro w' hSw
                    obtain ⟨s0, s1, s2, s3⟩ := hSw
                    go_simp
                    try with_reducible rfl
                  try simp only [Act.put, List.setIfInBounds_toArray, List.set_cons_zero, List.set_cons_succ]
                  refine wpAnyT_take (i := 23) (oi := ⟨_, _, _, _, _, _⟩) (v := ?vr2_23) (by kernel_rfl) (by decide) rfl (by kernel_rfl) (by kernel_rfl) (by kernel_rfl) (fun _ _ _ h => h) (Or.inl ⟨by rfl, ?hyr2_23⟩) hS ?restr2_23
                  case hyr2_23 =>
                    intro w' hSw
                    obtain ⟨s0, s1, s2, s3⟩ := hSw
                    go_simp
                    try with_reducible rfl
                  try simp only [Act.put, List.setIfInBounds_toArray, List.set_cons_zero, List.set_cons_succ]
                  refine wpAnyT_take (i := 24) (oi := ⟨_, _, _, _, _, _⟩) (v := ?vr2_24) (by kernel_rfl) (by decide) rfl (by kernel_rfl) (by kernel_rfl) (by kernel_rfl) (fun _ _ _ h => h) (Or.inl ⟨by rfl, ?hyr2_24⟩) hS ?restr2_24
                  case hyr2_24 =>
                    intro w' hSw
                    obtain ⟨s0, s1, s2, s3⟩ := hSw
                    go_simp
                    try with_reducible rfl
                  try simp only [Act.put, List.setIfInBounds_toArray, List.set_cons_zero, List.set_cons_succ]
                  refine wpAnyT_take (i := 25) (oi := ⟨_, _, _, _, _, _⟩) (v := ?vr2_25) (by kernel_rfl) (by decide) rfl (by kernel_rfl) (by kernel_rfl) (by kernel_rfl) (fun _ _ _ h => h) (Or.inl ⟨by rfl, ?hyr2_25⟩) hS ?restr2_25
                  case hyr2_25 =>
                    intro w' hSw
                    obtain ⟨s0, s1, s2, s3⟩ := hSw
                    go_simp
                    try with_reducible rfl
                  try simp only [Act.put, List.setIfInBounds_toArray, List.set_cons_zero, List.set_cons_succ]
                  refine wpAnyT_take (i := 26) (oi := ⟨_, _, _, _, _, _⟩) (v := ?vr2_26) (by kernel_rfl) (by decide) rfl (by kernel_rfl) (by kernel_rfl) (by kernel_rfl) (fun _ _ _ h => h) (Or.inl ⟨by rfl, ?hyr2_26⟩) hS ?restr2_26
                  case hyr2_26 =>
                    intro w' hSw
                    obtain ⟨s0, s1, s2, s3⟩ := hSw
                    go_simp
                    try with_reducible rfl
                  try simp only [Act.put, List.setIfInBounds_toArray, List.set_cons_zero, List.set_cons_succ]
                  refine wpAnyT_take (i := 27) (oi := ⟨_, _, _, _, _, _⟩) (v := undef) (by kernel_rfl) (by decide) rfl (by kernel_rfl) (by kernel_rfl) (by kernel_rfl) (fun _ _ _ h => h) (Or.inr ⟨by rfl, rfl⟩) hS ?restr2_27
                  try simp only [Act.put, List.setIfInBounds_toArray, List.set_cons_zero, List.set_cons_succ]
                  refine wpAnyT_take (i := 28) (oi := ⟨_, _, _, _, _, _⟩) (v := undef) (by kernel_rfl) (by decide) rfl (by kernel_rfl) (by kernel_rfl) (by kernel_rfl) (fun _ _ _ h => h) (Or.inr ⟨by rfl, rfl⟩) hS ?restr2_28
                  try simp only [Act.put, List.setIfInBounds_toArray, List.set_cons_zero, List.set_cons_succ]
                  refine wpAnyT_take (i := 29) (oi := ⟨_, _, _, _, _, _⟩) (v := undef) (by kernel_rfl) (by decide) rfl (by kernel_rfl) (by kernel_rfl) (by kernel_rfl) (fun _ _ _ h => h) (Or.inr ⟨by rfl, rfl⟩) hS ?restr2_29
                  try simp only [Act.put, List.setIfInBounds_toArray, List.set_cons_zero, List.set_cons_succ]
                  refine wpAnyT_take (i := 30) (oi := ⟨_, _, _, _, _, _⟩) (v := undef) (by kernel_rfl) (by decide) rfl (by kernel_rfl) (by kernel_rfl) (by kernel_rfl) (fun _ _ _ h => h) (Or.inr ⟨by rfl, rfl⟩) hS ?restr2_30
                  try simp only [Act.put, List.setIfInBounds_toArray, List.set_cons_zero, List.set_cons_succ]
                  refine wpAnyT_take (i := 31) (oi := ⟨_, _, _, _, _, _⟩) (v := undef) (by kernel_rfl) (by decide) rfl (by kernel_rfl) (by kernel_rfl) (by kernel_rfl) (fun _ _ _ h => h) (Or.inr ⟨by rfl, rfl⟩) hS ?restr2_31
                  try simp only [Act.put, List.setIfInBounds_toArray, List.set_cons_zero, List.set_cons_succ]
                  refine wpAnyT_take (i := 32) (oi := ⟨_, _, _, _, _, _⟩) (v := undef) (by kernel_rfl) (by decide) rfl (by kernel_rfl) (by kernel_rfl) (by kernel_rfl) (fun _ _ _ h => h) (Or.inr ⟨by rfl, rfl⟩) hS ?restr2_32
                  try simp only [Act.put, List.setIfInBounds_toArray, List.set_cons_zero, List.set_cons_succ]
                  refine wpAnyT_take (i := 33) (oi := ⟨_, _, _, _, _, _⟩) (v := undef) (by kernel_rfl) (by decide) rfl (by kernel_rfl) (by kernel_rfl) (by kernel_rfl) (fun _ _ _ h => h) (Or.inr ⟨by rfl, rfl⟩) hS ?restr2_33
                  try simp only [Act.put, List.setIfInBounds_toArray, List.set_cons_zero, List.set_cons_succ]
                  refine wpAnyT_take (i := 34) (oi := ⟨_, _, _, _, _, _⟩) (v := undef) (by kernel_rfl) (by decide) rfl (by kernel_rfl) (by kernel_rfl) (by kernel_rfl) (fun _ _ _ h => h) (Or.inr ⟨by rfl, rfl⟩) hS ?restr2_34
                  try simp only [Act.put, List.setIfInBounds_toArray, List.set_cons_zero, List.set_cons_succ]
                  refine wpAnyT_ready1 (i := 35) (o := ⟨_, _, _, _, _, _⟩) (by kernel_rfl) rfl (fun K hK => ?_)
                  go_simp
                  refine hK _ _ (fun _ => hS) ?_
                  try simp only [Act.put, List.setIfInBounds_toArray, List.set_cons_zero, List.set_cons_succ]
                  refine wpAnyT_take (i := 36) (oi := ⟨_, _, _, _, _, _⟩) (v := undef) (by kernel_rfl) (by decide) rfl (by kernel_rfl) (by kernel_rfl) (by kernel_rfl) (fun _ _ _ h => h) (Or.inr ⟨by rfl, rfl⟩) hS ?restr2_36
                  try simp only [Act.put, List.setIfInBounds_toArray, List.set_cons_zero, List.set_cons_succ]
                  refine wpAnyT_take (i := 37) (oi := ⟨_, _, _, _, _, _⟩) (v := undef) (by kernel_rfl) (by decide) rfl (by kernel_rfl) (by kernel_rfl) (by kernel_rfl) (fun _ _ _ h => h) (Or.inr ⟨by rfl, rfl⟩) hS ?restr2_37
                  try simp only [Act.put, List.setIfInBounds_toArray, List.set_cons_zero, List.set_cons_succ]
                  refine wpAnyT_take (i := 38) (oi := ⟨_, _, _, _, _, _⟩) (v := undef) (by kernel_rfl) (by decide) rfl (by kernel_rfl) (by kernel_rfl) (by kernel_rfl) (fun _ _ _ h => h) (Or.inr ⟨by rfl, rfl⟩) hS ?restr2_38
                  try simp only [Act.put, List.setIfInBounds_toArray, List.set_cons_zero, List.set_cons_succ]
                  refine wpAnyT_take (i := 40) (oi := ⟨_, _, _, _, _, _⟩) (v := undef) (by kernel_rfl) (by decide) rfl (by kernel_rfl) (by kernel_rfl) (by kernel_rfl) (fun _ _ _ h => h) (Or.inr ⟨by rfl, rfl⟩) hS ?restr2_40
                  try simp only [Act.put, List.setIfInBounds_toArray, List.set_cons_zero, List.set_cons_succ]
                  refine wpAnyT_take (i := 41) (oi := ⟨_, _, _, _, _, _⟩) (v := undef) (by kernel_rfl) (by decide) rfl (by kernel_rfl) (by kernel_rfl) (by kernel_rfl) (fun _ _ _ h => h) (Or.inr ⟨by rfl, rfl⟩) hS ?restr2_41
                  try simp only [Act.put, List.setIfInBounds_toArray, List.set_cons_zero, List.set_cons_succ]
                  refine wpAnyT_ready1 (i := 39) (o := ⟨_, _, _, _, _, _⟩) (by kernel_rfl) rfl (fun K hK => ?_)
                  go_simp
                  refine hK _ _ (fun _ => hS) ?_
                  try simp only [Act.put, List.setIfInBounds_toArray, List.set_cons_zero, List.set_cons_succ]
                  refine wpAnyT_ready1 (i := 42) (o := ⟨_, _, _, _, _, _⟩) (by kernel_rfl) rfl (fun K hK => ?_)
                  go_simp
                  refine hK _ _ (fun _ => hS) ?_
                  try simp only [Act.put, List.setIfInBounds_toArray, List.set_cons_zero, List.set_cons_succ]
                  refine wpAnyT_take (i := 43) (oi := ⟨_, _, _, _, _, _⟩) (v := undef) (by kernel_rfl) (by decide) rfl (by kernel_rfl) (by kernel_rfl) (by kernel_rfl) (fun _ _ _ h => h) (Or.inr ⟨by rfl, rfl⟩) hS ?restr2_43
                  try simp only [Act.put, List.setIfInBounds_toArray, List.set_cons_zero, List.set_cons_succ]
                  refine wpAnyT_take (i := 44) (oi := ⟨_, _, _, _, _, _⟩) (v := ?vr2_44) (by kernel_rfl) (by decide) rfl (by kernel_rfl) (by kernel_rfl) (by kernel_rfl) (fun _ _ _ h => h) (Or.inl ⟨by rfl, ?hyr2_44⟩) hS ?restr2_44
                  case hyr2_44 =>
                    intro w' hSw
                    obtain ⟨s0, s1, s2, s3⟩ := hSw
                    go_simp
                    try with_reducible rfl
                  try simp only [Act.put, List.setIfInBounds_toArray, List.set_cons_zero, List.set_cons_succ]
                  refine wpAnyT_take (i := 45) (oi := ⟨_, _, _, _, _, _⟩) (v := ?vr2_45) (by kernel_rfl) (by decide) rfl (by kernel_rfl) (by kernel_rfl) (by kernel_rfl) (fun _ _ _ h => h) (Or.inl ⟨by rfl, ?hyr2_45⟩) hS ?restr2_45
                  case hyr2_45 =>
                    intro w' hSw
                    obtain ⟨s0, s1, s2, s3⟩ := hSw
                    go_simp
                    try with_reducible rfl
                  try simp only [Act.put, List.setIfInBounds_toArray, List.set_cons_zero, List.set_cons_succ]
                  refine wpAnyT_take (i := 46) (oi := ⟨_, _, _, _, _, _⟩) (v := ?vr2_46) (by kernel_rfl) (by decide) rfl (by kernel_rfl) (by kernel_rfl) (by kernel_rfl) (fun _ _ _ h => h) (Or.inl ⟨by rfl, ?hyr2_46⟩) hS ?restr2_46
                  case hyr2_46 =>
                    intro w' hSw
                    obtain ⟨s0, s1, s2, s3⟩ := hSw
                    go_simp
                    try with_reducible rfl
                  try simp only [Act.put, List.setIfInBounds_toArray, List.set_cons_zero, List.set_cons_succ]
                  refine wpAnyT_done (by kernel_rfl) ?_ _
                  all_goals
                    go_wp2_with (at_builtin; refine wpList_append_stmts rfl _ _ rfl _ _ l [⟨10, st, sa, sb⟩] wz.heap.size rfl rfl (hq5.keep al1) (Stmts.feed (Stmts.one (lo := 0) rfl (Nat.zero_le _) 10 st sa sb)) (by simp only [List.length_cons, List.length_nil]; omega) (by have := hB5.size; simp only [World.size_alloc]; omega) ?_; intro q' w5 hq6 hg5 hb5 hf5)
                    go_roundw
                    case rel => exact ⟨j + 1, l ++ [⟨10, st, sa, sb⟩], by omega, by go_num, hq6, by simp; omega, (fun s hs => (List.mem_append.1 hs).elim (HLT2.out s) (fun h => by rw [List.mem_singleton.1 h]; exact hsto)), (hB5.alloc hB5.size _).grown hg5 (by have := hB5.size; simp only [World.size_alloc]; omega) (fun r hr => own_block_ge hq5 r hr)⟩
                    case measure => simp [intOf]; omega
                · have HHP := Lib.hid hhp
                  clear hhp
                  go_wp2
                  have hS := And.intro cP (And.intro q0 (And.intro q1 b2))
                  refine wp_region_T 47 (by kernel_rfl) (fun w' => w'.cell? ⟨PB, 0, none⟩ = some (.slice (some ⟨ga, 0, none⟩) n0 Cp) ∧ w'.cell? ⟨wr.heap.size, 0, none⟩ = some (.int .i64 10) ∧ w'.cell? ⟨wr.heap.size, 1, none⟩ = some (.int .i64 st) ∧ w'.cell? ⟨ga, b * 4 + 2, none⟩ = some (.slice A2 ps.length C2)) ?_
                  refine wpAnyT_take (i := 0) (oi := ⟨_, _, _, _, _, _⟩) (v := ?vr3_0) (by kernel_rfl) (by decide) rfl (by kernel_rfl) (by kernel_rfl) (by kernel_rfl) (fun _ _ _ h => h) (Or.inl ⟨by rfl, ?hyr3_0⟩) hS ?restr3_0
                  case hyr3_0 =>
                    intro w' hSw
                    obtain ⟨s0, s1, s2, s3⟩ := hSw
                    go_simp
                    try with_reducible rfl
                  try simp only [Act.put, List.setIfInBounds_toArray, List.set_cons_zero, List.set_cons_succ]
                  refine wpAnyT_take (i := 1) (oi := ⟨_, _, _, _, _, _⟩) (v := ?vr3_1) (by kernel_rfl) (by decide) rfl (by kernel_rfl) (by kernel_rfl) (by kernel_rfl) (fun _ _ _ h => h) (Or.inl ⟨by rfl, ?hyr3_1⟩) hS ?restr3_1
                  case hyr3_1 =>
                    intro w' hSw
                    obtain ⟨s0, s1, s2, s3⟩ := hSw
                    go_simp
                    try with_reducible rfl
                  try simp only [Act.put, List.setIfInBounds_toArray, List.set_cons_zero, List.set_cons_succ]
                  refine wpAnyT_take (i := 2) (oi := ⟨_, _, _, _, _, _⟩) (v := ?vr3_2) (by kernel_rfl) (by decide) rfl (by kernel_rfl) (by kernel_rfl) (by kernel_rfl) (fun _ _ _ h => h) (Or.inl ⟨by rfl, ?hyr3_2⟩) hS ?restr3_2
                  case hyr3_2 =>
                    intro w' hSw
                    obtain ⟨s0, s1, s2, s3⟩ := hSw
                    go_simp
                    try with_reducible rfl
                  try simp only [Act.put, List.setIfInBounds_toArray, List.set_cons_zero, List.set_cons_succ]
                  refine wpAnyT_take (i := 3) (oi := ⟨_, _, _, _, _, _⟩) (v := ?vr3_3) (by kernel_rfl) (by decide) rfl (by kernel_rfl) (by kernel_rfl) (by kernel_rfl) (fun _ _ _ h => h) (Or.inl ⟨by rfl, ?hyr3_3⟩) hS ?restr3_3
                  case hyr3_3 =>
                    intro w' hSw
                    obtain ⟨s0, s1, s2, s3⟩ := hSw
                    go_simp
                    try with_reducible rfl
                  try simp only [Act.put, List.setIfInBounds_toArray, List.set_cons_zero, List.set_cons_succ]
                  refine wpAnyT_take (i := 4) (oi := ⟨_, _, _, _, _, _⟩) (v := ?vr3_4) (by kernel_rfl) (by decide) rfl (by kernel_rfl) (by kernel_rfl) (by kernel_rfl) (fun _ _ _ h => h) (Or.inl ⟨by rfl, ?hyr3_4⟩) hS ?restr3_4
                  case hyr3_4 =>
                    intro w' hSw
                    obtain ⟨s0, s1, s2, s3⟩ := hSw
                    go_simp
                    try with_reducible rfl
                  try simp only [Act.put, List.setIfInBounds_toArray, List.set_cons_zero, List.set_cons_succ]
                  refine wpAnyT_take (i := 5) (oi := ⟨_, _, _, _, _, _⟩) (v := ?vr3_5) (by kernel_rfl) (by decide) rfl (by kernel_rfl) (by kernel_rfl) (by kernel_rfl) (fun _ _ _ h => h) (Or.inl ⟨by rfl, ?hyr3_5⟩) hS ?restr3_5
                  case hyr3_5 =>
                    intro w' hSw
                    obtain ⟨s0, s1, s2, s3⟩ := hSw
                    go_simp
                    try with_reducible rfl
                  try simp only [Act.put, List.setIfInBounds_toArray, List.set_cons_zero, List.set_cons_succ]
                  refine wpAnyT_take (i := 6) (oi := ⟨_, _, _, _, _, _⟩) (v := ?vr3_6) (by kernel_rfl) (by decide) rfl (by kernel_rfl) (by kernel_rfl) (by kernel_rfl) (fun _ _ _ h => h) (Or.inl ⟨by rfl, ?hyr3_6⟩) hS ?restr3_6
                  case hyr3_6 =>
                    intro w' hSw
                    obtain ⟨s0, s1, s2, s3⟩ := hSw
                    go_simp
                    try with_reducible rfl
                  try simp only [Act.put, List.setIfInBounds_toArray, List.set_cons_zero, List.set_cons_succ]
                  refine wpAnyT_take (i := 7) (oi := ⟨_, _, _, _, _, _⟩) (v := ?vr3_7) (by kernel_rfl) (by decide) rfl (by kernel_rfl) (by kernel_rfl) (by kernel_rfl) (fun _ _ _ h => h) (Or.inl ⟨by rfl, ?hyr3_7⟩) hS ?restr3_7
                  case hyr3_7 =>
                    intro w' hSw
                    obtain ⟨s0, s1, s2, s3⟩ := hSw
                    go_simp
                    try with_reducible rfl
                  try simp only [Act.put, List.setIfInBounds_toArray, List.set_cons_zero, List.set_cons_succ]
                  refine wpAnyT_ready1 (i := 8) (o := ⟨_, _, _, _, _, _⟩) (by kernel_rfl) rfl (fun K hK => ?_)
                  go_simp
                  go_at_call 78
                  refine (S_outerW _ p (w.heap.size + 1) b st _ (PRowX.blks hrow5) hwk (by omega) (by omega) hsto.1 hsto.2).mono ?_
                  rintro e wu ⟨rfl, hbu⟩
                  rw [HRN.out]
                  have cP := cell_later hbu cP
                  have b2 := cell_later hbu b2
                  have q0 := cell_later hbu q0
                  have q1 := cell_later hbu q1
                  have q2 := cell_later hbu q2
                  have q3 := cell_later hbu q3
                  have hB5 := bthen hB5 hbu
                  have hrow5 := PRowX.keep hrow5 hbu
                  have hpv5 := hpv5.keep hbu
                  have hq5 := hq5.keep hbu
                  have hsz5 := Nat.lt_of_lt_of_le hsz5 hbu.size
                  have hS := And.intro cP (And.intro q0 (And.intro q1 b2))
                  refine hK _ _ (fun _ => hS) ?_
                  try simp only [Act.put, List.setIfInBounds_toArray, List.set_cons_zero, List.set_cons_succ]
                  refine wpAnyT_take (i := 9) (oi := ⟨_, _, _, _, _, _⟩) (v := ?vr3_9) (by kernel_rfl) (by decide) rfl (by kernel_rfl) (by kernel_rfl) (by kernel_rfl) (fun _ _ _ h => h) (Or.inl ⟨by rfl, ?hyr3_9⟩) hS ?restr3_9
                  case hyr3_9 =>
                    intro w' hSw
                    obtain ⟨s0, s1, s2, s3⟩ := hSw
                    go_simp
                    try with_reducible rfl
                  try simp only [Act.put, List.setIfInBounds_toArray, List.set_cons_zero, List.set_cons_succ]
                  refine wpAnyT_take (i := 10) (oi := ⟨_, _, _, _, _, _⟩) (v := ?vr3_10) (by kernel_rfl) (by decide) rfl (by kernel_rfl) (by kernel_rfl) (by kernel_rfl) (fun _ _ _ h => h) (Or.inl ⟨by rfl, ?hyr3_10⟩) hS ?restr3_10
                  case hyr3_10 =>
                    intro w' hSw
                    obtain ⟨s0, s1, s2, s3⟩ := hSw
                    go_simp
                    try with_reducible rfl
                  try simp only [Act.put, List.setIfInBounds_toArray, List.set_cons_zero, List.set_cons_succ]
                  refine wpAnyT_take (i := 11) (oi := ⟨_, _, _, _, _, _⟩) (v := ?vr3_11) (by kernel_rfl) (by decide) rfl (by kernel_rfl) (by kernel_rfl) (by kernel_rfl) (fun _ _ _ h => h) (Or.inl ⟨by rfl, ?hyr3_11⟩) hS ?restr3_11
                  case hyr3_11 =>
                    intro w' hSw
                    obtain ⟨s0, s1, s2, s3⟩ := hSw
                    go_simp
                    try with_reducible rfl
                  try simp only [Act.put, List.setIfInBounds_toArray, List.set_cons_zero, List.set_cons_succ]
                  refine wpAnyT_take (i := 12) (oi := ⟨_, _, _, _, _, _⟩) (v := ?vr3_12) (by kernel_rfl) (by decide) rfl (by kernel_rfl) (by kernel_rfl) (by kernel_rfl) (fun _ _ _ h => h) (Or.inl ⟨by rfl, ?hyr3_12⟩) hS ?restr3_12
                  case hyr3_12 =>
                    intro w' hSw
                    obtain ⟨s0, s1, s2, s3⟩ := hSw
                    go_simp
                    try with_reducible rfl
                  try simp only [Act.put, List.setIfInBounds_toArray, List.set_cons_zero, List.set_cons_succ]
                  refine wpAnyT_take (i := 13) (oi := ⟨_, _, _, _, _, _⟩) (v := ?vr3_13) (by kernel_rfl) (by decide) rfl (by kernel_rfl) (by kernel_rfl) (by kernel_rfl) (fun _ _ _ h => h) (Or.inl ⟨by rfl, ?hyr3_13⟩) hS ?restr3_13
                  case hyr3_13 =>
                    intro w' hSw
                    obtain ⟨s0, s1, s2, s3⟩ := hSw
                    go_simp
                    try with_reducible rfl
                  try simp only [Act.put, List.setIfInBounds_toArray, List.set_cons_zero, List.set_cons_succ]
                  refine wpAnyT_take (i := 14) (oi := ⟨_, _, _, _, _, _⟩) (v := ?vr3_14) (by kernel_rfl) (by decide) rfl (by kernel_rfl) (by kernel_rfl) (by kernel_rfl) (fun _ _ _ h => h) (Or.inl ⟨by rfl, ?hyr3_14⟩) hS ?restr3_14
                  case hyr3_14 =>
                    intro w' hSw
                    obtain ⟨s0, s1, s2, s3⟩ := hSw
                    go_simp
                    try with_reducible rfl
                  try simp only [Act.put, List.setIfInBounds_toArray, List.set_cons_zero, List.set_cons_succ]
                  refine wpAnyT_take (i := 15) (oi := ⟨_, _, _, _, _, _⟩) (v := ?vr3_15) (by kernel_rfl) (by decide) rfl (by kernel_rfl) (by kernel_rfl) (by kernel_rfl) (fun _ _ _ h => h) (Or.inl ⟨by rfl, ?hyr3_15⟩) hS ?restr3_15
                  case hyr3_15 =>
                    intro w' hSw
                    obtain ⟨s0, s1, s2, s3⟩ := hSw
                    go_simp
                    try with_reducible rfl
                  try simp only [Act.put, List.setIfInBounds_toArray, List.set_cons_zero, List.set_cons_succ]
                  refine wpAnyT_take (i := 16) (oi := ⟨_, _, _, _, _, _⟩) (v := ?vr3_16) (by kernel_rfl) (by decide) rfl (by kernel_rfl) (by kernel_rfl) (by kernel_rfl) (fun _ _ _ h => h) (Or.inl ⟨by rfl, ?hyr3_16⟩) hS ?restr3_16
                  case hyr3_16 =>
                    intro w' hSw
                    obtain ⟨s0, s1, s2, s3⟩ := hSw
                    go_simp
                    try with_reducible rfl
                  try simp only [Act.put, List.setIfInBounds_toArray, List.set_cons_zero, List.set_cons_succ]
                  refine wpAnyT_take (i := 17) (oi := ⟨_, _, _, _, _, _⟩) (v := ?vr3_17) (by kernel_rfl) (by decide) rfl (by kernel_rfl) (by kernel_rfl) (by kernel_rfl) (fun _ _ _ h => h) (Or.inl ⟨by rfl, ?hyr3_17⟩) hS ?restr3_17
                  case hyr3_17 =>
                    intro w' hSw
                    obtain ⟨s0, s1, s2, s3⟩ := hSw
                    go_simp
                    try with_reducible rfl
                  try simp only [Act.put, List.setIfInBounds_toArray, List.set_cons_zero, List.set_cons_succ]
                  refine wpAnyT_take (i := 18) (oi := ⟨_, _, _, _, _, _⟩) (v := ?vr3_18) (by kernel_rfl) (by decide) rfl (by kernel_rfl) (by kernel_rfl) (by kernel_rfl) (fun _ _ _ h => h) (Or.inl ⟨by rfl, ?hyr3_18⟩) hS ?restr3_18
                  case hyr3_18 =>
                    intro w' hSw
                    obtain ⟨s0, s1, s2, s3⟩ := hSw
                    go_simp
                    try with_reducible rfl
                  try simp only [Act.put, List.setIfInBounds_toArray, List.set_cons_zero, List.set_cons_succ]
                  refine wpAnyT_ready1 (i := 19) (o := ⟨_, _, _, _, _, _⟩) (by kernel_rfl) rfl (fun K hK => ?_)
                  go_simp
                  go_at_call 77
                  refine (S_has _ _ _ st _ hpv5).mono ?_
                  rintro e w' ⟨rfl, rfl⟩
                  rw [HHP.out]
                  refine hK _ _ (fun _ => hS) ?_
                  try simp only [Act.put, List.setIfInBounds_toArray, List.set_cons_zero, List.set_cons_succ]
                  refine wpAnyT_take (i := 20) (oi := ⟨_, _, _, _, _, _⟩) (v := ?vr3_20) (by kernel_rfl) (by decide) rfl (by kernel_rfl) (by kernel_rfl) (by kernel_rfl) (fun _ _ _ h => h) (Or.inl ⟨by rfl, ?hyr3_20⟩) hS ?restr3_20
                  case hyr3_20 =>
                    intro w' hSw
                    obtain ⟨s0, s1, s2, s3⟩ := hSw
                    go_simp
                    try with_reducible rfl
                  try simp only [Act.put, List.setIfInBounds_toArray, List.set_cons_zero, List.set_cons_succ]
                  refine wpAnyT_take (i := 21) (oi := ⟨_, _, _, _, _, _⟩) (v := ?vr3_21) (by kernel_rfl) (by decide) rfl (by kernel_rfl) (by kernel_rfl) (by kernel_rfl) (fun _ _ _ h => h) (Or.inl ⟨by rfl, ?hyr3_21⟩) hS ?restr3_21
                  case hyr3_21 =>
                    intro w' hSw
                    obtain ⟨s0, s1, s2, s3⟩ := hSw
                    go_simp
                    try with_reducible rfl
                  try simp only [Act.put, List.setIfInBounds_toArray, List.set_cons_zero, List.set_cons_succ]
                  refine wpAnyT_take (i := 22) (oi := ⟨_, _, _, _, _, _⟩) (v := ?vr3_22) (by kernel_rfl) (by decide) rfl (by kernel_rfl) (by kernel_rfl) (by kernel_rfl) (fun _ _ _ h => h) (Or.inl ⟨by rfl, ?hyr3_22⟩) hS ?restr3_22
                  case hyr3_22 =>
                    intro w' hSw
                    obtain ⟨s0, s1, s2, s3⟩ := hSw
                    go_simp
                    try with_reducible rfl
                  try simp only [Act.put, List.setIfInBounds_toArray, List.set_cons_zero, List.set_cons_succ]
                  refine wpAnyT_take (i := 23) (oi := ⟨_, _, _, _, _, _⟩) (v := undef) (by kernel_rfl) (by decide) rfl (by kernel_rfl) (by kernel_rfl) (by kernel_rfl) (fun _ _ _ h => h) (Or.inr ⟨by rfl, rfl⟩) hS ?restr3_23
                  try simp only [Act.put, List.setIfInBounds_toArray, List.set_cons_zero, List.set_cons_succ]
                  refine wpAnyT_take (i := 24) (oi := ⟨_, _, _, _, _, _⟩) (v := undef) (by kernel_rfl) (by decide) rfl (by kernel_rfl) (by kernel_rfl) (by kernel_rfl) (fun _ _ _ h => h) (Or.inr ⟨by rfl, rfl⟩) hS ?restr3_24
                  try simp only [Act.put, List.setIfInBounds_toArray, List.set_cons_zero, List.set_cons_succ]
                  refine wpAnyT_take (i := 25) (oi := ⟨_, _, _, _, _, _⟩) (v := undef) (by kernel_rfl) (by decide) rfl (by kernel_rfl) (by kernel_rfl) (by kernel_rfl) (fun _ _ _ h => h) (Or.inr ⟨by rfl, rfl⟩) hS ?restr3_25
                  try simp only [Act.put, List.setIfInBounds_toArray, List.set_cons_zero, List.set_cons_succ]
                  refine wpAnyT_take (i := 26) (oi := ⟨_, _, _, _, _, _⟩) (v := undef) (by kernel_rfl) (by decide) rfl (by kernel_rfl) (by kernel_rfl) (by kernel_rfl) (fun _ _ _ h => h) (Or.inr ⟨by rfl, rfl⟩) hS ?restr3_26
                  try simp only [Act.put, List.setIfInBounds_toArray, List.set_cons_zero, List.set_cons_succ]
                  refine wpAnyT_take (i := 27) (oi := ⟨_, _, _, _, _, _⟩) (v := undef) (by kernel_rfl) (by decide) rfl (by kernel_rfl) (by kernel_rfl) (by kernel_rfl) (fun _ _ _ h => h) (Or.inr ⟨by rfl, rfl⟩) hS ?restr3_27
                  try simp only [Act.put, List.setIfInBounds_toArray, List.set_cons_zero, List.set_cons_succ]
                  refine wpAnyT_take (i := 28) (oi := ⟨_, _, _, _, _, _⟩) (v := undef) (by kernel_rfl) (by decide) rfl (by kernel_rfl) (by kernel_rfl) (by kernel_rfl) (fun _ _ _ h => h) (Or.inr ⟨by rfl, rfl⟩) hS ?restr3_28
                  try simp only [Act.put, List.setIfInBounds_toArray, List.set_cons_zero, List.set_cons_succ]
                  refine wpAnyT_take (i := 29) (oi := ⟨_, _, _, _, _, _⟩) (v := undef) (by kernel_rfl) (by decide) rfl (by kernel_rfl) (by kernel_rfl) (by kernel_rfl) (fun _ _ _ h => h) (Or.inr ⟨by rfl, rfl⟩) hS ?restr3_29
                  try simp only [Act.put, List.setIfInBounds_toArray, List.set_cons_zero, List.set_cons_succ]
                  refine wpAnyT_take (i := 30) (oi := ⟨_, _, _, _, _, _⟩) (v := undef) (by kernel_rfl) (by decide) rfl (by kernel_rfl) (by kernel_rfl) (by kernel_rfl) (fun _ _ _ h => h) (Or.inr ⟨by rfl, rfl⟩) hS ?restr3_30
                  try simp only [Act.put, List.setIfInBounds_toArray, List.set_cons_zero, List.set_cons_succ]
                  refine wpAnyT_take (i := 31) (oi := ⟨_, _, _, _, _, _⟩) (v := undef) (by kernel_rfl) (by decide) rfl (by kernel_rfl) (by kernel_rfl) (by kernel_rfl) (fun _ _ _ h => h) (Or.inr ⟨by rfl, rfl⟩) hS ?restr3_31
                  try simp only [Act.put, List.setIfInBounds_toArray, List.set_cons_zero, List.set_cons_succ]
                  refine wpAnyT_take (i := 32) (oi := ⟨_, _, _, _, _, _⟩) (v := undef) (by kernel_rfl) (by decide) rfl (by kernel_rfl) (by kernel_rfl) (by kernel_rfl) (fun _ _ _ h => h) (Or.inr ⟨by rfl, rfl⟩) hS ?restr3_32
                  try simp only [Act.put, List.setIfInBounds_toArray, List.set_cons_zero, List.set_cons_succ]
                  refine wpAnyT_take (i := 33) (oi := ⟨_, _, _, _, _, _⟩) (v := undef) (by kernel_rfl) (by decide) rfl (by kernel_rfl) (by kernel_rfl) (by kernel_rfl) (fun _ _ _ h => h) (Or.inr ⟨by rfl, rfl⟩) hS ?restr3_33
                  try simp only [Act.put, List.setIfInBounds_toArray, List.set_cons_zero, List.set_cons_succ]
                  refine wpAnyT_take (i := 34) (oi := ⟨_, _, _, _, _, _⟩) (v := undef) (by kernel_rfl) (by decide) rfl (by kernel_rfl) (by kernel_rfl) (by kernel_rfl) (fun _ _ _ h => h) (Or.inr ⟨by rfl, rfl⟩) hS ?restr3_34
                  try simp only [Act.put, List.setIfInBounds_toArray, List.set_cons_zero, List.set_cons_succ]
                  refine wpAnyT_ready1 (i := 35) (o := ⟨_, _, _, _, _, _⟩) (by kernel_rfl) rfl (fun K hK => ?_)
                  go_simp
                  refine hK _ _ (fun _ => hS) ?_
                  try simp only [Act.put, List.setIfInBounds_toArray, List.set_cons_zero, List.set_cons_succ]
                  refine wpAnyT_take (i := 36) (oi := ⟨_, _, _, _, _, _⟩) (v := undef) (by kernel_rfl) (by decide) rfl (by kernel_rfl) (by kernel_rfl) (by kernel_rfl) (fun _ _ _ h => h) (Or.inr ⟨by rfl, rfl⟩) hS ?restr3_36
                  try simp only [Act.put, List.setIfInBounds_toArray, List.set_cons_zero, List.set_cons_succ]
                  refine wpAnyT_take (i := 37) (oi := ⟨_, _, _, _, _, _⟩) (v := undef) (by kernel_rfl) (by decide) rfl (by kernel_rfl) (by kernel_rfl) (by kernel_rfl) (fun _ _ _ h => h) (Or.inr ⟨by rfl, rfl⟩) hS ?restr3_37
                  try simp only [Act.put, List.setIfInBounds_toArray, List.set_cons_zero, List.set_cons_succ]
                  refine wpAnyT_take (i := 38) (oi := ⟨_, _, _, _, _, _⟩) (v := undef) (by kernel_rfl) (by decide) rfl (by kernel_rfl) (by kernel_rfl) (by kernel_rfl) (fun _ _ _ h => h) (Or.inr ⟨by rfl, rfl⟩) hS ?restr3_38
                  try simp only [Act.put, List.setIfInBounds_toArray, List.set_cons_zero, List.set_cons_succ]
                  refine wpAnyT_take (i := 40) (oi := ⟨_, _, _, _, _, _⟩) (v := undef) (by kernel_rfl) (by decide) rfl (by kernel_rfl) (by kernel_rfl) (by kernel_rfl) (fun _ _ _ h => h) (Or.inr ⟨by rfl, rfl⟩) hS ?restr3_40
                  try simp only [Act.put, List.setIfInBounds_toArray, List.set_cons_zero, List.set_cons_succ]
                  refine wpAnyT_take (i := 41) (oi := ⟨_, _, _, _, _, _⟩) (v := undef) (by kernel_rfl) (by decide) rfl (by kernel_rfl) (by kernel_rfl) (by kernel_rfl) (fun _ _ _ h => h) (Or.inr ⟨by rfl, rfl⟩) hS ?restr3_41
                  try simp only [Act.put, List.setIfInBounds_toArray, List.set_cons_zero, List.set_cons_succ]
                  refine wpAnyT_ready1 (i := 39) (o := ⟨_, _, _, _, _, _⟩) (by kernel_rfl) rfl (fun K hK => ?_)
                  go_simp
                  refine hK _ _ (fun _ => hS) ?_
                  try simp only [Act.put, List.setIfInBounds_toArray, List.set_cons_zero, List.set_cons_succ]
                  refine wpAnyT_ready1 (i := 42) (o := ⟨_, _, _, _, _, _⟩) (by kernel_rfl) rfl (fun K hK => ?_)
                  go_simp
                  refine hK _ _ (fun _ => hS) ?_
                  try simp only [Act.put, List.setIfInBounds_toArray, List.set_cons_zero, List.set_cons_succ]
                  refine wpAnyT_take (i := 43) (oi := ⟨_, _, _, _, _, _⟩) (v := undef) (by kernel_rfl) (by decide) rfl (by kernel_rfl) (by kernel_rfl) (by kernel_rfl) (fun _ _ _ h => h) (Or.inr ⟨by rfl, rfl⟩) hS ?restr3_43
                  try simp only [Act.put, List.setIfInBounds_toArray, List.set_cons_zero, List.set_cons_succ]
                  refine wpAnyT_take (i := 44) (oi := ⟨_, _, _, _, _, _⟩) (v := undef) (by kernel_rfl) (by decide) rfl (by kernel_rfl) (by kernel_rfl) (by kernel_rfl) (fun _ _ _ h => h) (Or.inr ⟨by rfl, rfl⟩) hS ?restr3_44
                  try simp only [Act.put, List.setIfInBounds_toArray, List.set_cons_zero, List.set_cons_succ]
                  refine wpAnyT_take (i := 45) (oi := ⟨_, _, _, _, _, _⟩) (v := ?vr3_45) (by kernel_rfl) (by decide) rfl (by kernel_rfl) (by kernel_rfl) (by kernel_rfl) (fun _ _ _ h => h) (Or.inl ⟨by rfl, ?hyr3_45⟩) hS ?restr3_45
                  case hyr3_45 =>
                    intro w' hSw
                    obtain ⟨s0, s1, s2, s3⟩ := hSw
                    go_simp
                    try with_reducible rfl
                  try simp only [Act.put, List.setIfInBounds_toArray, List.set_cons_zero, List.set_cons_succ]
                  refine wpAnyT_take (i := 46) (oi := ⟨_, _, _, _, _, _⟩) (v := ?vr3_46) (by kernel_rfl) (by decide) rfl (by kernel_rfl) (by kernel_rfl) (by kernel_rfl) (fun _ _ _ h => h) (Or.inl ⟨by rfl, ?hyr3_46⟩) hS ?restr3_46
                  case hyr3_46 =>
                    intro w' hSw
                    obtain ⟨s0, s1, s2, s3⟩ := hSw
                    go_simp
                    try with_reducible rfl
                  try simp only [Act.put, List.setIfInBounds_toArray, List.set_cons_zero, List.set_cons_succ]
                  refine wpAnyT_done (by kernel_rfl) ?_ _
                  all_goals
                    go_wp2
                    go_roundw
                    case rel => exact ⟨j + 1, l, by omega, by go_num, hq5, by omega, HLT2.out, hB5⟩
                    case measure => simp [intOf]; omega
            · have h10b : (sk == 10) = false := by rw [beq_eq_false_iff_ne]; exact hk10
              by_cases hk9 : sk = 9
              · subst hk9
                cases hhp : hasF ps st
                · have HHP := Lib.hid hhp
                  clear hhp
                  cases hhd : hasF (declF p b 10) st
                  · have HHD := Lib.hid hhd
                    clear hhd
                    go_wp2
                    have hS := And.intro cP (And.intro q0 (And.intro q1 b2))
                    refine wp_region_T 47 (by kernel_rfl) (fun w' => w'.cell? ⟨PB, 0, none⟩ = some (.slice (some ⟨ga, 0, none⟩) n0 Cp) ∧ w'.cell? ⟨wr.heap.size, 0, none⟩ = some (.int .i64 9) ∧ w'.cell? ⟨wr.heap.size, 1, none⟩ = some (.int .i64 st) ∧ w'.cell? ⟨ga, b * 4 + 2, none⟩ = some (.slice A2 ps.length C2)) ?_
                    refine wpAnyT_take (i := 0) (oi := ⟨_, _, _, _, _, _⟩) (v := ?vr4_0) (by kernel_rfl) (by decide) rfl (by kernel_rfl) (by kernel_rfl) (by kernel_rfl) (fun _ _ _ h => h) (Or.inl ⟨by rfl, ?hyr4_0⟩) hS ?restr4_0
                    case hyr4_0 =>
                      intro w' hSw
                      obtain ⟨s0, s1, s2, s3⟩ := hSw
                      go_simp
                      try with_reducible rfl
                    try simp only [Act.put, List.setIfInBounds_toArray, List.set_cons_zero, List.set_cons_succ]
                    refine wpAnyT_take (i := 1) (oi := ⟨_, _, _, _, _, _⟩) (v := ?vr4_1) (by kernel_rfl) (by decide) rfl (by kernel_rfl) (by kernel_rfl) (by kernel_rfl) (fun _ _ _ h => h) (Or.inl ⟨by rfl, ?hyr4_1⟩) hS ?restr4_1
                    case hyr4_1 =>
                      intro w' hSw
                      obtain ⟨s0, s1, s2, s3⟩ := hSw
                      go_simp
                      try with_reducible rfl
                    try simp only [Act.put, List.setIfInBounds_toArray, List.set_cons_zero, List.set_cons_succ]
                    refine wpAnyT_take (i := 2) (oi := ⟨_, _, _, _, _, _⟩) (v := ?vr4_2) (by kernel_rfl) (by decide) rfl (by kernel_rfl) (by kernel_rfl) (by kernel_rfl) (fun _ _ _ h => h) (Or.inl ⟨by rfl, ?hyr4_2⟩) hS ?restr4_2
                    case hyr4_2 =>
                      intro w' hSw
                      obtain ⟨s0, s1, s2, s3⟩ := hSw
                      go_simp
                      try with_reducible rfl
                    try simp only [Act.put, List.setIfInBounds_toArray, List.set_cons_zero, List.set_cons_succ]
                    refine wpAnyT_take (i := 3) (oi := ⟨_, _, _, _, _, _⟩) (v := ?vr4_3) (by kernel_rfl) (by decide) rfl (by kernel_rfl) (by kernel_rfl) (by kernel_rfl) (fun _ _ _ h => h) (Or.inl ⟨by rfl, ?hyr4_3⟩) hS ?restr4_3
                    case hyr4_3 =>
                      intro w' hSw
                      obtain ⟨s0, s1, s2, s3⟩ := hSw
                      go_simp
                      try with_reducible rfl
                    try simp only [Act.put, List.setIfInBounds_toArray, List.set_cons_zero, List.set_cons_succ]
                    refine wpAnyT_take (i := 4) (oi := ⟨_, _, _, _, _, _⟩) (v := undef) (by kernel_rfl) (by decide) rfl (by kernel_rfl) (by kernel_rfl) (by kernel_rfl) (fun _ _ _ h => h) (Or.inr ⟨by rfl, rfl⟩) hS ?restr4_4
                    try simp only [Act.put, List.setIfInBounds_toArray, List.set_cons_zero, List.set_cons_succ]
                    refine wpAnyT_take (i := 5) (oi := ⟨_, _, _, _, _, _⟩) (v := undef) (by kernel_rfl) (by decide) rfl (by kernel_rfl) (by kernel_rfl) (by kernel_rfl) (fun _ _ _ h => h) (Or.inr ⟨by rfl, rfl⟩) hS ?restr4_5
                    try simp only [Act.put, List.setIfInBounds_toArray, List.set_cons_zero, List.set_cons_succ]
                    refine wpAnyT_take (i := 6) (oi := ⟨_, _, _, _, _, _⟩) (v := undef) (by kernel_rfl) (by decide) rfl (by kernel_rfl) (by kernel_rfl) (by kernel_rfl) (fun _ _ _ h => h) (Or.inr ⟨by rfl, rfl⟩) hS ?restr4_6
                    try simp only [Act.put, List.setIfInBounds_toArray, List.set_cons_zero, List.set_cons_succ]
                    refine wpAnyT_take (i := 7) (oi := ⟨_, _, _, _, _, _⟩) (v := undef) (by kernel_rfl) (by decide) rfl (by kernel_rfl) (by kernel_rfl) (by kernel_rfl) (fun _ _ _ h => h) (Or.inr ⟨by rfl, rfl⟩) hS ?restr4_7
                    try simp only [Act.put, List.setIfInBounds_toArray, List.set_cons_zero, List.set_cons_succ]
                    refine wpAnyT_ready1 (i := 8) (o := ⟨_, _, _, _, _, _⟩) (by kernel_rfl) rfl (fun K hK => ?_)
                    go_simp
                    refine hK _ _ (fun _ => hS) ?_
                    try simp only [Act.put, List.setIfInBounds_toArray, List.set_cons_zero, List.set_cons_succ]
                    refine wpAnyT_take (i := 9) (oi := ⟨_, _, _, _, _, _⟩) (v := undef) (by kernel_rfl) (by decide) rfl (by kernel_rfl) (by kernel_rfl) (by kernel_rfl) (fun _ _ _ h => h) (Or.inr ⟨by rfl, rfl⟩) hS ?restr4_9
                    try simp only [Act.put, List.setIfInBounds_toArray, List.set_cons_zero, List.set_cons_succ]
                    refine wpAnyT_take (i := 10) (oi := ⟨_, _, _, _, _, _⟩) (v := undef) (by kernel_rfl) (by decide) rfl (by kernel_rfl) (by kernel_rfl) (by kernel_rfl) (fun _ _ _ h => h) (Or.inr ⟨by rfl, rfl⟩) hS ?restr4_10
                    try simp only [Act.put, List.setIfInBounds_toArray, List.set_cons_zero, List.set_cons_succ]
                    refine wpAnyT_take (i := 11) (oi := ⟨_, _, _, _, _, _⟩) (v := undef) (by kernel_rfl) (by decide) rfl (by kernel_rfl) (by kernel_rfl) (by kernel_rfl) (fun _ _ _ h => h) (Or.inr ⟨by rfl, rfl⟩) hS ?restr4_11
                    try simp only [Act.put, List.setIfInBounds_toArray, List.set_cons_zero, List.set_cons_succ]
                    refine wpAnyT_take (i := 12) (oi := ⟨_, _, _, _, _, _⟩) (v := undef) (by kernel_rfl) (by decide) rfl (by kernel_rfl) (by kernel_rfl) (by kernel_rfl) (fun _ _ _ h => h) (Or.inr ⟨by rfl, rfl⟩) hS ?restr4_12
                    try simp only [Act.put, List.setIfInBounds_toArray, List.set_cons_zero, List.set_cons_succ]
                    refine wpAnyT_take (i := 13) (oi := ⟨_, _, _, _, _, _⟩) (v := undef) (by kernel_rfl) (by decide) rfl (by kernel_rfl) (by kernel_rfl) (by kernel_rfl) (fun _ _ _ h => h) (Or.inr ⟨by rfl, rfl⟩) hS ?restr4_13
                    try simp only [Act.put, List.setIfInBounds_toArray, List.set_cons_zero, List.set_cons_succ]
                    refine wpAnyT_take (i := 14) (oi := ⟨_, _, _, _, _, _⟩) (v := undef) (by kernel_rfl) (by decide) rfl (by kernel_rfl) (by kernel_rfl) (by kernel_rfl) (fun _ _ _ h => h) (Or.inr ⟨by rfl, rfl⟩) hS ?restr4_14
                    try simp only [Act.put, List.setIfInBounds_toArray, List.set_cons_zero, List.set_cons_succ]
                    refine wpAnyT_take (i := 15) (oi := ⟨_, _, _, _, _, _⟩) (v := undef) (by kernel_rfl) (by decide) rfl (by kernel_rfl) (by kernel_rfl) (by kernel_rfl) (fun _ _ _ h => h) (Or.inr ⟨by rfl, rfl⟩) hS ?restr4_15
                    try simp only [Act.put, List.setIfInBounds_toArray, List.set_cons_zero, List.set_cons_succ]
                    refine wpAnyT_take (i := 16) (oi := ⟨_, _, _, _, _, _⟩) (v := undef) (by kernel_rfl) (by decide) rfl (by kernel_rfl) (by kernel_rfl) (by kernel_rfl) (fun _ _ _ h => h) (Or.inr ⟨by rfl, rfl⟩) hS ?restr4_16
                    try simp only [Act.put, List.setIfInBounds_toArray, List.set_cons_zero, List.set_cons_succ]
                    refine wpAnyT_take (i := 17) (oi := ⟨_, _, _, _, _, _⟩) (v := undef) (by kernel_rfl) (by decide) rfl (by kernel_rfl) (by kernel_rfl) (by kernel_rfl) (fun _ _ _ h => h) (Or.inr ⟨by rfl, rfl⟩) hS ?restr4_17
                    try simp only [Act.put, List.setIfInBounds_toArray, List.set_cons_zero, List.set_cons_succ]
                    refine wpAnyT_take (i := 18) (oi := ⟨_, _, _, _, _, _⟩) (v := undef) (by kernel_rfl) (by decide) rfl (by kernel_rfl) (by kernel_rfl) (by kernel_rfl) (fun _ _ _ h => h) (Or.inr ⟨by rfl, rfl⟩) hS ?restr4_18
                    try simp only [Act.put, List.setIfInBounds_toArray, List.set_cons_zero, List.set_cons_succ]
                    refine wpAnyT_ready1 (i := 19) (o := ⟨_, _, _, _, _, _⟩) (by kernel_rfl) rfl (fun K hK => ?_)
                    go_simp
                    refine hK _ _ (fun _ => hS) ?_
                    try simp only [Act.put, List.setIfInBounds_toArray, List.set_cons_zero, List.set_cons_succ]
                    refine wpAnyT_take (i := 20) (oi := ⟨_, _, _, _, _, _⟩) (v := undef) (by kernel_rfl) (by decide) rfl (by kernel_rfl) (by kernel_rfl) (by kernel_rfl) (fun _ _ _ h => h) (Or.inr ⟨by rfl, rfl⟩) hS ?restr4_20
                    try simp only [Act.put, List.setIfInBounds_toArray, List.set_cons_zero, List.set_cons_succ]
                    refine wpAnyT_take (i := 21) (oi := ⟨_, _, _, _, _, _⟩) (v := ?vr4_21) (by kernel_rfl) (by decide) rfl (by kernel_rfl) (by kernel_rfl) (by kernel_rfl) (fun _ _ _ h => h) (Or.inl ⟨by rfl, ?hyr4_21⟩) hS ?restr4_21
                    case hyr4_21 =>
                      intro w' hSw
                      obtain ⟨s0, s1, s2, s3⟩ := hSw
                      go_simp
                      try with_reducible rfl
                    try simp only [Act.put, List.setIfInBounds_toArray, List.set_cons_zero, List.set_cons_succ]
                    refine wpAnyT_take (i := 22) (oi := ⟨_, _, _, _, _, _⟩) (v := ?vr4_22) (by kernel_rfl) (by decide) rfl (by kernel_rfl) (by kernel_rfl) (by kernel_rfl) (fun _ _ _ h => h) (Or.inl ⟨by rfl, ?hyr4_22⟩) hS ?restr4_22
                    case hyr4_22 =>
                      intro w' hSw
                      obtain ⟨s0, s1, s2, s3⟩ := hSw
                      go_simp
                      try with_reducible rfl
                    try simp only [Act.put, List.setIfInBounds_toArray, List.set_cons_zero, List.set_cons_succ]
                    refine wpAnyT_take (i := 23) (oi := ⟨_, _, _, _, _, _⟩) (v := ?vr4_23) (by kernel_rfl) (by decide) rfl (by kernel_rfl) (by kernel_rfl) (by kernel_rfl) (fun _ _ _ h => h) (Or.inl ⟨by rfl, ?hyr4_23⟩) hS ?restr4_23
                    case hyr4_23 =>
                      intro w' hSw
                      obtain ⟨s0, s1, s2, s3⟩ := hSw
                      go_simp
                      try with_reducible rfl
                    try simp only [Act.put, List.setIfInBounds_toArray, List.set_cons_zero, List.set_cons_succ]
                    refine wpAnyT_take (i := 24) (oi := ⟨_, _, _, _, _, _⟩) (v := ?vr4_24) (by kernel_rfl) (by decide) rfl (by kernel_rfl) (by kernel_rfl) (by kernel_rfl) (fun _ _ _ h => h) (Or.inl ⟨by rfl, ?hyr4_24⟩) hS ?restr4_24
                    case hyr4_24 =>
                      intro w' hSw
                      obtain ⟨s0, s1, s2, s3⟩ := hSw
                      go_simp
                      try with_reducible rfl
                    try simp only [Act.put, List.setIfInBounds_toArray, List.set_cons_zero, List.set_cons_succ]
                    refine wpAnyT_take (i := 25) (oi := ⟨_, _, _, _, _, _⟩) (v := ?vr4_25) (by kernel_rfl) (by decide) rfl (by kernel_rfl) (by kernel_rfl) (by kernel_rfl) (fun _ _ _ h => h) (Or.inl ⟨by rfl, ?hyr4_25⟩) hS ?restr4_25
                    case hyr4_25 =>
                      intro w' hSw
                      obtain ⟨s0, s1, s2, s3⟩ := hSw
                      go_simp
                      try with_reducible rfl
                    try simp only [Act.put, List.setIfInBounds_toArray, List.set_cons_zero, List.set_cons_succ]
                    refine wpAnyT_take (i := 26) (oi := ⟨_, _, _, _, _, _⟩) (v := ?vr4_26) (by kernel_rfl) (by decide) rfl (by kernel_rfl) (by kernel_rfl) (by kernel_rfl) (fun _ _ _ h => h) (Or.inl ⟨by rfl, ?hyr4_26⟩) hS ?restr4_26
                    case hyr4_26 =>
                      intro w' hSw
                      obtain ⟨s0, s1, s2, s3⟩ := hSw
                      go_simp
                      try with_reducible rfl
                    try simp only [Act.put, List.setIfInBounds_toArray, List.set_cons_zero, List.set_cons_succ]
                    refine wpAnyT_take (i := 27) (oi := ⟨_, _, _, _, _, _⟩) (v := ?vr4_27) (by kernel_rfl) (by decide) rfl (by kernel_rfl) (by kernel_rfl) (by kernel_rfl) (fun _ _ _ h => h) (Or.inl ⟨by rfl, ?hyr4_27⟩) hS ?restr4_27
                    case hyr4_27 =>
                      intro w' hSw
                      obtain ⟨s0, s1, s2, s3⟩ := hSw
                      go_simp
                      try with_reducible rfl
                    try simp only [Act.put, List.setIfInBounds_toArray, List.set_cons_zero, List.set_cons_succ]
                    refine wpAnyT_take (i := 28) (oi := ⟨_, _, _, _, _, _⟩) (v := ?vr4_28) (by kernel_rfl) (by decide) rfl (by kernel_rfl) (by kernel_rfl) (by kernel_rfl) (fun _ _ _ h => h) (Or.inl ⟨by rfl, ?hyr4_28⟩) hS ?restr4_28
                    case hyr4_28 =>
                      intro w' hSw
                      obtain ⟨s0, s1, s2, s3⟩ := hSw
                      go_simp
                      try with_reducible rfl
                    try simp only [Act.put, List.setIfInBounds_toArray, List.set_cons_zero, List.set_cons_succ]
                    refine wpAnyT_take (i := 29) (oi := ⟨_, _, _, _, _, _⟩) (v := ?vr4_29) (by kernel_rfl) (by decide) rfl (by kernel_rfl) (by kernel_rfl) (by kernel_rfl) (fun _ _ _ h => h) (Or.inl ⟨by rfl, ?hyr4_29⟩) hS ?restr4_29
                    case hyr4_29 =>
                      intro w' hSw
                      obtain ⟨s0, s1, s2, s3⟩ := hSw
                      go_simp
                      try with_reducible rfl
                    try simp only [Act.put, List.setIfInBounds_toArray, List.set_cons_zero, List.set_cons_succ]
                    refine wpAnyT_take (i := 30) (oi := ⟨_, _, _, _, _, _⟩) (v := ?vr4_30) (by kernel_rfl) (by decide) rfl (by kernel_rfl) (by kernel_rfl) (by kernel_rfl) (fun _ _ _ h => h) (Or.inl ⟨by rfl, ?hyr4_30⟩) hS ?restr4_30
                    case hyr4_30 =>
                      intro w' hSw
                      obtain ⟨s0, s1, s2, s3⟩ := hSw
                      go_simp
                      try with_reducible rfl
                    try simp only [Act.put, List.setIfInBounds_toArray, List.set_cons_zero, List.set_cons_succ]
                    refine wpAnyT_take (i := 31) (oi := ⟨_, _, _, _, _, _⟩) (v := ?vr4_31) (by kernel_rfl) (by decide) rfl (by kernel_rfl) (by kernel_rfl) (by kernel_rfl) (fun _ _ _ h => h) (Or.inl ⟨by rfl, ?hyr4_31⟩) hS ?restr4_31
                    case hyr4_31 =>
                      intro w' hSw
                      obtain ⟨s0, s1, s2, s3⟩ := hSw
                      go_simp
                      try with_reducible rfl
                    try simp only [Act.put, List.setIfInBounds_toArray, List.set_cons_zero, List.set_cons_succ]
                    refine wpAnyT_take (i := 32) (oi := ⟨_, _, _, _, _, _⟩) (v := ?vr4_32) (by kernel_rfl) (by decide) rfl (by kernel_rfl) (by kernel_rfl) (by kernel_rfl) (fun _ _ _ h => h) (Or.inl ⟨by rfl, ?hyr4_32⟩) hS ?restr4_32
                    case hyr4_32 =>
                      intro w' hSw
                      obtain ⟨s0, s1, s2, s3⟩ := hSw
                      go_simp
                      try with_reducible rfl
                    try simp only [Act.put, List.setIfInBounds_toArray, List.set_cons_zero, List.set_cons_succ]
                    refine wpAnyT_take (i := 33) (oi := ⟨_, _, _, _, _, _⟩) (v := ?vr4_33) (by kernel_rfl) (by decide) rfl (by kernel_rfl) (by kernel_rfl) (by kernel_rfl) (fun _ _ _ h => h) (Or.inl ⟨by rfl, ?hyr4_33⟩) hS ?restr4_33
                    case hyr4_33 =>
                      intro w' hSw
                      obtain ⟨s0, s1, s2, s3⟩ := hSw
                      go_simp
                      try with_reducible rfl
                    try simp only [Act.put, List.setIfInBounds_toArray, List.set_cons_zero, List.set_cons_succ]
                    refine wpAnyT_take (i := 34) (oi := ⟨_, _, _, _, _, _⟩) (v := ?vr4_34) (by kernel_rfl) (by decide) rfl (by kernel_rfl) (by kernel_rfl) (by kernel_rfl) (fun _ _ _ h => h) (Or.inl ⟨by rfl, ?hyr4_34⟩) hS ?restr4_34
                    case hyr4_34 =>
                      intro w' hSw
                      obtain ⟨s0, s1, s2, s3⟩ := hSw
                      go_simp
                      try with_reducible rfl
                    try simp only [Act.put, List.setIfInBounds_toArray, List.set_cons_zero, List.set_cons_succ]
                    refine wpAnyT_ready1 (i := 35) (o := ⟨_, _, _, _, _, _⟩) (by kernel_rfl) rfl (fun K hK => ?_)
                    go_simp
                    go_at_call 77
                    refine (S_has _ _ _ st _ hpv5).mono ?_
                    rintro e w' ⟨rfl, rfl⟩
                    rw [HHP.out]
                    refine hK _ _ (fun _ => hS) ?_
                    try simp only [Act.put, List.setIfInBounds_toArray, List.set_cons_zero, List.set_cons_succ]
                    refine wpAnyT_take (i := 36) (oi := ⟨_, _, _, _, _, _⟩) (v := ?vr4_36) (by kernel_rfl) (by decide) rfl (by kernel_rfl) (by kernel_rfl) (by kernel_rfl) (fun _ _ _ h => h) (Or.inl ⟨by rfl, ?hyr4_36⟩) hS ?restr4_36
                    case hyr4_36 =>
                      intro w' hSw
                      obtain ⟨s0, s1, s2, s3⟩ := hSw
                      go_simp
                      try with_reducible rfl
                    try simp only [Act.put, List.setIfInBounds_toArray, List.set_cons_zero, List.set_cons_succ]
                    refine wpAnyT_take (i := 37) (oi := ⟨_, _, _, _, _, _⟩) (v := ?vr4_37) (by kernel_rfl) (by decide) rfl (by kernel_rfl) (by kernel_rfl) (by kernel_rfl) (fun _ _ _ h => h) (Or.inl ⟨by rfl, ?hyr4_37⟩) hS ?restr4_37
                    case hyr4_37 =>
                      intro w' hSw
                      obtain ⟨s0, s1, s2, s3⟩ := hSw
                      go_simp
                      try with_reducible rfl
                    try simp only [Act.put, List.setIfInBounds_toArray, List.set_cons_zero, List.set_cons_succ]
                    refine wpAnyT_take (i := 38) (oi := ⟨_, _, _, _, _, _⟩) (v := ?vr4_38) (by kernel_rfl) (by decide) rfl (by kernel_rfl) (by kernel_rfl) (by kernel_rfl) (fun _ _ _ h => h) (Or.inl ⟨by rfl, ?hyr4_38⟩) hS ?restr4_38
                    case hyr4_38 =>
                      intro w' hSw
                      obtain ⟨s0, s1, s2, s3⟩ := hSw
                      go_simp
                      try with_reducible rfl
                    try simp only [Act.put, List.setIfInBounds_toArray, List.set_cons_zero, List.set_cons_succ]
                    refine wpAnyT_take (i := 40) (oi := ⟨_, _, _, _, _, _⟩) (v := ?vr4_40) (by kernel_rfl) (by decide) rfl (by kernel_rfl) (by kernel_rfl) (by kernel_rfl) (fun _ _ _ h => h) (Or.inl ⟨by rfl, ?hyr4_40⟩) hS ?restr4_40
                    case hyr4_40 =>
                      intro w' hSw
                      obtain ⟨s0, s1, s2, s3⟩ := hSw
                      go_simp
                      try with_reducible rfl
                    try simp only [Act.put, List.setIfInBounds_toArray, List.set_cons_zero, List.set_cons_succ]
                    refine wpAnyT_take (i := 41) (oi := ⟨_, _, _, _, _, _⟩) (v := ?vr4_41) (by kernel_rfl) (by decide) rfl (by kernel_rfl) (by kernel_rfl) (by kernel_rfl) (fun _ _ _ h => h) (Or.inl ⟨by rfl, ?hyr4_41⟩) hS ?restr4_41
                    case hyr4_41 =>
                      intro w' hSw
                      obtain ⟨s0, s1, s2, s3⟩ := hSw
                      go_simp
                      try with_reducible rfl
                    try simp only [Act.put, List.setIfInBounds_toArray, List.set_cons_zero, List.set_cons_succ]
                    refine wpAnyT_ready1 (i := 39) (o := ⟨_, _, _, _, _, _⟩) (by kernel_rfl) rfl (fun K hK => ?_)
                    go_simp
                    go_at_call 76
                    refine (S_declared _ p (w.heap.size + 1) b 10 _ ⟨_, rfl, PRowX.blks hrow5⟩ (by omega) (by omega) (by omega) (Nat.le_trans (hwk.body b (by omega) (by omega)) (by omega))).mono ?_
                    rintro e wu ⟨v4, rfl, hi4, hbu⟩
                    have cP := cell_later hbu cP
                    have b2 := cell_later hbu b2
                    have q0 := cell_later hbu q0
                    have q1 := cell_later hbu q1
                    have q2 := cell_later hbu q2
                    have q3 := cell_later hbu q3
                    have hB5 := bthen hB5 hbu
                    have hrow5 := PRowX.keep hrow5 hbu
                    have hpv5 := hpv5.keep hbu
                    have hq5 := hq5.keep hbu
                    have hsz5 := Nat.lt_of_lt_of_le hsz5 hbu.size
                    have hS := And.intro cP (And.intro q0 (And.intro q1 b2))
                    refine hK _ _ (fun _ => hS) ?_
                    try simp only [Act.put, List.setIfInBounds_toArray, List.set_cons_zero, List.set_cons_succ]
                    refine wpAnyT_ready1 (i := 42) (o := ⟨_, _, _, _, _, _⟩) (by kernel_rfl) rfl (fun K hK => ?_)
                    go_simp
                    go_at_call 77
                    refine (S_has v4 _ _ st _ hi4).mono ?_
                    rintro e w' ⟨rfl, rfl⟩
                    rw [HHD.out]
                    refine hK _ _ (fun _ => hS) ?_
                    try simp only [Act.put, List.setIfInBounds_toArray, List.set_cons_zero, List.set_cons_succ]
                    refine wpAnyT_take (i := 43) (oi := ⟨_, _, _, _, _, _⟩) (v := ?vr4_43) (by kernel_rfl) (by decide) rfl (by kernel_rfl) (by kernel_rfl) (by kernel_rfl) (fun _ _ _ h => h) (Or.inl ⟨by rfl, ?hyr4_43⟩) hS ?restr4_43
                    case hyr4_43 =>
                      intro w' hSw
                      obtain ⟨s0, s1, s2, s3⟩ := hSw
                      go_simp
                      try with_reducible rfl
                    try simp only [Act.put, List.setIfInBounds_toArray, List.set_cons_zero, List.set_cons_succ]
                    refine wpAnyT_take (i := 44) (oi := ⟨_, _, _, _, _, _⟩) (v := ?vr4_44) (by kernel_rfl) (by decide) rfl (by kernel_rfl) (by kernel_rfl) (by kernel_rfl) (fun _ _ _ h => h) (Or.inl ⟨by rfl, ?hyr4_44⟩) hS ?restr4_44
                    case hyr4_44 =>
                      intro w' hSw
                      obtain ⟨s0, s1, s2, s3⟩ := hSw
                      go_simp
                      try with_reducible rfl
                    try simp only [Act.put, List.setIfInBounds_toArray, List.set_cons_zero, List.set_cons_succ]
                    refine wpAnyT_take (i := 45) (oi := ⟨_, _, _, _, _, _⟩) (v := ?vr4_45) (by kernel_rfl) (by decide) rfl (by kernel_rfl) (by kernel_rfl) (by kernel_rfl) (fun _ _ _ h => h) (Or.inl ⟨by rfl, ?hyr4_45⟩) hS ?restr4_45
                    case hyr4_45 =>
                      intro w' hSw
                      obtain ⟨s0, s1, s2, s3⟩ := hSw
                      go_simp
                      try with_reducible rfl
                    try simp only [Act.put, List.setIfInBounds_toArray, List.set_cons_zero, List.set_cons_succ]
                    refine wpAnyT_take (i := 46) (oi := ⟨_, _, _, _, _, _⟩) (v := ?vr4_46) (by kernel_rfl) (by decide) rfl (by kernel_rfl) (by kernel_rfl) (by kernel_rfl) (fun _ _ _ h => h) (Or.inl ⟨by rfl, ?hyr4_46⟩) hS ?restr4_46
                    case hyr4_46 =>
                      intro w' hSw
                      obtain ⟨s0, s1, s2, s3⟩ := hSw
                      go_simp
                      try with_reducible rfl
                    try simp only [Act.put, List.setIfInBounds_toArray, List.set_cons_zero, List.set_cons_succ]
                    refine wpAnyT_done (by kernel_rfl) ?_ _
                    all_goals
                      go_wp2_with (at_builtin; refine wpList_append_stmts rfl _ _ rfl _ _ l [⟨9, st, sa, sb⟩] wz.heap.size rfl rfl (hq5.keep al1) (Stmts.feed (Stmts.one (lo := 0) rfl (Nat.zero_le _) 9 st sa sb)) (by simp only [List.length_cons, List.length_nil]; omega) (by have := hB5.size; simp only [World.size_alloc]; omega) ?_; intro q' w5 hq6 hg5 hb5 hf5)
                      go_roundw
                      case rel => exact ⟨j + 1, l ++ [⟨9, st, sa, sb⟩], by omega, by go_num, hq6, by simp; omega, (fun s hs => (List.mem_append.1 hs).elim (HLT2.out s) (fun h => by rw [List.mem_singleton.1 h]; exact hsto)), (hB5.alloc hB5.size _).grown hg5 (by have := hB5.size; simp only [World.size_alloc]; omega) (fun r hr => own_block_ge hq5 r hr)⟩
                      case measure => simp [intOf]; omega
                  · have HHD := Lib.hid hhd
                    clear hhd
                    go_wp2
                    have hS := And.intro cP (And.intro q0 (And.intro q1 b2))
                    refine wp_region_T 47 (by kernel_rfl) (fun w' => w'.cell? ⟨PB, 0, none⟩ = some (.slice (some ⟨ga, 0, none⟩) n0 Cp) ∧ w'.cell? ⟨wr.heap.size, 0, none⟩ = some (.int .i64 9) ∧ w'.cell? ⟨wr.heap.size, 1, none⟩ = some (.int .i64 st) ∧ w'.cell? ⟨ga, b * 4 + 2, none⟩ = some (.slice A2 ps.length C2)) ?_
                    refine wpAnyT_take (i := 0) (oi := ⟨_, _, _, _, _, _⟩) (v := ?vr5_0) (by kernel_rfl) (by decide) rfl (by kernel_rfl) (by kernel_rfl) (by kernel_rfl) (fun _ _ _ h => h) (Or.inl ⟨by rfl, ?hyr5_0⟩) hS ?restr5_0
                    case hyr5_0 =>
                      intro w' hSw
                      obtain ⟨s0, s1, s2, s3⟩ := hSw
                      go_simp
                      try with_reducible rfl
                    try simp only [Act.put, List.setIfInBounds_toArray, List.set_cons_zero, List.set_cons_succ]
                    refine wpAnyT_take (i := 1) (oi := ⟨_, _, _, _, _, _⟩) (v := ?vr5_1) (by kernel_rfl) (by decide) rfl (by kernel_rfl) (by kernel_rfl) (by kernel_rfl) (fun _ _ _ h => h) (Or.inl ⟨by rfl, ?hyr5_1⟩) hS ?restr5_1
                    case hyr5_1 =>
                      intro w' hSw
                      obtain ⟨s0, s1, s2, s3⟩ := hSw
                      go_simp
                      try with_reducible rfl
                    try simp only [Act.put, List.setIfInBounds_toArray, List.set_cons_zero, List.set_cons_succ]
                    refine wpAnyT_take (i := 2) (oi := ⟨_, _, _, _, _, _⟩) (v := ?vr5_2) (by kernel_rfl) (by decide) rfl (by kernel_rfl) (by kernel_rfl) (by kernel_rfl) (fun _ _ _ h => h) (Or.inl ⟨by rfl, ?hyr5_2⟩) hS ?restr5_2
                    case hyr5_2 =>
                      intro w' hSw
                      obtain ⟨s0, s1, s2, s3⟩ := hSw
                      go_simp
                      try with_reducible rfl
                    try simp only [Act.put, List.setIfInBounds_toArray, List.set_cons_zero, List.set_cons_succ]
                    refine wpAnyT_take (i := 3) (oi := ⟨_, _, _, _, _, _⟩) (v := ?vr5_3) (by kernel_rfl) (by decide) rfl (by kernel_rfl) (by kernel_rfl) (by kernel_rfl) (fun _ _ _ h => h) (Or.inl ⟨by rfl, ?hyr5_3⟩) hS ?restr5_3
                    case hyr5_3 =>
                      intro w' hSw
                      obtain ⟨s0, s1, s2, s3⟩ := hSw
                      go_simp
                      try with_reducible rfl
                    try simp only [Act.put, List.setIfInBounds_toArray, List.set_cons_zero, List.set_cons_succ]
                    refine wpAnyT_take (i := 4) (oi := ⟨_, _, _, _, _, _⟩) (v := undef) (by kernel_rfl) (by decide) rfl (by kernel_rfl) (by kernel_rfl) (by kernel_rfl) (fun _ _ _ h => h) (Or.inr ⟨by rfl, rfl⟩) hS ?restr5_4
                    try simp only [Act.put, List.setIfInBounds_toArray, List.set_cons_zero, List.set_cons_succ]
                    refine wpAnyT_take (i := 5) (oi := ⟨_, _, _, _, _, _⟩) (v := undef) (by kernel_rfl) (by decide) rfl (by kernel_rfl) (by kernel_rfl) (by kernel_rfl) (fun _ _ _ h => h) (Or.inr ⟨by rfl, rfl⟩) hS ?restr5_5
                    try simp only [Act.put, List.setIfInBounds_toArray, List.set_cons_zero, List.set_cons_succ]
                    refine wpAnyT_take (i := 6) (oi := ⟨_, _, _, _, _, _⟩) (v := undef) (by kernel_rfl) (by decide) rfl (by kernel_rfl) (by kernel_rfl) (by kernel_rfl) (fun _ _ _ h => h) (Or.inr ⟨by rfl, rfl⟩) hS ?restr5_6
                    try simp only [Act.put, List.setIfInBounds_toArray, List.set_cons_zero, List.set_cons_succ]
                    refine wpAnyT_take (i := 7) (oi := ⟨_, _, _, _, _, _⟩) (v := undef) (by kernel_rfl) (by decide) rfl (by kernel_rfl) (by kernel_rfl) (by kernel_rfl) (fun _ _ _ h => h) (Or.inr ⟨by rfl, rfl⟩) hS ?restr5_7
                    try simp only [Act.put, List.setIfInBounds_toArray, List.set_cons_zero, List.set_cons_succ]
                    refine wpAnyT_ready1 (i := 8) (o := ⟨_, _, _, _, _, _⟩) (by kernel_rfl) rfl (fun K hK => ?_)
                    go_simp
                    refine hK _ _ (fun _ => hS) ?_
                    try simp only [Act.put, List.setIfInBounds_toArray, List.set_cons_zero, List.set_cons_succ]
                    refine wpAnyT_take (i := 9) (oi := ⟨_, _, _, _, _, _⟩) (v := undef) (by kernel_rfl) (by decide) rfl (by kernel_rfl) (by kernel_rfl) (by kernel_rfl) (fun _ _ _ h => h) (Or.inr ⟨by rfl, rfl⟩) hS ?restr5_9
                    try simp only [Act.put, List.setIfInBounds_toArray, List.set_cons_zero, List.set_cons_succ]
                    refine wpAnyT_take (i := 10) (oi := ⟨_, _, _, _, _, _⟩) (v := undef) (by kernel_rfl) (by decide) rfl (by kernel_rfl) (by kernel_rfl) (by kernel_rfl) (fun _ _ _ h => h) (Or.inr ⟨by rfl, rfl⟩) hS ?restr5_10
                    try simp only [Act.put, List.setIfInBounds_toArray, List.set_cons_zero, List.set_cons_succ]
                    refine wpAnyT_take (i := 11) (oi := ⟨_, _, _, _, _, _⟩) (v := undef) (by kernel_rfl) (by decide) rfl (by kernel_rfl) (by kernel_rfl) (by kernel_rfl) (fun _ _ _ h => h) (Or.inr ⟨by rfl, rfl⟩) hS ?restr5_11
                    try simp only [Act.put, List.setIfInBounds_toArray, List.set_cons_zero, List.set_cons_succ]
                    refine wpAnyT_take (i := 12) (oi := ⟨_, _, _, _, _, _⟩) (v := undef) (by kernel_rfl) (by decide) rfl (by kernel_rfl) (by kernel_rfl) (by kernel_rfl) (fun _ _ _ h => h) (Or.inr ⟨by rfl, rfl⟩) hS ?restr5_12
                    try simp only [Act.put, List.setIfInBounds_toArray, List.set_cons_zero, List.set_cons_succ]
                    refine wpAnyT_take (i := 13) (oi := ⟨_, _, _, _, _, _⟩) (v := undef) (by kernel_rfl) (by decide) rfl (by kernel_rfl) (by kernel_rfl) (by kernel_rfl) (fun _ _ _ h => h) (Or.inr ⟨by rfl, rfl⟩) hS ?restr5_13
                    try simp only [Act.put, List.setIfInBounds_toArray, List.set_cons_zero, List.set_cons_succ]
                    refine wpAnyT_take (i := 14) (oi := ⟨_, _, _, _, _, _⟩) (v := undef) (by kernel_rfl) (by decide) rfl (by kernel_rfl) (by kernel_rfl) (by kernel_rfl) (fun _ _ _ h => h) (Or.inr ⟨by rfl, rfl⟩) hS ?restr5_14
                    try simp only [Act.put, List.setIfInBounds_toArray, List.set_cons_zero, List.set_cons_succ]
                    refine wpAnyT_take (i := 15) (oi := ⟨_, _, _, _, _, _⟩) (v := undef) (by kernel_rfl) (by decide) rfl (by kernel_rfl) (by kernel_rfl) (by kernel_rfl) (fun _ _ _ h => h) (Or.inr ⟨by rfl, rfl⟩) hS ?restr5_15
                    try simp only [Act.put, List.setIfInBounds_toArray, List.set_cons_zero, List.set_cons_succ]
                    refine wpAnyT_take (i := 16) (oi := ⟨_, _, _, _, _, _⟩) (v := undef) (by kernel_rfl) (by decide) rfl (by kernel_rfl) (by kernel_rfl) (by kernel_rfl) (fun _ _ _ h => h) (Or.inr ⟨by rfl, rfl⟩) hS ?restr5_16
                    try simp only [Act.put, List.setIfInBounds_toArray, List.set_cons_zero, List.set_cons_succ]
                    refine wpAnyT_take (i := 17) (oi := ⟨_, _, _, _, _, _⟩) (v := undef) (by kernel_rfl) (by decide) rfl (by kernel_rfl) (by kernel_rfl) (by kernel_rfl) (fun _ _ _ h => h) (Or.inr ⟨by rfl, rfl⟩) hS ?restr5_17
                    try simp only [Act.put, List.setIfInBounds_toArray, List.set_cons_zero, List.set_cons_succ]
                    refine wpAnyT_take (i := 18) (oi := ⟨_, _, _, _, _, _⟩) (v := undef) (by kernel_rfl) (by decide) rfl (by kernel_rfl) (by kernel_rfl) (by kernel_rfl) (fun _ _ _ h => h) (Or.inr ⟨by rfl, rfl⟩) hS ?restr5_18
                    try simp only [Act.put, List.setIfInBounds_toArray, List.set_cons_zero, List.set_cons_succ]
                    refine wpAnyT_ready1 (i := 19) (o := ⟨_, _, _, _, _, _⟩) (by kernel_rfl) rfl (fun K hK => ?_)
                    go_simp
                    refine hK _ _ (fun _ => hS) ?_
                    try simp only [Act.put, List.setIfInBounds_toArray, List.set_cons_zero, List.set_cons_succ]
                    refine wpAnyT_take (i := 20) (oi := ⟨_, _, _, _, _, _⟩) (v := undef) (by kernel_rfl) (by decide) rfl (by kernel_rfl) (by kernel_rfl) (by kernel_rfl) (fun _ _ _ h => h) (Or.inr ⟨by rfl, rfl⟩) hS ?restr5_20
                    try simp only [Act.put, List.setIfInBounds_toArray, List.set_cons_zero, List.set_cons_succ]
                    refine wpAnyT_take (i := 21) (oi := ⟨_, _, _, _, _, _⟩) (v := ?vr5_21) (by kernel_rfl) (by decide) rfl (by kernel_rfl) (by kernel_rfl) (by kernel_rfl) (fun _ _ _ h => h) (Or.inl ⟨by rfl, ?hyr5_21⟩) hS ?restr5_21
                    case hyr5_21 =>
                      intro w' hSw
                      obtain ⟨s0, s1, s2, s3⟩ := hSw
                      go_simp
                      try with_reducible rfl
                    try simp only [Act.put, List.setIfInBounds_toArray, List.set_cons_zero, List.set_cons_succ]
                    refine wpAnyT_take (i := 22) (oi := ⟨_, _, _, _, _, _⟩) (v := ?vr5_22) (by kernel_rfl) (by decide) rfl (by kernel_rfl) (by kernel_rfl) (by kernel_rfl) (fun _ _ _ h => h) (Or.inl ⟨by rfl, ?hyr5_22⟩) hS ?restr5_22
                    case hyr5_22 =>
                      intro w' hSw
                      obtain ⟨s0, s1, s2, s3⟩ := hSw
                      go_simp
                      try with_reducible rfl
                    try simp only [Act.put, List.setIfInBounds_toArray, List.set_cons_zero, List.set_cons_succ]
                    refine wpAnyT_take (i := 23) (oi := ⟨_, _, _, _, _, _⟩) (v := ?vr5_23) (by kernel_rfl) (by decide) rfl (by kernel_rfl) (by kernel_rfl) (by kernel_rfl) (fun _ _ _ h => h) (Or.inl ⟨by rfl, ?hyr5_23⟩) hS ?restr5_23
                    case hyr5_23 =>
                      intro w' hSw
                      obtain ⟨s0, s1, s2, s3⟩ := hSw
                      go_simp
                      try with_reducible rfl
                    try simp only [Act.put, List.setIfInBounds_toArray, List.set_cons_zero, List.set_cons_succ]
                    refine wpAnyT_take (i := 24) (oi := ⟨_, _, _, _, _, _⟩) (v := ?vr5_24) (by kernel_rfl) (by decide) rfl (by kernel_rfl) (by kernel_rfl) (by kernel_rfl) (fun _ _ _ h => h) (Or.inl ⟨by rfl, ?hyr5_24⟩) hS ?restr5_24
                    case hyr5_24 =>
                      intro w' hSw
                      obtain ⟨s0, s1, s2, s3⟩ := hSw
                      go_simp
                      try with_reducible rfl
                    try simp only [Act.put, List.setIfInBounds_toArray, List.set_cons_zero, List.set_cons_succ]
                    refine wpAnyT_take (i := 25) (oi := ⟨_, _, _, _, _, _⟩) (v := ?vr5_25) (by kernel_rfl) (by decide) rfl (by kernel_rfl) (by kernel_rfl) (by kernel_rfl) (fun _ _ _ h => h) (Or.inl ⟨by rfl, ?hyr5_25⟩) hS ?restr5_25
                    case hyr5_25 =>
                      intro w' hSw
                      obtain ⟨s0, s1, s2, s3⟩ := hSw
                      go_simp
                      try with_reducible rfl
                    try simp only [Act.put, List.setIfInBounds_toArray, List.set_cons_zero, List.set_cons_succ]
                    refine wpAnyT_take (i := 26) (oi := ⟨_, _, _, _, _, _⟩) (v := ?vr5_26) (by kernel_rfl) (by decide) rfl (by kernel_rfl) (by kernel_rfl) (by kernel_rfl) (fun _ _ _ h => h) (Or.inl ⟨by rfl, ?hyr5_26⟩) hS ?restr5_26
                    case hyr5_26 =>
                      intro w' hSw
                      obtain ⟨s0, s1, s2, s3⟩ := hSw
                      go_simp
                      try with_reducible rfl
                    try simp only [Act.put, List.setIfInBounds_toArray, List.set_cons_zero, List.set_cons_succ]
                    refine wpAnyT_take (i := 27) (oi := ⟨_, _, _, _, _, _⟩) (v := ?vr5_27) (by kernel_rfl) (by decide) rfl (by kernel_rfl) (by kernel_rfl) (by kernel_rfl) (fun _ _ _ h => h) (Or.inl ⟨by rfl, ?hyr5_27⟩) hS ?restr5_27
                    case hyr5_27 =>
                      intro w' hSw
                      obtain ⟨s0, s1, s2, s3⟩ := hSw
                      go_simp
                      try with_reducible rfl
                    try simp only [Act.put, List.setIfInBounds_toArray, List.set_cons_zero, List.set_cons_succ]
                    refine wpAnyT_take (i := 28) (oi := ⟨_, _, _, _, _, _⟩) (v := ?vr5_28) (by kernel_rfl) (by decide) rfl (by kernel_rfl) (by kernel_rfl) (by kernel_rfl) (fun _ _ _ h => h) (Or.inl ⟨by rfl, ?hyr5_28⟩) hS ?restr5_28
                    case hyr5_28 =>
                      intro w' hSw
                      obtain ⟨s0, s1, s2, s3⟩ := hSw
                      go_simp
                      try with_reducible rfl
                    try simp only [Act.put, List.setIfInBounds_toArray, List.set_cons_zero, List.set_cons_succ]
                    refine wpAnyT_take (i := 29) (oi := ⟨_, _, _, _, _, _⟩) (v := ?vr5_29) (by kernel_rfl) (by decide) rfl (by kernel_rfl) (by kernel_rfl) (by kernel_rfl) (fun _ _ _ h => h) (Or.inl ⟨by rfl, ?hyr5_29⟩) hS ?restr5_29
                    case hyr5_29 =>
                      intro w' hSw
                      obtain ⟨s0, s1, s2, s3⟩ := hSw
                      go_simp
                      try with_reducible rfl
                    try simp only [Act.put, List.setIfInBounds_toArray, List.set_cons_zero, List.set_cons_succ]
                    refine wpAnyT_take (i := 30) (oi := ⟨_, _, _, _, _, _⟩) (v := ?vr5_30) (by kernel_rfl) (by decide) rfl (by kernel_rfl) (by kernel_rfl) (by kernel_rfl) (fun _ _ _ h => h) (Or.inl ⟨by rfl, ?hyr5_30⟩) hS ?restr5_30
                    case hyr5_30 =>
                      intro w' hSw
                      obtain ⟨s0, s1, s2, s3⟩ := hSw
                      go_simp
                      try with_reducible rfl
                    try simp only [Act.put, List.setIfInBounds_toArray, List.set_cons_zero, List.set_cons_succ]
                    refine wpAnyT_take (i := 31) (oi := ⟨_, _, _, _, _, _⟩) (v := ?vr5_31) (by kernel_rfl) (by decide) rfl (by kernel_rfl) (by kernel_rfl) (by kernel_rfl) (fun _ _ _ h => h) (Or.inl ⟨by rfl, ?hyr5_31⟩) hS ?restr5_31
                    case hyr5_31 =>
                      intro w' hSw
                      obtain ⟨s0, s1, s2, s3⟩ := hSw
                      go_simp
                      try with_reducible rfl
                    try simp only [Act.put, List.setIfInBounds_toArray, List.set_cons_zero, List.set_cons_succ]
                    refine wpAnyT_take (i := 32) (oi := ⟨_, _, _, _, _, _⟩) (v := ?vr5_32) (by kernel_rfl) (by decide) rfl (by kernel_rfl) (by kernel_rfl) (by kernel_rfl) (fun _ _ _ h => h) (Or.inl ⟨by rfl, ?hyr5_32⟩) hS ?restr5_32
                    case hyr5_32 =>
                      intro w' hSw
                      obtain ⟨s0, s1, s2, s3⟩ := hSw
                      go_simp
                      try with_reducible rfl
                    try simp only [Act.put, List.setIfInBounds_toArray, List.set_cons_zero, List.set_cons_succ]
                    refine wpAnyT_take (i := 33) (oi := ⟨_, _, _, _, _, _⟩) (v := ?vr5_33) (by kernel_rfl) (by decide) rfl (by kernel_rfl) (by kernel_rfl) (by kernel_rfl) (fun _ _ _ h => h) (Or.inl ⟨by rfl, ?hyr5_33⟩) hS ?restr5_33
                    case hyr5_33 =>
                      intro w' hSw
                      obtain ⟨s0, s1, s2, s3⟩ := hSw
                      go_simp
                      try with_reducible rfl
                    try simp only [Act.put, List.setIfInBounds_toArray, List.set_cons_zero, List.set_cons_succ]
                    refine wpAnyT_take (i := 34) (oi := ⟨_, _, _, _, _, _⟩) (v := ?vr5_34) (by kernel_rfl) (by decide) rfl (by kernel_rfl) (by kernel_rfl) (by kernel_rfl) (fun _ _ _ h => h) (Or.inl ⟨by rfl, ?hyr5_34⟩) hS ?restr5_34
                    case hyr5_34 =>
                      intro w' hSw
                      obtain ⟨s0, s1, s2, s3⟩ := hSw
                      go_simp
                      try with_reducible rfl
                    try simp only [Act.put, List.setIfInBounds_toArray, List.set_cons_zero, List.set_cons_succ]
                    refine wpAnyT_ready1 (i := 35) (o := ⟨_, _, _, _, _, _⟩) (by kernel_rfl) rfl (fun K hK => ?_)
                    go_simp
                    go_at_call 77
                    refine (S_has _ _ _ st _ hpv5).mono ?_
                    rintro e w' ⟨rfl, rfl⟩
                    rw [HHP.out]
                    refine hK _ _ (fun _ => hS) ?_
                    try simp only [Act.put, List.setIfInBounds_toArray, List.set_cons_zero, List.set_cons_succ]
                    refine wpAnyT_take (i := 36) (oi := ⟨_, _, _, _, _, _⟩) (v := ?vr5_36) (by kernel_rfl) (by decide) rfl (by kernel_rfl) (by kernel_rfl) (by kernel_rfl) (fun _ _ _ h => h) (Or.inl ⟨by rfl, ?hyr5_36⟩) hS ?restr5_36
                    case hyr5_36 =>
                      intro w' hSw
                      obtain ⟨s0, s1, s2, s3⟩ := hSw
                      go_simp
                      try with_reducible rfl
                    try simp only [Act.put, List.setIfInBounds_toArray, List.set_cons_zero, List.set_cons_succ]
                    refine wpAnyT_take (i := 37) (oi := ⟨_, _, _, _, _, _⟩) (v := ?vr5_37) (by kernel_rfl) (by decide) rfl (by kernel_rfl) (by kernel_rfl) (by kernel_rfl) (fun _ _ _ h => h) (Or.inl ⟨by rfl, ?hyr5_37⟩) hS ?restr5_37
                    case hyr5_37 =>
                      intro w' hSw
                      obtain ⟨s0, s1, s2, s3⟩ := hSw
                      go_simp
                      try with_reducible rfl
                    try simp only [Act.put, List.setIfInBounds_toArray, List.set_cons_zero, List.set_cons_succ]
                    refine wpAnyT_take (i := 38) (oi := ⟨_, _, _, _, _, _⟩) (v := ?vr5_38) (by kernel_rfl) (by decide) rfl (by kernel_rfl) (by kernel_rfl) (by kernel_rfl) (fun _ _ _ h => h) (Or.inl ⟨by rfl, ?hyr5_38⟩) hS ?restr5_38
                    case hyr5_38 =>
                      intro w' hSw
                      obtain ⟨s0, s1, s2, s3⟩ := hSw
                      go_simp
                      try with_reducible rfl
                    try simp only [Act.put, List.setIfInBounds_toArray, List.set_cons_zero, List.set_cons_succ]
                    refine wpAnyT_take (i := 40) (oi := ⟨_, _, _, _, _, _⟩) (v := ?vr5_40) (by kernel_rfl) (by decide) rfl (by kernel_rfl) (by kernel_rfl) (by kernel_rfl) (fun _ _ _ h => h) (Or.inl ⟨by rfl, ?hyr5_40⟩) hS ?restr5_40
                    case hyr5_40 =>
                      intro w' hSw
                      obtain ⟨s0, s1, s2, s3⟩ := hSw
                      go_simp
                      try with_reducible rfl
                    try simp only [Act.put, List.setIfInBounds_toArray, List.set_cons_zero, List.set_cons_succ]
                    refine wpAnyT_take (i := 41) (oi := ⟨_, _, _, _, _, _⟩) (v := ?vr5_41) (by kernel_rfl) (by decide) rfl (by kernel_rfl) (by kernel_rfl) (by kernel_rfl) (fun _ _ _ h => h) (Or.inl ⟨by rfl, ?hyr5_41⟩) hS ?restr5_41
                    case hyr5_41 =>
                      intro w' hSw
                      obtain ⟨s0, s1, s2, s3⟩ := hSw
                      go_simp
                      try with_reducible rfl
                    try simp only [Act.put, List.setIfInBounds_toArray, List.set_cons_zero, List.set_cons_succ]
                    refine wpAnyT_ready1 (i := 39) (o := ⟨_, _, _, _, _, _⟩) (by kernel_rfl) rfl (fun K hK => ?_)
                    go_simp
                    go_at_call 76
                    refine (S_declared _ p (w.heap.size + 1) b 10 _ ⟨_, rfl, PRowX.blks hrow5⟩ (by omega) (by omega) (by omega) (Nat.le_trans (hwk.body b (by omega) (by omega)) (by omega))).mono ?_
                    rintro e wu ⟨v4, rfl, hi4, hbu⟩
                    have cP := cell_later hbu cP
                    have b2 := cell_later hbu b2
                    have q0 := cell_later hbu q0
                    have q1 := cell_later hbu q1
                    have q2 := cell_later hbu q2
                    have q3 := cell_later hbu q3
                    have hB5 := bthen hB5 hbu
                    have hrow5 := PRowX.keep hrow5 hbu
                    have hpv5 := hpv5.keep hbu
                    have hq5 := hq5.keep hbu
                    have hsz5 := Nat.lt_of_lt_of_le hsz5 hbu.size
                    have hS := And.intro cP (And.intro q0 (And.intro q1 b2))
                    refine hK _ _ (fun _ => hS) ?_
                    try simp only [Act.put, List.setIfInBounds_toArray, List.set_cons_zero, List.set_cons_succ]
                    refine wpAnyT_ready1 (i := 42) (o := ⟨_, _, _, _, _, _⟩) (by kernel_rfl) rfl (fun K hK => ?_)
                    go_simp
                    go_at_call 77
                    refine (S_has v4 _ _ st _ hi4).mono ?_
                    rintro e w' ⟨rfl, rfl⟩
                    rw [HHD.out]
                    refine hK _ _ (fun _ => hS) ?_
                    try simp only [Act.put, List.setIfInBounds_toArray, List.set_cons_zero, List.set_cons_succ]
                    refine wpAnyT_take (i := 43) (oi := ⟨_, _, _, _, _, _⟩) (v := ?vr5_43) (by kernel_rfl) (by decide) rfl (by kernel_rfl) (by kernel_rfl) (by kernel_rfl) (fun _ _ _ h => h) (Or.inl ⟨by rfl, ?hyr5_43⟩) hS ?restr5_43
                    case hyr5_43 =>
                      intro w' hSw
                      obtain ⟨s0, s1, s2, s3⟩ := hSw
                      go_simp
                      try with_reducible rfl
                    try simp only [Act.put, List.setIfInBounds_toArray, List.set_cons_zero, List.set_cons_succ]
                    refine wpAnyT_take (i := 44) (oi := ⟨_, _, _, _, _, _⟩) (v := ?vr5_44) (by kernel_rfl) (by decide) rfl (by kernel_rfl) (by kernel_rfl) (by kernel_rfl) (fun _ _ _ h => h) (Or.inl ⟨by rfl, ?hyr5_44⟩) hS ?restr5_44
                    case hyr5_44 =>
                      intro w' hSw
                      obtain ⟨s0, s1, s2, s3⟩ := hSw
                      go_simp
                      try with_reducible rfl
                    try simp only [Act.put, List.setIfInBounds_toArray, List.set_cons_zero, List.set_cons_succ]
                    refine wpAnyT_take (i := 45) (oi := ⟨_, _, _, _, _, _⟩) (v := ?vr5_45) (by kernel_rfl) (by decide) rfl (by kernel_rfl) (by kernel_rfl) (by kernel_rfl) (fun _ _ _ h => h) (Or.inl ⟨by rfl, ?hyr5_45⟩) hS ?restr5_45
                    case hyr5_45 =>
                      intro w' hSw
                      obtain ⟨s0, s1, s2, s3⟩ := hSw
                      go_simp
                      try with_reducible rfl
                    try simp only [Act.put, List.setIfInBounds_toArray, List.set_cons_zero, List.set_cons_succ]
                    refine wpAnyT_take (i := 46) (oi := ⟨_, _, _, _, _, _⟩) (v := ?vr5_46) (by kernel_rfl) (by decide) rfl (by kernel_rfl) (by kernel_rfl) (by kernel_rfl) (fun _ _ _ h => h) (Or.inl ⟨by rfl, ?hyr5_46⟩) hS ?restr5_46
                    case hyr5_46 =>
                      intro w' hSw
                      obtain ⟨s0, s1, s2, s3⟩ := hSw
                      go_simp
                      try with_reducible rfl
                    try simp only [Act.put, List.setIfInBounds_toArray, List.set_cons_zero, List.set_cons_succ]
                    refine wpAnyT_done (by kernel_rfl) ?_ _
                    all_goals
                      go_wp2
                      go_roundw
                      case rel => exact ⟨j + 1, l, by omega, by go_num, hq5, by omega, HLT2.out, hB5⟩
                      case measure => simp [intOf]; omega
                · have HHP := Lib.hid hhp
                  clear hhp
                  go_wp2
                  have hS := And.intro cP (And.intro q0 (And.intro q1 b2))
                  refine wp_region_T 47 (by kernel_rfl) (fun w' => w'.cell? ⟨PB, 0, none⟩ = some (.slice (some ⟨ga, 0, none⟩) n0 Cp) ∧ w'.cell? ⟨wr.heap.size, 0, none⟩ = some (.int .i64 9) ∧ w'.cell? ⟨wr.heap.size, 1, none⟩ = some (.int .i64 st) ∧ w'.cell? ⟨ga, b * 4 + 2, none⟩ = some (.slice A2 ps.length C2)) ?_
                  refine wpAnyT_take (i := 0) (oi := ⟨_, _, _, _, _, _⟩) (v := ?vr6_0) (by kernel_rfl) (by decide) rfl (by kernel_rfl) (by kernel_rfl) (by kernel_rfl) (fun _ _ _ h => h) (Or.inl ⟨by rfl, ?hyr6_0⟩) hS ?restr6_0
                  case hyr6_0 =>
                    intro w' hSw
                    obtain ⟨s0, s1, s2, s3⟩ := hSw
                    go_simp
                    try with_reducible rfl
                  try simp only [Act.put, List.setIfInBounds_toArray, List.set_cons_zero, List.set_cons_succ]
                  refine wpAnyT_take (i := 1) (oi := ⟨_, _, _, _, _, _⟩) (v := ?vr6_1) (by kernel_rfl) (by decide) rfl (by kernel_rfl) (by kernel_rfl) (by kernel_rfl) (fun _ _ _ h => h) (Or.inl ⟨by rfl, ?hyr6_1⟩) hS ?restr6_1
                  case hyr6_1 =>
                    intro w' hSw
                    obtain ⟨s0, s1, s2, s3⟩ := hSw
                    go_simp
                    try with_reducible rfl
                  try simp only [Act.put, List.setIfInBounds_toArray, List.set_cons_zero, List.set_cons_succ]
                  refine wpAnyT_take (i := 2) (oi := ⟨_, _, _, _, _, _⟩) (v := ?vr6_2) (by kernel_rfl) (by decide) rfl (by kernel_rfl) (by kernel_rfl) (by kernel_rfl) (fun _ _ _ h => h) (Or.inl ⟨by rfl, ?hyr6_2⟩) hS ?restr6_2
                  case hyr6_2 =>
                    intro w' hSw
                    obtain ⟨s0, s1, s2, s3⟩ := hSw
                    go_simp
                    try with_reducible rfl
                  try simp only [Act.put, List.setIfInBounds_toArray, List.set_cons_zero, List.set_cons_succ]
                  refine wpAnyT_take (i := 3) (oi := ⟨_, _, _, _, _, _⟩) (v := ?vr6_3) (by kernel_rfl) (by decide) rfl (by kernel_rfl) (by kernel_rfl) (by kernel_rfl) (fun _ _ _ h => h) (Or.inl ⟨by rfl, ?hyr6_3⟩) hS ?restr6_3
                  case hyr6_3 =>
                    intro w' hSw
                    obtain ⟨s0, s1, s2, s3⟩ := hSw
                    go_simp
                    try with_reducible rfl
                  try simp only [Act.put, List.setIfInBounds_toArray, List.set_cons_zero, List.set_cons_succ]
                  refine wpAnyT_take (i := 4) (oi := ⟨_, _, _, _, _, _⟩) (v := undef) (by kernel_rfl) (by decide) rfl (by kernel_rfl) (by kernel_rfl) (by kernel_rfl) (fun _ _ _ h => h) (Or.inr ⟨by rfl, rfl⟩) hS ?restr6_4
                  try simp only [Act.put, List.setIfInBounds_toArray, List.set_cons_zero, List.set_cons_succ]
                  refine wpAnyT_take (i := 5) (oi := ⟨_, _, _, _, _, _⟩) (v := undef) (by kernel_rfl) (by decide) rfl (by kernel_rfl) (by kernel_rfl) (by kernel_rfl) (fun _ _ _ h => h) (Or.inr ⟨by rfl, rfl⟩) hS ?restr6_5
                  try simp only [Act.put, List.setIfInBounds_toArray, List.set_cons_zero, List.set_cons_succ]
                  refine wpAnyT_take (i := 6) (oi := ⟨_, _, _, _, _, _⟩) (v := undef) (by kernel_rfl) (by decide) rfl (by kernel_rfl) (by kernel_rfl) (by kernel_rfl) (fun _ _ _ h => h) (Or.inr ⟨by rfl, rfl⟩) hS ?restr6_6
                  try simp only [Act.put, List.setIfInBounds_toArray, List.set_cons_zero, List.set_cons_succ]
                  refine wpAnyT_take (i := 7) (oi := ⟨_, _, _, _, _, _⟩) (v := undef) (by kernel_rfl) (by decide) rfl (by kernel_rfl) (by kernel_rfl) (by kernel_rfl) (fun _ _ _ h => h) (Or.inr ⟨by rfl, rfl⟩) hS ?restr6_7
                  try simp only [Act.put, List.setIfInBounds_toArray, List.set_cons_zero, List.set_cons_succ]
                  refine wpAnyT_ready1 (i := 8) (o := ⟨_, _, _, _, _, _⟩) (by kernel_rfl) rfl (fun K hK => ?_)
                  go_simp
                  refine hK _ _ (fun _ => hS) ?_
                  try simp only [Act.put, List.setIfInBounds_toArray, List.set_cons_zero, List.set_cons_succ]
                  refine wpAnyT_take (i := 9) (oi := ⟨_, _, _, _, _, _⟩) (v := undef) (by kernel_rfl) (by decide) rfl (by kernel_rfl) (by kernel_rfl) (by kernel_rfl) (fun _ _ _ h => h) (Or.inr ⟨by rfl, rfl⟩) hS ?restr6_9
                  try simp only [Act.put, List.setIfInBounds_toArray, List.set_cons_zero, List.set_cons_succ]
                  refine wpAnyT_take (i := 10) (oi := ⟨_, _, _, _, _, _⟩) (v := undef) (by kernel_rfl) (by decide) rfl (by kernel_rfl) (by kernel_rfl) (by kernel_rfl) (fun _ _ _ h => h) (Or.inr ⟨by rfl, rfl⟩) hS ?restr6_10
                  try simp only [Act.put, List.setIfInBounds_toArray, List.set_cons_zero, List.set_cons_succ]
                  refine wpAnyT_take (i := 11) (oi := ⟨_, _, _, _, _, _⟩) (v := undef) (by kernel_rfl) (by decide) rfl (by kernel_rfl) (by kernel_rfl) (by kernel_rfl) (fun _ _ _ h => h) (Or.inr ⟨by rfl, rfl⟩) hS ?restr6_11
                  try simp only [Act.put, List.setIfInBounds_toArray, List.set_cons_zero, List.set_cons_succ]
                  refine wpAnyT_take (i := 12) (oi := ⟨_, _, _, _, _, _⟩) (v := undef) (by kernel_rfl) (by decide) rfl (by kernel_rfl) (by kernel_rfl) (by kernel_rfl) (fun _ _ _ h => h) (Or.inr ⟨by rfl, rfl⟩) hS ?restr6_12
                  try simp only [Act.put, List.setIfInBounds_toArray, List.set_cons_zero, List.set_cons_succ]
                  refine wpAnyT_take (i := 13) (oi := ⟨_, _, _, _, _, _⟩) (v := undef) (by kernel_rfl) (by decide) rfl (by kernel_rfl) (by kernel_rfl) (by kernel_rfl) (fun _ _ _ h => h) (Or.inr ⟨by rfl, rfl⟩) hS ?restr6_13
                  try simp only [Act.put, List.setIfInBounds_toArray, List.set_cons_zero, List.set_cons_succ]
                  refine wpAnyT_take (i := 14) (oi := ⟨_, _, _, _, _, _⟩) (v := undef) (by kernel_rfl) (by decide) rfl (by kernel_rfl) (by kernel_rfl) (by kernel_rfl) (fun _ _ _ h => h) (Or.inr ⟨by rfl, rfl⟩) hS ?restr6_14
                  try simp only [Act.put, List.setIfInBounds_toArray, List.set_cons_zero, List.set_cons_succ]
                  refine wpAnyT_take (i := 15) (oi := ⟨_, _, _, _, _, _⟩) (v := undef) (by kernel_rfl) (by decide) rfl (by kernel_rfl) (by kernel_rfl) (by kernel_rfl) (fun _ _ _ h => h) (Or.inr ⟨by rfl, rfl⟩) hS ?restr6_15
                  try simp only [Act.put, List.setIfInBounds_toArray, List.set_cons_zero, List.set_cons_succ]
                  refine wpAnyT_take (i := 16) (oi := ⟨_, _, _, _, _, _⟩) (v := undef) (by kernel_rfl) (by decide) rfl (by kernel_rfl) (by kernel_rfl) (by kernel_rfl) (fun _ _ _ h => h) (Or.inr ⟨by rfl, rfl⟩) hS ?restr6_16
                  try simp only [Act.put, List.setIfInBounds_toArray, List.set_cons_zero, List.set_cons_succ]
                  refine wpAnyT_take (i := 17) (oi := ⟨_, _, _, _, _, _⟩) (v := undef) (by kernel_rfl) (by decide) rfl (by kernel_rfl) (by kernel_rfl) (by kernel_rfl) (fun _ _ _ h => h) (Or.inr ⟨by rfl, rfl⟩) hS ?restr6_17
                  try simp only [Act.put, List.setIfInBounds_toArray, List.set_cons_zero, List.set_cons_succ]
                  refine wpAnyT_take (i := 18) (oi := ⟨_, _, _, _, _, _⟩) (v := undef) (by kernel_rfl) (by decide) rfl (by kernel_rfl) (by kernel_rfl) (by kernel_rfl) (fun _ _ _ h => h) (Or.inr ⟨by rfl, rfl⟩) hS ?restr6_18
                  try simp only [Act.put, List.setIfInBounds_toArray, List.set_cons_zero, List.set_cons_succ]
                  refine wpAnyT_ready1 (i := 19) (o := ⟨_, _, _, _, _, _⟩) (by kernel_rfl) rfl (fun K hK => ?_)
                  go_simp
                  refine hK _ _ (fun _ => hS) ?_
                  try simp only [Act.put, List.setIfInBounds_toArray, List.set_cons_zero, List.set_cons_succ]
                  refine wpAnyT_take (i := 20) (oi := ⟨_, _, _, _, _, _⟩) (v := undef) (by kernel_rfl) (by decide) rfl (by kernel_rfl) (by kernel_rfl) (by kernel_rfl) (fun _ _ _ h => h) (Or.inr ⟨by rfl, rfl⟩) hS ?restr6_20
                  try simp only [Act.put, List.setIfInBounds_toArray, List.set_cons_zero, List.set_cons_succ]
                  refine wpAnyT_take (i := 21) (oi := ⟨_, _, _, _, _, _⟩) (v := ?vr6_21) (by kernel_rfl) (by decide) rfl (by kernel_rfl) (by kernel_rfl) (by kernel_rfl) (fun _ _ _ h => h) (Or.inl ⟨by rfl, ?hyr6_21⟩) hS ?restr6_21
                  case hyr6_21 =>
                    intro w' hSw
                    obtain ⟨s0, s1, s2, s3⟩ := hSw
                    go_simp
                    try with_reducible rfl
                  try simp only [Act.put, List.setIfInBounds_toArray, List.set_cons_zero, List.set_cons_succ]
                  refine wpAnyT_take (i := 22) (oi := ⟨_, _, _, _, _, _⟩) (v := ?vr6_22) (by kernel_rfl) (by decide) rfl (by kernel_rfl) (by kernel_rfl) (by kernel_rfl) (fun _ _ _ h => h) (Or.inl ⟨by rfl, ?hyr6_22⟩) hS ?restr6_22
                  case hyr6_22 =>
                    intro w' hSw
                    obtain ⟨s0, s1, s2, s3⟩ := hSw
                    go_simp
                    try with_reducible rfl
                  try simp only [Act.put, List.setIfInBounds_toArray, List.set_cons_zero, List.set_cons_succ]
                  refine wpAnyT_take (i := 23) (oi := ⟨_, _, _, _, _, _⟩) (v := ?vr6_23) (by kernel_rfl) (by decide) rfl (by kernel_rfl) (by kernel_rfl) (by kernel_rfl) (fun _ _ _ h => h) (Or.inl ⟨by rfl, ?hyr6_23⟩) hS ?restr6_23
                  case hyr6_23 =>
                    intro w' hSw
                    obtain ⟨s0, s1, s2, s3⟩ := hSw
                    go_simp
                    try with_reducible rfl
                  try simp only [Act.put, List.setIfInBounds_toArray, List.set_cons_zero, List.set_cons_succ]
                  refine wpAnyT_take (i := 24) (oi := ⟨_, _, _, _, _, _⟩) (v := ?vr6_24) (by kernel_rfl) (by decide) rfl (by kernel_rfl) (by kernel_rfl) (by kernel_rfl) (fun _ _ _ h => h) (Or.inl ⟨by rfl, ?hyr6_24⟩) hS ?restr6_24
                  case hyr6_24 =>
                    intro w' hSw
                    obtain ⟨s0, s1, s2, s3⟩ := hSw
                    go_simp
                    try with_reducible rfl
                  try simp only [Act.put, List.setIfInBounds_toArray, List.set_cons_zero, List.set_cons_succ]
                  refine wpAnyT_take (i := 25) (oi := ⟨_, _, _, _, _, _⟩) (v := ?vr6_25) (by kernel_rfl) (by decide) rfl (by kernel_rfl) (by kernel_rfl) (by kernel_rfl) (fun _ _ _ h => h) (Or.inl ⟨by rfl, ?hyr6_25⟩) hS ?restr6_25
                  case hyr6_25 =>
                    intro w' hSw
                    obtain ⟨s0, s1, s2, s3⟩ := hSw
                    go_simp
                    try with_reducible rfl
                  try simp only [Act.put, List.setIfInBounds_toArray, List.set_cons_zero, List.set_cons_succ]
                  refine wpAnyT_take (i := 26) (oi := ⟨_, _, _, _, _, _⟩) (v := ?vr6_26) (by kernel_rfl) (by decide) rfl (by kernel_rfl) (by kernel_rfl) (by kernel_rfl) (fun _ _ _ h => h) (Or.inl ⟨by rfl, ?hyr6_26⟩) hS ?restr6_26
                  case hyr6_26 =>
                    intro w' hSw
                    obtain ⟨s0, s1, s2, s3⟩ := hSw
                    go_simp
                    try with_reducible rfl
                  try simp only [Act.put, List.setIfInBounds_toArray, List.set_cons_zero, List.set_cons_succ]
                  refine wpAnyT_take (i := 27) (oi := ⟨_, _, _, _, _, _⟩) (v := ?vr6_27) (by kernel_rfl) (by decide) rfl (by kernel_rfl) (by kernel_rfl) (by kernel_rfl) (fun _ _ _ h => h) (Or.inl ⟨by rfl, ?hyr6_27⟩) hS ?restr6_27
                  case hyr6_27 =>
                    intro w' hSw
                    obtain ⟨s0, s1, s2, s3⟩ := hSw
                    go_simp
                    try with_reducible rfl
                  try simp only [Act.put, List.setIfInBounds_toArray, List.set_cons_zero, List.set_cons_succ]
                  refine wpAnyT_take (i := 28) (oi := ⟨_, _, _, _, _, _⟩) (v := ?vr6_28) (by kernel_rfl) (by decide) rfl (by kernel_rfl) (by kernel_rfl) (by kernel_rfl) (fun _ _ _ h => h) (Or.inl ⟨by rfl, ?hyr6_28⟩) hS ?restr6_28
                  case hyr6_28 =>
                    intro w' hSw
                    obtain ⟨s0, s1, s2, s3⟩ := hSw
                    go_simp
                    try with_reducible rfl
                  try simp only [Act.put, List.setIfInBounds_toArray, List.set_cons_zero, List.set_cons_succ]
                  refine wpAnyT_take (i := 29) (oi := ⟨_, _, _, _, _, _⟩) (v := ?vr6_29) (by kernel_rfl) (by decide) rfl (by kernel_rfl) (by kernel_rfl) (by kernel_rfl) (fun _ _ _ h => h) (Or.inl ⟨by rfl, ?hyr6_29⟩) hS ?restr6_29
                  case hyr6_29 =>
                    intro w' hSw
                    obtain ⟨s0, s1, s2, s3⟩ := hSw
                    go_simp
                    try with_reducible rfl
                  try simp only [Act.put, List.setIfInBounds_toArray, List.set_cons_zero, List.set_cons_succ]
                  refine wpAnyT_take (i := 30) (oi := ⟨_, _, _, _, _, _⟩) (v := ?vr6_30) (by kernel_rfl) (by decide) rfl (by kernel_rfl) (by kernel_rfl) (by kernel_rfl) (fun _ _ _ h => h) (Or.inl ⟨by rfl, ?hyr6_30⟩) hS ?restr6_30
                  case hyr6_30 =>
                    intro w' hSw
                    obtain ⟨s0, s1, s2, s3⟩ := hSw
                    go_simp
                    try with_reducible rfl
                  try simp only [Act.put, List.setIfInBounds_toArray, List.set_cons_zero, List.set_cons_succ]
                  refine wpAnyT_take (i := 31) (oi := ⟨_, _, _, _, _, _⟩) (v := ?vr6_31) (by kernel_rfl) (by decide) rfl (by kernel_rfl) (by kernel_rfl) (by kernel_rfl) (fun _ _ _ h => h) (Or.inl ⟨by rfl, ?hyr6_31⟩) hS ?restr6_31
                  case hyr6_31 =>
                    intro w' hSw
                    obtain ⟨s0, s1, s2, s3⟩ := hSw
                    go_simp
                    try with_reducible rfl
                  try simp only [Act.put, List.setIfInBounds_toArray, List.set_cons_zero, List.set_cons_succ]
                  refine wpAnyT_take (i := 32) (oi := ⟨_, _, _, _, _, _⟩) (v := ?vr6_32) (by kernel_rfl) (by decide) rfl (by kernel_rfl) (by kernel_rfl) (by kernel_rfl) (fun _ _ _ h => h) (Or.inl ⟨by rfl, ?hyr6_32⟩) hS ?restr6_32
                  case hyr6_32 =>
                    intro w' hSw
                    obtain ⟨s0, s1, s2, s3⟩ := hSw
                    go_simp
                    try with_reducible rfl
                  try simp only [Act.put, List.setIfInBounds_toArray, List.set_cons_zero, List.set_cons_succ]
                  refine wpAnyT_take (i := 33) (oi := ⟨_, _, _, _, _, _⟩) (v := ?vr6_33) (by kernel_rfl) (by decide) rfl (by kernel_rfl) (by kernel_rfl) (by kernel_rfl) (fun _ _ _ h => h) (Or.inl ⟨by rfl, ?hyr6_33⟩) hS ?restr6_33
                  case hyr6_33 =>
                    intro w' hSw
                    obtain ⟨s0, s1, s2, s3⟩ := hSw
                    go_simp
                    try with_reducible rfl
                  try simp only [Act.put, List.setIfInBounds_toArray, List.set_cons_zero, List.set_cons_succ]
                  refine wpAnyT_take (i := 34) (oi := ⟨_, _, _, _, _, _⟩) (v := ?vr6_34) (by kernel_rfl) (by decide) rfl (by kernel_rfl) (by kernel_rfl) (by kernel_rfl) (fun _ _ _ h => h) (Or.inl ⟨by rfl, ?hyr6_34⟩) hS ?restr6_34
                  case hyr6_34 =>
                    intro w' hSw
                    obtain ⟨s0, s1, s2, s3⟩ := hSw
                    go_simp
                    try with_reducible rfl
                  try simp only [Act.put, List.setIfInBounds_toArray, List.set_cons_zero, List.set_cons_succ]
                  refine wpAnyT_ready1 (i := 35) (o := ⟨_, _, _, _, _, _⟩) (by kernel_rfl) rfl (fun K hK => ?_)
                  go_simp
                  go_at_call 77
                  refine (S_has _ _ _ st _ hpv5).mono ?_
                  rintro e w' ⟨rfl, rfl⟩
                  rw [HHP.out]
                  refine hK _ _ (fun _ => hS) ?_
                  try simp only [Act.put, List.setIfInBounds_toArray, List.set_cons_zero, List.set_cons_succ]
                  refine wpAnyT_take (i := 36) (oi := ⟨_, _, _, _, _, _⟩) (v := ?vr6_36) (by kernel_rfl) (by decide) rfl (by kernel_rfl) (by kernel_rfl) (by kernel_rfl) (fun _ _ _ h => h) (Or.inl ⟨by rfl, ?hyr6_36⟩) hS ?restr6_36
                  case hyr6_36 =>
                    intro w' hSw
                    obtain ⟨s0, s1, s2, s3⟩ := hSw
                    go_simp
                    try with_reducible rfl
                  try simp only [Act.put, List.setIfInBounds_toArray, List.set_cons_zero, List.set_cons_succ]
                  refine wpAnyT_take (i := 37) (oi := ⟨_, _, _, _, _, _⟩) (v := undef) (by kernel_rfl) (by decide) rfl (by kernel_rfl) (by kernel_rfl) (by kernel_rfl) (fun _ _ _ h => h) (Or.inr ⟨by rfl, rfl⟩) hS ?restr6_37
                  try simp only [Act.put, List.setIfInBounds_toArray, List.set_cons_zero, List.set_cons_succ]
                  refine wpAnyT_take (i := 38) (oi := ⟨_, _, _, _, _, _⟩) (v := undef) (by kernel_rfl) (by decide) rfl (by kernel_rfl) (by kernel_rfl) (by kernel_rfl) (fun _ _ _ h => h) (Or.inr ⟨by rfl, rfl⟩) hS ?restr6_38
                  try simp only [Act.put, List.setIfInBounds_toArray, List.set_cons_zero, List.set_cons_succ]
                  refine wpAnyT_take (i := 40) (oi := ⟨_, _, _, _, _, _⟩) (v := undef) (by kernel_rfl) (by decide) rfl (by kernel_rfl) (by kernel_rfl) (by kernel_rfl) (fun _ _ _ h => h) (Or.inr ⟨by rfl, rfl⟩) hS ?restr6_40
                  try simp only [Act.put, List.setIfInBounds_toArray, List.set_cons_zero, List.set_cons_succ]
                  refine wpAnyT_take (i := 41) (oi := ⟨_, _, _, _, _, _⟩) (v := undef) (by kernel_rfl) (by decide) rfl (by kernel_rfl) (by kernel_rfl) (by kernel_rfl) (fun _ _ _ h => h) (Or.inr ⟨by rfl, rfl⟩) hS ?restr6_41
                  try simp only [Act.put, List.setIfInBounds_toArray, List.set_cons_zero, List.set_cons_succ]
                  refine wpAnyT_ready1 (i := 39) (o := ⟨_, _, _, _, _, _⟩) (by kernel_rfl) rfl (fun K hK => ?_)
                  go_simp
                  refine hK _ _ (fun _ => hS) ?_
                  try simp only [Act.put, List.setIfInBounds_toArray, List.set_cons_zero, List.set_cons_succ]
                  refine wpAnyT_ready1 (i := 42) (o := ⟨_, _, _, _, _, _⟩) (by kernel_rfl) rfl (fun K hK => ?_)
                  go_simp
                  refine hK _ _ (fun _ => hS) ?_
                  try simp only [Act.put, List.setIfInBounds_toArray, List.set_cons_zero, List.set_cons_succ]
                  refine wpAnyT_take (i := 43) (oi := ⟨_, _, _, _, _, _⟩) (v := ?vr6_43) (by kernel_rfl) (by decide) rfl (by kernel_rfl) (by kernel_rfl) (by kernel_rfl) (fun _ _ _ h => h) (Or.inl ⟨by rfl, ?hyr6_43⟩) hS ?restr6_43
                  case hyr6_43 =>
                    intro w' hSw
                    obtain ⟨s0, s1, s2, s3⟩ := hSw
                    go_simp
                    try with_reducible rfl
                  try simp only [Act.put, List.setIfInBounds_toArray, List.set_cons_zero, List.set_cons_succ]
                  refine wpAnyT_take (i := 44) (oi := ⟨_, _, _, _, _, _⟩) (v := ?vr6_44) (by kernel_rfl) (by decide) rfl (by kernel_rfl) (by kernel_rfl) (by kernel_rfl) (fun _ _ _ h => h) (Or.inl ⟨by rfl, ?hyr6_44⟩) hS ?restr6_44
                  case hyr6_44 =>
                    intro w' hSw
                    obtain ⟨s0, s1, s2, s3⟩ := hSw
                    go_simp
                    try with_reducible rfl
                  try simp only [Act.put, List.setIfInBounds_toArray, List.set_cons_zero, List.set_cons_succ]
                  refine wpAnyT_take (i := 45) (oi := ⟨_, _, _, _, _, _⟩) (v := ?vr6_45) (by kernel_rfl) (by decide) rfl (by kernel_rfl) (by kernel_rfl) (by kernel_rfl) (fun _ _ _ h => h) (Or.inl ⟨by rfl, ?hyr6_45⟩) hS ?restr6_45
                  case hyr6_45 =>
                    intro w' hSw
                    obtain ⟨s0, s1, s2, s3⟩ := hSw
                    go_simp
                    try with_reducible rfl
                  try simp only [Act.put, List.setIfInBounds_toArray, List.set_cons_zero, List.set_cons_succ]
                  refine wpAnyT_take (i := 46) (oi := ⟨_, _, _, _, _, _⟩) (v := ?vr6_46) (by kernel_rfl) (by decide) rfl (by kernel_rfl) (by kernel_rfl) (by kernel_rfl) (fun _ _ _ h => h) (Or.inl ⟨by rfl, ?hyr6_46⟩) hS ?restr6_46
                  case hyr6_46 =>
                    intro w' hSw
                    obtain ⟨s0, s1, s2, s3⟩ := hSw
                    go_simp
                    try with_reducible rfl
                  try simp only [Act.put, List.setIfInBounds_toArray, List.set_cons_zero, List.set_cons_succ]
                  refine wpAnyT_done (by kernel_rfl) ?_ _
                  all_goals
                    go_wp2
                    go_roundw
                    case rel => exact ⟨j + 1, l, by omega, by go_num, hq5, by omega, HLT2.out, hB5⟩
                    case measure => simp [intOf]; omega
              · have h9b : (sk == 9) = false := by rw [beq_eq_false_iff_ne]; exact hk9
                go_wp2
                have hS := And.intro cP (And.intro q0 (And.intro q1 b2))
                refine wp_region_T 47 (by kernel_rfl) (fun w' => w'.cell? ⟨PB, 0, none⟩ = some (.slice (some ⟨ga, 0, none⟩) n0 Cp) ∧ w'.cell? ⟨wr.heap.size, 0, none⟩ = some (.int .i64 sk) ∧ w'.cell? ⟨wr.heap.size, 1, none⟩ = some (.int .i64 st) ∧ w'.cell? ⟨ga, b * 4 + 2, none⟩ = some (.slice A2 ps.length C2)) ?_
                refine wpAnyT_take (i := 0) (oi := ⟨_, _, _, _, _, _⟩) (v := ?vr7_0) (by kernel_rfl) (by decide) rfl (by kernel_rfl) (by kernel_rfl) (by kernel_rfl) (fun _ _ _ h => h) (Or.inl ⟨by rfl, ?hyr7_0⟩) hS ?restr7_0
                case hyr7_0 =>
                  intro w' hSw
                  obtain ⟨s0, s1, s2, s3⟩ := hSw
                  go_simp
                  try with_reducible rfl
                try simp only [Act.put, List.setIfInBounds_toArray, List.set_cons_zero, List.set_cons_succ]
                refine wpAnyT_take (i := 1) (oi := ⟨_, _, _, _, _, _⟩) (v := ?vr7_1) (by kernel_rfl) (by decide) rfl (by kernel_rfl) (by kernel_rfl) (by kernel_rfl) (fun _ _ _ h => h) (Or.inl ⟨by rfl, ?hyr7_1⟩) hS ?restr7_1
                case hyr7_1 =>
                  intro w' hSw
                  obtain ⟨s0, s1, s2, s3⟩ := hSw
                  go_simp
                  try with_reducible rfl
                try simp only [Act.put, List.setIfInBounds_toArray, List.set_cons_zero, List.set_cons_succ]
                refine wpAnyT_take (i := 2) (oi := ⟨_, _, _, _, _, _⟩) (v := ?vr7_2) (by kernel_rfl) (by decide) rfl (by kernel_rfl) (by kernel_rfl) (by kernel_rfl) (fun _ _ _ h => h) (Or.inl ⟨by rfl, ?hyr7_2⟩) hS ?restr7_2
                case hyr7_2 =>
                  intro w' hSw
                  obtain ⟨s0, s1, s2, s3⟩ := hSw
                  go_simp
                  try with_reducible rfl
                try simp only [Act.put, List.setIfInBounds_toArray, List.set_cons_zero, List.set_cons_succ]
                refine wpAnyT_take (i := 3) (oi := ⟨_, _, _, _, _, _⟩) (v := ?vr7_3) (by kernel_rfl) (by decide) rfl (by kernel_rfl) (by kernel_rfl) (by kernel_rfl) (fun _ _ _ h => h) (Or.inl ⟨by rfl, ?hyr7_3⟩) hS ?restr7_3
                case hyr7_3 =>
                  intro w' hSw
                  obtain ⟨s0, s1, s2, s3⟩ := hSw
                  go_simp
                  try with_reducible rfl
                try simp only [Act.put, List.setIfInBounds_toArray, List.set_cons_zero, List.set_cons_succ]
                refine wpAnyT_take (i := 4) (oi := ⟨_, _, _, _, _, _⟩) (v := undef) (by kernel_rfl) (by decide) rfl (by kernel_rfl) (by kernel_rfl) (by kernel_rfl) (fun _ _ _ h => h) (Or.inr ⟨by rfl, rfl⟩) hS ?restr7_4
                try simp only [Act.put, List.setIfInBounds_toArray, List.set_cons_zero, List.set_cons_succ]
                refine wpAnyT_take (i := 5) (oi := ⟨_, _, _, _, _, _⟩) (v := undef) (by kernel_rfl) (by decide) rfl (by kernel_rfl) (by kernel_rfl) (by kernel_rfl) (fun _ _ _ h => h) (Or.inr ⟨by rfl, rfl⟩) hS ?restr7_5
                try simp only [Act.put, List.setIfInBounds_toArray, List.set_cons_zero, List.set_cons_succ]
                refine wpAnyT_take (i := 6) (oi := ⟨_, _, _, _, _, _⟩) (v := undef) (by kernel_rfl) (by decide) rfl (by kernel_rfl) (by kernel_rfl) (by kernel_rfl) (fun _ _ _ h => h) (Or.inr ⟨by rfl, rfl⟩) hS ?restr7_6
                try simp only [Act.put, List.setIfInBounds_toArray, List.set_cons_zero, List.set_cons_succ]
                refine wpAnyT_take (i := 7) (oi := ⟨_, _, _, _, _, _⟩) (v := undef) (by kernel_rfl) (by decide) rfl (by kernel_rfl) (by kernel_rfl) (by kernel_rfl) (fun _ _ _ h => h) (Or.inr ⟨by rfl, rfl⟩) hS ?restr7_7
                try simp only [Act.put, List.setIfInBounds_toArray, List.set_cons_zero, List.set_cons_succ]
                refine wpAnyT_ready1 (i := 8) (o := ⟨_, _, _, _, _, _⟩) (by kernel_rfl) rfl (fun K hK => ?_)
                go_simp
                refine hK _ _ (fun _ => hS) ?_
                try simp only [Act.put, List.setIfInBounds_toArray, List.set_cons_zero, List.set_cons_succ]
                refine wpAnyT_take (i := 9) (oi := ⟨_, _, _, _, _, _⟩) (v := undef) (by kernel_rfl) (by decide) rfl (by kernel_rfl) (by kernel_rfl) (by kernel_rfl) (fun _ _ _ h => h) (Or.inr ⟨by rfl, rfl⟩) hS ?restr7_9
                try simp only [Act.put, List.setIfInBounds_toArray, List.set_cons_zero, List.set_cons_succ]
                refine wpAnyT_take (i := 10) (oi := ⟨_, _, _, _, _, _⟩) (v := undef) (by kernel_rfl) (by decide) rfl (by kernel_rfl) (by kernel_rfl) (by kernel_rfl) (fun _ _ _ h => h) (Or.inr ⟨by rfl, rfl⟩) hS ?restr7_10
                try simp only [Act.put, List.setIfInBounds_toArray, List.set_cons_zero, List.set_cons_succ]
                refine wpAnyT_take (i := 11) (oi := ⟨_, _, _, _, _, _⟩) (v := undef) (by kernel_rfl) (by decide) rfl (by kernel_rfl) (by kernel_rfl) (by kernel_rfl) (fun _ _ _ h => h) (Or.inr ⟨by rfl, rfl⟩) hS ?restr7_11
                try simp only [Act.put, List.setIfInBounds_toArray, List.set_cons_zero, List.set_cons_succ]
                refine wpAnyT_take (i := 12) (oi := ⟨_, _, _, _, _, _⟩) (v := undef) (by kernel_rfl) (by decide) rfl (by kernel_rfl) (by kernel_rfl) (by kernel_rfl) (fun _ _ _ h => h) (Or.inr ⟨by rfl, rfl⟩) hS ?restr7_12
                try simp only [Act.put, List.setIfInBounds_toArray, List.set_cons_zero, List.set_cons_succ]
                refine wpAnyT_take (i := 13) (oi := ⟨_, _, _, _, _, _⟩) (v := undef) (by kernel_rfl) (by decide) rfl (by kernel_rfl) (by kernel_rfl) (by kernel_rfl) (fun _ _ _ h => h) (Or.inr ⟨by rfl, rfl⟩) hS ?restr7_13
                try simp only [Act.put, List.setIfInBounds_toArray, List.set_cons_zero, List.set_cons_succ]
                refine wpAnyT_take (i := 14) (oi := ⟨_, _, _, _, _, _⟩) (v := undef) (by kernel_rfl) (by decide) rfl (by kernel_rfl) (by kernel_rfl) (by kernel_rfl) (fun _ _ _ h => h) (Or.inr ⟨by rfl, rfl⟩) hS ?restr7_14
                try simp only [Act.put, List.setIfInBounds_toArray, List.set_cons_zero, List.set_cons_succ]
                refine wpAnyT_take (i := 15) (oi := ⟨_, _, _, _, _, _⟩) (v := undef) (by kernel_rfl) (by decide) rfl (by kernel_rfl) (by kernel_rfl) (by kernel_rfl) (fun _ _ _ h => h) (Or.inr ⟨by rfl, rfl⟩) hS ?restr7_15
                try simp only [Act.put, List.setIfInBounds_toArray, List.set_cons_zero, List.set_cons_succ]
                refine wpAnyT_take (i := 16) (oi := ⟨_, _, _, _, _, _⟩) (v := undef) (by kernel_rfl) (by decide) rfl (by kernel_rfl) (by kernel_rfl) (by kernel_rfl) (fun _ _ _ h => h) (Or.inr ⟨by rfl, rfl⟩) hS ?restr7_16
                try simp only [Act.put, List.setIfInBounds_toArray, List.set_cons_zero, List.set_cons_succ]
                refine wpAnyT_take (i := 17) (oi := ⟨_, _, _, _, _, _⟩) (v := undef) (by kernel_rfl) (by decide) rfl (by kernel_rfl) (by kernel_rfl) (by kernel_rfl) (fun _ _ _ h => h) (Or.inr ⟨by rfl, rfl⟩) hS ?restr7_17
                try simp only [Act.put, List.setIfInBounds_toArray, List.set_cons_zero, List.set_cons_succ]
                refine wpAnyT_take (i := 18) (oi := ⟨_, _, _, _, _, _⟩) (v := undef) (by kernel_rfl) (by decide) rfl (by kernel_rfl) (by kernel_rfl) (by kernel_rfl) (fun _ _ _ h => h) (Or.inr ⟨by rfl, rfl⟩) hS ?restr7_18
                try simp only [Act.put, List.setIfInBounds_toArray, List.set_cons_zero, List.set_cons_succ]
                refine wpAnyT_ready1 (i := 19) (o := ⟨_, _, _, _, _, _⟩) (by kernel_rfl) rfl (fun K hK => ?_)
                go_simp
                refine hK _ _ (fun _ => hS) ?_
                try simp only [Act.put, List.setIfInBounds_toArray, List.set_cons_zero, List.set_cons_succ]
                refine wpAnyT_take (i := 20) (oi := ⟨_, _, _, _, _, _⟩) (v := undef) (by kernel_rfl) (by decide) rfl (by kernel_rfl) (by kernel_rfl) (by kernel_rfl) (fun _ _ _ h => h) (Or.inr ⟨by rfl, rfl⟩) hS ?restr7_20
                try simp only [Act.put, List.setIfInBounds_toArray, List.set_cons_zero, List.set_cons_succ]
                refine wpAnyT_take (i := 21) (oi := ⟨_, _, _, _, _, _⟩) (v := ?vr7_21) (by kernel_rfl) (by decide) rfl (by kernel_rfl) (by kernel_rfl) (by kernel_rfl) (fun _ _ _ h => h) (Or.inl ⟨by rfl, ?hyr7_21⟩) hS ?restr7_21
                case hyr7_21 =>
                  intro w' hSw
                  obtain ⟨s0, s1, s2, s3⟩ := hSw
                  go_simp
                  try with_reducible rfl
                try simp only [Act.put, List.setIfInBounds_toArray, List.set_cons_zero, List.set_cons_succ]
                refine wpAnyT_take (i := 22) (oi := ⟨_, _, _, _, _, _⟩) (v := ?vr7_22) (by kernel_rfl) (by decide) rfl (by kernel_rfl) (by kernel_rfl) (by kernel_rfl) (fun _ _ _ h => h) (Or.inl ⟨by rfl, ?hyr7_22⟩) hS ?restr7_22
                case hyr7_22 =>
                  intro w' hSw
                  obtain ⟨s0, s1, s2, s3⟩ := hSw
                  go_simp
                  try with_reducible rfl
                try simp only [Act.put, List.setIfInBounds_toArray, List.set_cons_zero, List.set_cons_succ]
                refine wpAnyT_take (i := 23) (oi := ⟨_, _, _, _, _, _⟩) (v := ?vr7_23) (by kernel_rfl) (by decide) rfl (by kernel_rfl) (by kernel_rfl) (by kernel_rfl) (fun _ _ _ h => h) (Or.inl ⟨by rfl, ?hyr7_23⟩) hS ?restr7_23
                case hyr7_23 =>
                  intro w' hSw
                  obtain ⟨s0, s1, s2, s3⟩ := hSw
                  go_simp
                  try with_reducible rfl
                try simp only [Act.put, List.setIfInBounds_toArray, List.set_cons_zero, List.set_cons_succ]
                refine wpAnyT_take (i := 24) (oi := ⟨_, _, _, _, _, _⟩) (v := ?vr7_24) (by kernel_rfl) (by decide) rfl (by kernel_rfl) (by kernel_rfl) (by kernel_rfl) (fun _ _ _ h => h) (Or.inl ⟨by rfl, ?hyr7_24⟩) hS ?restr7_24
                case hyr7_24 =>
                  intro w' hSw
                  obtain ⟨s0, s1, s2, s3⟩ := hSw
                  go_simp
                  try with_reducible rfl
                try simp only [Act.put, List.setIfInBounds_toArray, List.set_cons_zero, List.set_cons_succ]
                refine wpAnyT_take (i := 25) (oi := ⟨_, _, _, _, _, _⟩) (v := ?vr7_25) (by kernel_rfl) (by decide) rfl (by kernel_rfl) (by kernel_rfl) (by kernel_rfl) (fun _ _ _ h => h) (Or.inl ⟨by rfl, ?hyr7_25⟩) hS ?restr7_25
                case hyr7_25 =>
                  intro w' hSw
                  obtain ⟨s0, s1, s2, s3⟩ := hSw
                  go_simp
                  try with_reducible rfl
                try simp only [Act.put, List.setIfInBounds_toArray, List.set_cons_zero, List.set_cons_succ]
                refine wpAnyT_take (i := 26) (oi := ⟨_, _, _, _, _, _⟩) (v := ?vr7_26) (by kernel_rfl) (by decide) rfl (by kernel_rfl) (by kernel_rfl) (by kernel_rfl) (fun _ _ _ h => h) (Or.inl ⟨by rfl, ?hyr7_26⟩) hS ?restr7_26
                case hyr7_26 =>
                  intro w' hSw
                  obtain ⟨s0, s1, s2, s3⟩ := hSw
                  go_simp
                  try with_reducible rfl
                try simp only [Act.put, List.setIfInBounds_toArray, List.set_cons_zero, List.set_cons_succ]
                refine wpAnyT_take (i := 27) (oi := ⟨_, _, _, _, _, _⟩) (v := undef) (by kernel_rfl) (by decide) rfl (by kernel_rfl) (by kernel_rfl) (by kernel_rfl) (fun _ _ _ h => h) (Or.inr ⟨by rfl, rfl⟩) hS ?restr7_27
                try simp only [Act.put, List.setIfInBounds_toArray, List.set_cons_zero, List.set_cons_succ]
                refine wpAnyT_take (i := 28) (oi := ⟨_, _, _, _, _, _⟩) (v := undef) (by kernel_rfl) (by decide) rfl (by kernel_rfl) (by kernel_rfl) (by kernel_rfl) (fun _ _ _ h => h) (Or.inr ⟨by rfl, rfl⟩) hS ?restr7_28
                try simp only [Act.put, List.setIfInBounds_toArray, List.set_cons_zero, List.set_cons_succ]
                refine wpAnyT_take (i := 29) (oi := ⟨_, _, _, _, _, _⟩) (v := undef) (by kernel_rfl) (by decide) rfl (by kernel_rfl) (by kernel_rfl) (by kernel_rfl) (fun _ _ _ h => h) (Or.inr ⟨by rfl, rfl⟩) hS ?restr7_29
                try simp only [Act.put, List.setIfInBounds_toArray, List.set_cons_zero, List.set_cons_succ]
                refine wpAnyT_take (i := 30) (oi := ⟨_, _, _, _, _, _⟩) (v := undef) (by kernel_rfl) (by decide) rfl (by kernel_rfl) (by kernel_rfl) (by kernel_rfl) (fun _ _ _ h => h) (Or.inr ⟨by rfl, rfl⟩) hS ?restr7_30
                try simp only [Act.put, List.setIfInBounds_toArray, List.set_cons_zero, List.set_cons_succ]
                refine wpAnyT_take (i := 31) (oi := ⟨_, _, _, _, _, _⟩) (v := undef) (by kernel_rfl) (by decide) rfl (by kernel_rfl) (by kernel_rfl) (by kernel_rfl) (fun _ _ _ h => h) (Or.inr ⟨by rfl, rfl⟩) hS ?restr7_31
                try simp only [Act.put, List.setIfInBounds_toArray, List.set_cons_zero, List.set_cons_succ]
                refine wpAnyT_take (i := 32) (oi := ⟨_, _, _, _, _, _⟩) (v := undef) (by kernel_rfl) (by decide) rfl (by kernel_rfl) (by kernel_rfl) (by kernel_rfl) (fun _ _ _ h => h) (Or.inr ⟨by rfl, rfl⟩) hS ?restr7_32
                try simp only [Act.put, List.setIfInBounds_toArray, List.set_cons_zero, List.set_cons_succ]
                refine wpAnyT_take (i := 33) (oi := ⟨_, _, _, _, _, _⟩) (v := undef) (by kernel_rfl) (by decide) rfl (by kernel_rfl) (by kernel_rfl) (by kernel_rfl) (fun _ _ _ h => h) (Or.inr ⟨by rfl, rfl⟩) hS ?restr7_33
                try simp only [Act.put, List.setIfInBounds_toArray, List.set_cons_zero, List.set_cons_succ]
                refine wpAnyT_take (i := 34) (oi := ⟨_, _, _, _, _, _⟩) (v := undef) (by kernel_rfl) (by decide) rfl (by kernel_rfl) (by kernel_rfl) (by kernel_rfl) (fun _ _ _ h => h) (Or.inr ⟨by rfl, rfl⟩) hS ?restr7_34
                try simp only [Act.put, List.setIfInBounds_toArray, List.set_cons_zero, List.set_cons_succ]
                refine wpAnyT_ready1 (i := 35) (o := ⟨_, _, _, _, _, _⟩) (by kernel_rfl) rfl (fun K hK => ?_)
                go_simp
                refine hK _ _ (fun _ => hS) ?_
                try simp only [Act.put, List.setIfInBounds_toArray, List.set_cons_zero, List.set_cons_succ]
                refine wpAnyT_take (i := 36) (oi := ⟨_, _, _, _, _, _⟩) (v := undef) (by kernel_rfl) (by decide) rfl (by kernel_rfl) (by kernel_rfl) (by kernel_rfl) (fun _ _ _ h => h) (Or.inr ⟨by rfl, rfl⟩) hS ?restr7_36
                try simp only [Act.put, List.setIfInBounds_toArray, List.set_cons_zero, List.set_cons_succ]
                refine wpAnyT_take (i := 37) (oi := ⟨_, _, _, _, _, _⟩) (v := undef) (by kernel_rfl) (by decide) rfl (by kernel_rfl) (by kernel_rfl) (by kernel_rfl) (fun _ _ _ h => h) (Or.inr ⟨by rfl, rfl⟩) hS ?restr7_37
                try simp only [Act.put, List.setIfInBounds_toArray, List.set_cons_zero, List.set_cons_succ]
                refine wpAnyT_take (i := 38) (oi := ⟨_, _, _, _, _, _⟩) (v := undef) (by kernel_rfl) (by decide) rfl (by kernel_rfl) (by kernel_rfl) (by kernel_rfl) (fun _ _ _ h => h) (Or.inr ⟨by rfl, rfl⟩) hS ?restr7_38
                try simp only [Act.put, List.setIfInBounds_toArray, List.set_cons_zero, List.set_cons_succ]
                refine wpAnyT_take (i := 40) (oi := ⟨_, _, _, _, _, _⟩) (v := undef) (by kernel_rfl) (by decide) rfl (by kernel_rfl) (by kernel_rfl) (by kernel_rfl) (fun _ _ _ h => h) (Or.inr ⟨by rfl, rfl⟩) hS ?restr7_40
                try simp only [Act.put, List.setIfInBounds_toArray, List.set_cons_zero, List.set_cons_succ]
                refine wpAnyT_take (i := 41) (oi := ⟨_, _, _, _, _, _⟩) (v := undef) (by kernel_rfl) (by decide) rfl (by kernel_rfl) (by kernel_rfl) (by kernel_rfl) (fun _ _ _ h => h) (Or.inr ⟨by rfl, rfl⟩) hS ?restr7_41
                try simp only [Act.put, List.setIfInBounds_toArray, List.set_cons_zero, List.set_cons_succ]
                refine wpAnyT_ready1 (i := 39) (o := ⟨_, _, _, _, _, _⟩) (by kernel_rfl) rfl (fun K hK => ?_)
                go_simp
                refine hK _ _ (fun _ => hS) ?_
                try simp only [Act.put, List.setIfInBounds_toArray, List.set_cons_zero, List.set_cons_succ]
                refine wpAnyT_ready1 (i := 42) (o := ⟨_, _, _, _, _, _⟩) (by kernel_rfl) rfl (fun K hK => ?_)
                go_simp
                refine hK _ _ (fun _ => hS) ?_
                try simp only [Act.put, List.setIfInBounds_toArray, List.set_cons_zero, List.set_cons_succ]
                refine wpAnyT_take (i := 43) (oi := ⟨_, _, _, _, _, _⟩) (v := undef) (by kernel_rfl) (by decide) rfl (by kernel_rfl) (by kernel_rfl) (by kernel_rfl) (fun _ _ _ h => h) (Or.inr ⟨by rfl, rfl⟩) hS ?restr7_43
                try simp only [Act.put, List.setIfInBounds_toArray, List.set_cons_zero, List.set_cons_succ]
                refine wpAnyT_take (i := 44) (oi := ⟨_, _, _, _, _, _⟩) (v := ?vr7_44) (by kernel_rfl) (by decide) rfl (by kernel_rfl) (by kernel_rfl) (by kernel_rfl) (fun _ _ _ h => h) (Or.inl ⟨by rfl, ?hyr7_44⟩) hS ?restr7_44
                case hyr7_44 =>
                  intro w' hSw
                  obtain ⟨s0, s1, s2, s3⟩ := hSw
                  go_simp
                  try with_reducible rfl
                try simp only [Act.put, List.setIfInBounds_toArray, List.set_cons_zero, List.set_cons_succ]
                refine wpAnyT_take (i := 45) (oi := ⟨_, _, _, _, _, _⟩) (v := ?vr7_45) (by kernel_rfl) (by decide) rfl (by kernel_rfl) (by kernel_rfl) (by kernel_rfl) (fun _ _ _ h => h) (Or.inl ⟨by rfl, ?hyr7_45⟩) hS ?restr7_45
                case hyr7_45 =>
                  intro w' hSw
                  obtain ⟨s0, s1, s2, s3⟩ := hSw
                  go_simp
                  try with_reducible rfl
                try simp only [Act.put, List.setIfInBounds_toArray, List.set_cons_zero, List.set_cons_succ]
                refine wpAnyT_take (i := 46) (oi := ⟨_, _, _, _, _, _⟩) (v := ?vr7_46) (by kernel_rfl) (by decide) rfl (by kernel_rfl) (by kernel_rfl) (by kernel_rfl) (fun _ _ _ h => h) (Or.inl ⟨by rfl, ?hyr7_46⟩) hS ?restr7_46
                case hyr7_46 =>
                  intro w' hSw
                  obtain ⟨s0, s1, s2, s3⟩ := hSw
                  go_simp
                  try with_reducible rfl
                try simp only [Act.put, List.setIfInBounds_toArray, List.set_cons_zero, List.set_cons_succ]
                refine wpAnyT_done (by kernel_rfl) ?_ _
                have hB7 : Below wz.heap.size wz ((wr.alloc (.cells #[.int .i64 sk, .int .i64 st, .int .i64 sa, .int .i64 sb] 60)).alloc (.cells #[.int .i64 sk, .int .i64 st, .int .i64 sa, .int .i64 sb] 60)).drew := (bal (bal HBX.out _) _).drew
                have hq7 : Stmts ((wr.alloc (.cells #[.int .i64 sk, .int .i64 st, .int .i64 sa, .int .i64 sb] 60)).alloc (.cells #[.int .i64 sk, .int .i64 st, .int .i64 sa, .int .i64 sb] 60)).drew wz.heap.size _ l := ((HQ.out.keep al1).keep al1).keep (below0 _).drew
                have hf7 : FeedS ((wr.alloc (.cells #[.int .i64 sk, .int .i64 st, .int .i64 sa, .int .i64 sb] 60)).alloc (.cells #[.int .i64 sk, .int .i64 st, .int .i64 sa, .int .i64 sb] 60)).drew _ [⟨sk, st, sa, sb⟩] := Stmts.feed ((Stmts.one (w := wr.alloc (.cells #[.int .i64 sk, .int .i64 st, .int .i64 sa, .int .i64 sb] 60)) (B := wr.heap.size + 1) (lo := 0) (by simp) (Nat.zero_le _) sk st sa sb).keep (below0 _).drew)
                have hz7 := hB7.size
                go_wp2_with (at_builtin; refine wpList_append_stmts rfl _ _ rfl _ _ l [⟨sk, st, sa, sb⟩] wz.heap.size rfl rfl hq7 hf7 (by simp only [List.length_cons, List.length_nil]; omega) hz7 ?_; intro q' w5 hq6 hg5 hb5 hf5)
                go_roundw
                case rel => exact ⟨j + 1, l ++ [⟨sk, st, sa, sb⟩], by omega, by go_num, hq6, by simp; omega, (fun s hs => (List.mem_append.1 hs).elim (HLT2.out s) (fun h => by rw [List.mem_singleton.1 h]; exact hsto)), hB7.trans hb5⟩
                case measure => simp [intOf]; omega
          · obtain rfl : j = body.length := by omega
            obtain ⟨A5, C5, rfl⟩ := hq.form
            have hrowi := PRowX.keep HROW.out hBi
            obtain ⟨og2, oC2, eo, _, _, _, _, _, hof⟩ := PRowX.rd hrowi (by omega)
            obtain ⟨rfl, -, -⟩ : ga = og2 ∧ n0 = p.length ∧ Cp = oC2 := by simpa using eo
            have fi := hof (b * 4 + 3)
            have HRI := Lib.hid hrowi
            have HQ := Lib.hid hq
            have HBI := Lib.hid hBi
            clear hof hrowi hq eo
            go_wp2
            go_roundw
            case rel =>
              have hU := HQ.out
              exact ⟨b + 1, xs.set (b * 4 + 3) (.slice A5 l.length C5), p.set b { p.getD b default with body := l }, by go_num, by omega, .inl (by omega), by rw [List.length_set]; exact hpn, hwk.setBody hbp (by omega), Tos.setBody htos hbp HLT2.out,
                PRowX.setBody (PRowX.part HRI.out b) hbp (hU.lo_ (by omega)) (fun i hi _ => Apart.of_lt (PRowX.full HROW.out hi) (own_block_ge hU)), (bP.below HBI.out zP).other _ _ (show PB ≠ ga by omega), (HR.out.keep HBI.out).store (p := ⟨ga, b * 4 + 3, none⟩) (show g < ga by omega) _, (HCUR.out.trans (Only.of_below HBI.out)).store (p := ⟨ga, b * 4 + 3, none⟩) (show _ ≤ ga by simp only [World.size_alloc]; omega) _⟩
            case measure => simp [intOf]; omega
      · have HVP := Lib.hid hvp
        clear hvp
        go_wp2_with fail
        refine (S_validProgram _ p _ _ hblk).mono ?_
        rintro e wv ⟨rfl, hbv⟩
        rw [HVP.out]
        have hrow := PRowX.keep hrow hbv
        have bP := bP.below hbv (lt_of_block bP)
        have cP := bP.cell
        have hblk := PRowX.blks hrow
        have hr := hr.keep hbv
        have hcur := hcur.trans (Only.of_below hbv)
        go_wp2_with fail
        refine (S_validProgram _ p _ _ (show Blks _ (w.heap.size + 1) (.slice (some ⟨ga, 0, none⟩) n0 Cp) p from hblk)).mono ?_
        rintro e wz ⟨rfl, hbz⟩
        rw [HVP.out]
        have hrow := PRowX.keep hrow hbz
        have bP := bP.below hbz (lt_of_block bP)
        have cP := bP.cell
        have hr := hr.keep hbz
        have hcur := hcur.trans (Only.of_below hbz)
        have r1 := fun o => (ocell hcur).1 w.heap.size o (by omega) (by simp)
        have m1 := fun o => (ocell hcur).2 w.heap.size o (by omega) (by simp)
        go_wp2
        exact bodyPost_ret (v := .agg #[.slice (some ⟨ga, 0, none⟩) n0 Cp]) (by simp [results, Try.results71, go_sem, r1]) rfl
          ⟨_, xs, p, rfl, (PRowX.only hrow ((Only.refl w.heap.size (w.heap.size + 1) wz).setCell (Nat.le_refl _) (Nat.lt_succ_self _) _) (Nat.le_refl _)).lo_ (by omega), hwk, hr.store (p := ⟨w.heap.size, 0, none⟩) hgl _, ((Only.of_below al1).trans hcur).store (Nat.le_refl _) _⟩
    · cases hvp : validP p
      · have HVP := Lib.hid hvp
        clear hvp
        go_wp2_with fail
        refine (S_validProgram _ p _ _ (show Blks _ (w.heap.size + 1) (.slice (some ⟨ga, 0, none⟩) n0 Cp) p from hblk)).mono ?_
        rintro e wz ⟨rfl, hbz⟩
        rw [HVP.out]
        have hrow := PRowX.keep hrow hbz
        have bP := bP.below hbz (lt_of_block bP)
        have cP := bP.cell
        have hr := hr.keep hbz
        have hcur := hcur.trans (Only.of_below hbz)
        have hbod : ∀ b, b < p.length → (p.getD b default).body.length ≤ 1000 ∧ (p.getD b default).params.length ≤ 1000 := fun b hb => by
          have h1 := hwk.body b (by omega) (by omega)
          have h2 := hwk.params b (by omega) (by omega)
          have e : p.bk (b : Int) = p.getD b default := by show p.getD (b : Int).toNat default = _; rw [Int.toNat_natCast]
          rw [e] at h1 h2
          exact ⟨by omega, by omega⟩
        have HBOD := Lib.hid hbod
        clear hbod
        go_wp2_with fail
        refine (S_bare _ p (w.heap.size + 1) _ ⟨_, rfl, PRowX.blks hrow⟩ (by have := hwk.len; omega) HBOD.out).mono ?_
        rintro e wy ⟨sl2, xs2, rfl, hrow2, hby⟩
        obtain ⟨A2, C2, rfl⟩ := PRowX.form hrow2
        have hr := hr.keep hby
        have hcur := hcur.trans (Only.of_below hby)
        have hzz : w.heap.size + 1 ≤ wz.heap.size := by have := lt_of_block bP; omega
        have r1 := fun o => (ocell hcur).1 w.heap.size o (by omega) (by simp)
        have m1 := fun o => (ocell hcur).2 w.heap.size o (by omega) (by simp)
        go_wp2
        exact bodyPost_ret (v := .agg #[.slice A2 (bareP p).length C2]) (by simp [results, Try.results71, go_sem, r1]) rfl
          ⟨_, xs2, bareP p, rfl, (PRowX.only hrow2 ((Only.refl w.heap.size (w.heap.size + 1) wy).setCell (Nat.le_refl _) (Nat.lt_succ_self _) _) (by omega)).lo_ (by omega), hwk.bare, hr.store (p := ⟨w.heap.size, 0, none⟩) hgl _, ((Only.of_below al1).trans hcur).store (Nat.le_refl _) _⟩
      · have HVP := Lib.hid hvp
        clear hvp
        obtain ⟨wv, hwv⟩ : ∃ wv : World, wv = wr := ⟨_, rfl⟩
        subst hwv
        have hbv := below0 wv
        have hrow := PRowX.keep hrow hbv
        have bP := bP.below hbv (lt_of_block bP)
        have cP := bP.cell
        have hblk := PRowX.blks hrow
        have hr := hr.keep hbv
        have hcur := hcur.trans (Only.of_below hbv)
        go_wp2_with fail
        refine (S_validProgram _ p _ _ (show Blks _ (w.heap.size + 1) (.slice (some ⟨ga, 0, none⟩) n0 Cp) p from hblk)).mono ?_
        rintro e wz ⟨rfl, hbz⟩
        rw [HVP.out]
        have hrow := PRowX.keep hrow hbz
        have bP := bP.below hbz (lt_of_block bP)
        have cP := bP.cell
        have hr := hr.keep hbz
        have hcur := hcur.trans (Only.of_below hbz)
        have r1 := fun o => (ocell hcur).1 w.heap.size o (by omega) (by simp)
        have m1 := fun o => (ocell hcur).2 w.heap.size o (by omega) (by simp)
        go_wp2
        exact bodyPost_ret (v := .agg #[.slice (some ⟨ga, 0, none⟩) n0 Cp]) (by simp [results, Try.results71, go_sem, r1]) rfl
          ⟨_, xs, p, rfl, (PRowX.only hrow ((Only.refl w.heap.size (w.heap.size + 1) wz).setCell (Nat.le_refl _) (Nat.lt_succ_self _) _) (Nat.le_refl _)).lo_ (by omega), hwk, hr.store (p := ⟨w.heap.size, 0, none⟩) hgl _, ((Only.of_below al1).trans hcur).store (Nat.le_refl _) _⟩

end Go.Proofs.Ytiemhadpepbcjaa
