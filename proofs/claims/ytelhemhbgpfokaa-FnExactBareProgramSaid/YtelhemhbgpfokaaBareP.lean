/-
  Walks: the reference's bare. Condition: the argument reads as a program.
-/
import Derived.Test.YtelhemhbgpfokaaCopyP
namespace Go.Proofs.Ytelhemhbgpfokaa
open Go.RowKit
set_option linter.unusedVariables false

/-- A block without its declarations. -/
def bareB (k : Bk) : Bk := { k with body := k.body.filter fun s => !s.decl }
def bareP (p : Pr) : Pr := p.map bareB
def outTo (p : Pr) (k : Nat) : Pr := (p.take k).map bareB ++ p.drop k
def keepTo (l : List St) (j : Nat) : List St := (l.take j).filter fun s => !s.decl
theorem keepTo_yes (l : List St) (j : Nat) (h : j < l.length) (hf : (l.getD j default).decl = false) : keepTo l (j + 1) = keepTo l j ++ [l.getD j default] := by
  have e : l.getD j default = l[j] := by simp [List.getD, h]
  rw [e] at hf ⊢
  unfold keepTo
  rw [List.take_succ_eq_append_getElem h, List.filter_append]
  simp [hf]
theorem keepTo_no (l : List St) (j : Nat) (h : j < l.length) (hf : (l.getD j default).decl = true) : keepTo l (j + 1) = keepTo l j := by
  have e : l.getD j default = l[j] := by simp [List.getD, h]
  rw [e] at hf
  unfold keepTo
  rw [List.take_succ_eq_append_getElem h, List.filter_append]
  simp [hf]
theorem keepTo_len (l : List St) (j : Nat) : (keepTo l j).length ≤ j := by
  unfold keepTo
  have h1 := List.length_filter_le (fun s : St => !s.decl) (l.take j)
  rw [List.length_take] at h1
  omega
theorem outTo_len (p : Pr) (k : Nat) : (outTo p k).length = p.length := by
  unfold outTo
  rw [List.length_append, List.length_map, List.length_take, List.length_drop]
  omega
theorem outTo_at (p : Pr) (k : Nat) (h : k < p.length) : (outTo p k).getD k default = p.getD k default := by
  unfold outTo
  have e : ((p.take k).map bareB).length = k := by rw [List.length_map, List.length_take]; omega
  rw [List.getD, List.getElem?_append_right (by omega), e, Nat.sub_self, List.getElem?_drop, Nat.add_zero]
  rfl
theorem outTo_succ (p : Pr) (k : Nat) (h : k < p.length) : (outTo p k).set k { (outTo p k).getD k default with body := keepTo (p.getD k default).body (p.getD k default).body.length } = outTo p (k + 1) := by
  rw [outTo_at p k h]
  have e1 : keepTo (p.getD k default).body (p.getD k default).body.length = (bareB (p.getD k default)).body := by unfold keepTo bareB; rw [List.take_length]
  have e0 : p.getD k default = p[k] := by simp [List.getD, h]
  have e2 : ({ p.getD k default with body := keepTo (p.getD k default).body (p.getD k default).body.length } : Bk) = bareB (p.getD k default) := by rw [e1]; rfl
  rw [e2, e0]
  unfold outTo
  have e : ((p.take k).map bareB).length = k := by rw [List.length_map, List.length_take]; omega
  rw [List.set_append, if_neg (by omega), e, Nat.sub_self, List.drop_eq_getElem_cons h, List.set_cons_zero, List.take_succ_eq_append_getElem h, List.map_append, List.append_assoc]
  rfl
theorem outTo_zero (p : Pr) : outTo p 0 = p := by simp [outTo]
theorem outTo_all (p : Pr) : outTo p p.length = bareP p := by simp [outTo, bareP]

set_option maxRecDepth 100000 in
set_option maxHeartbeats 8000000 in
theorem S_bare (v : Value) (p : Pr) (lo : Nat) (w : World) (hv : Prog w lo v p) (hl : p.length ≤ 1000) (hbl : ∀ b, b < p.length → (p.getD b default).body.length ≤ 1000 ∧ (p.getD b default).params.length ≤ 1000) :
    Calls Try.prog 72 #[v] w fun e w' => ∃ sl xs, e = .returned (.agg #[sl]) ∧ PRow w' w.heap.size sl xs (bareP p) ∧ Below w.heap.size w w' := by
  obtain ⟨sl, rfl, hv⟩ := hv
  have HV := Lib.hid hv
  have HBL := Lib.hid hbl
  obtain ⟨A, C, rfl⟩ := hv.form
  clear hv hbl
  go_enter Try.func72, Try.ntmps72
  go_wp2_with fail
  obtain ⟨W0, hW0⟩ : ∃ W0 : World, W0 = ((w.alloc (.cells #[.slice A p.length C] 25)).alloc (.cells #[.slice none 0 0] 25)) := ⟨_, rfl⟩
  have hb0 : Below w.heap.size w W0 := by rw [hW0]; exact al2
  have z0 : w.heap.size + 2 ≤ W0.heap.size := by rw [hW0]; simp
  have c0 : W0.cell? ⟨w.heap.size, 0, none⟩ = some (.slice A p.length C) := by rw [hW0]; simp [go_sem]
  rw [← hW0]
  have HW0 := Lib.hid hW0
  refine (S_copyProgram _ p lo _ ⟨_, rfl, HV.out.keep hb0⟩ hl HBL.out).mono ?_
  rintro e w1 ⟨sl1, xs1, rfl, hrow1, hb1⟩
  obtain ⟨oA, oC, rfl⟩ := PRowX.form hrow1
  have hb01 := bthen hb0 hb1
  have c1 := cell_later hb1 c0
  have z1 : w.heap.size + 2 ≤ w1.heap.size := Nat.le_trans z0 hb1.size
  have r1 : ∀ o, w1.cell? ⟨w.heap.size + 1, o, none⟩ = W0.cell? ⟨w.heap.size + 1, o, none⟩ := fun o => (bcell hb1).1 (w.heap.size + 1) o (by omega)
  have m1 : ∀ o, w1.frozen? ⟨w.heap.size + 1, o, none⟩ = W0.frozen? ⟨w.heap.size + 1, o, none⟩ := fun o => (bcell hb1).2 (w.heap.size + 1) o (by omega)
  rw [HW0.out] at r1 m1
  have R1 := Lib.hid r1
  have M1 := Lib.hid m1
  have HB01 := Lib.hid hb01
  have hrow1 := hrow1.lo_ (lo' := w.heap.size + 2) z0
  have HROW1 := Lib.hid hrow1
  clear hW0 hb1 c0 r1 m1 hb01
  go_wp2
  obtain ⟨W2, hW2⟩ : ∃ W2 : World, W2 = w1.alloc (.cells #[.slice oA p.length oC] 25) := ⟨_, rfl⟩
  have hb2 : Below w1.heap.size w1 W2 := by rw [hW2]; exact al1
  have c2 : W2.cell? ⟨w1.heap.size, 0, none⟩ = some (.slice oA p.length oC) := by rw [hW2]; simp [go_sem]
  have z2 : w1.heap.size < W2.heap.size := by rw [hW2]; simp
  have c1 := cell_later hb2 c1
  have hrow2 := PRowX.keep hrow1 hb2
  rw [← hW2]
  clear hW2 hrow1
  go_loopw [4] (fun i wr => ∃ (k : Nat) (xs : List Value), k ≤ p.length ∧ i = .int .i64 k ∧ PRow wr (w.heap.size + 2) (.slice oA p.length oC) xs (outTo p k) ∧ wr.cell? ⟨w1.heap.size, 0, none⟩ = some (.slice oA p.length oC) ∧ wr.cell? ⟨w.heap.size, 0, none⟩ = some (.slice A p.length C) ∧ Below (w.heap.size + 2) w1 wr) (fun i _ => p.length - (intOf i).toNat)
  case atStart => exact ⟨0, xs1, Nat.zero_le _, rfl, by rw [outTo_zero]; exact hrow2, c2, c1, hb2.mono z1⟩
  case round =>
    clear c1 c2 hrow2
    obtain ⟨k, xs, hk, rfl, hrow, co, cp, hB⟩ := hrel
    by_cases hlt : k < p.length
    · obtain ⟨og, oC', eo, _, _, hog1, hog2, _, _⟩ := PRowX.rd HROW1.out (by omega)
      simp only [Value.slice.injEq] at eo
      obtain ⟨rfl, _, rfl⟩ := eo
      have hBw : Below w.heap.size w wr := HB01.out.trans (hB.mono (by omega))
      obtain ⟨A', C', g, e, hn, hc, hA, hg, hcell, _⟩ := (HV.out.keep hBw).rd
      simp only [Value.slice.injEq] at e
      obtain ⟨rfl, _, rfl⟩ := e
      obtain rfl := hA (by omega)
      have hgl := (hg (by omega)).2
      have hgl0 : g < w.heap.size := by
        obtain ⟨_, _, g', e', _, _, hA', hg', _⟩ := HV.out.rd
        have h1 := hA' (by omega)
        simp only [Value.slice.injEq] at e'
        have h2 := (hg' (by omega)).2
        rw [h1] at e'
        simp only [Option.some.injEq, Addr.mk.injEq, and_true] at e'
        omega
      obtain ⟨pv, bv, d0, d1, d2, d3, hp, hb⟩ := hcell k hlt
      obtain ⟨hbl1, hbl2⟩ := HBL.out k hlt
      obtain ⟨A3, C3, g3, e3, hn3, hc3, hA3, hg3, hst, _⟩ := hb.rd
      have hto := outTo_succ p k hlt
      have HTO := Lib.hid hto
      have HST := Lib.hid hst
      generalize (p.getD k default).body = body at *
      subst e3
      unfold maxLen at hc hc3
      have hi0 : (0 : Int) ≤ (k : Int) := by omega
      have hi1 : (k : Int) < (p.length : Int) := by omega
      have HROW := Lib.hid hrow
      clear hA hg hcell hb hto hst d0 d1 d2 hp hrow
      obtain ⟨wo, hwo⟩ : ∃ wo : World, wo = wr := ⟨_, rfl⟩
      subst hwo
      go_wp2
      go_loopw [5, 6] (fun q i wi => ∃ (j : Nat), j ≤ body.length ∧ i = .int .i64 j ∧ Stmts wi wo.heap.size q (keepTo body j) ∧ Below wo.heap.size wo wi) (fun _ i _ => body.length - (intOf i).toNat)
      case atStart => exact ⟨0, Nat.zero_le _, rfl, Stmts.zero rfl (Nat.le_refl _), al1⟩
      case round =>
        obtain ⟨j, hj, rfl, hq, hBi⟩ := hrel
        have cpi := cell_later hBi cp
        have coi := cell_later hBi co
        have d3i := cell_later hBi d3
        by_cases hjl : j < body.length
        · obtain ⟨s0, s1, s2, s3⟩ := HST.out j hjl
          have hg3l := (hg3 (by omega)).2
          have s0 := cell_later hBi s0
          have s1 := cell_later hBi s1
          have s2 := cell_later hBi s2
          have s3 := cell_later hBi s3
          obtain rfl := hA3 (by omega)
          have hj0 : (0 : Int) ≤ (j : Int) := by omega
          have hj1 : (j : Int) < (body.length : Int) := by omega
          obtain ⟨s, hs⟩ : ∃ s : St, s = body.getD j default := ⟨_, rfl⟩
          have hy := keepTo_yes body j hjl
          have hno := keepTo_no body j hjl
          rw [← hs] at s0 s1 s2 s3 hy hno
          obtain ⟨sk, st, sa, sb⟩ := s
          have HQ := Lib.hid hq
          have hlen := keepTo_len body j
          clear hs hA3 hg3 hq
          cases hd : (⟨sk, st, sa, sb⟩ : St).decl
          · have hy := hy hd
            unfold St.decl at hd
            rw [decide_eq_false_iff_not] at hd
            have n9 : (sk != 9) = true := by rw [bne_iff_ne]; intro h; exact hd (.inl h)
            have n10 : (sk != 10) = true := by rw [bne_iff_ne]; intro h; exact hd (.inr h)
            have HY := Lib.hid hy
            clear hy hno hd
            go_wp2_with (at_builtin; refine wpList_append_stmts rfl _ _ rfl _ _ _ [⟨sk, st, sa, sb⟩] wo.heap.size rfl rfl ((HQ.out.keep al1).keep al1) (Stmts.feed (Stmts.one (lo := 0) (B := wr.heap.size + 1) (by simp only [World.size_alloc]) (Nat.zero_le _) sk st sa sb)) (by simp only [List.length_cons, List.length_nil]; omega) (by have := hBi.size; simp only [World.size_alloc]; omega) ?_; intro q' w5 hq5 hg5 hb5 hf5)
            go_roundw
            case rel => exact ⟨j + 1, by omega, by go_num, by rw [HY.out]; exact hq5, ((hBi.alloc hBi.size _).alloc (by have := hBi.size; simp only [World.size_alloc]; omega) _).grown hg5 (by have := hBi.size; simp only [World.size_alloc]; omega) (fun r hr => own_block_ge HQ.out r hr)⟩
            case measure => simp [intOf]; omega
          · have hno := hno hd
            unfold St.decl at hd
            rw [decide_eq_true_iff] at hd
            have HNO := Lib.hid hno
            clear hy hno
            rcases hd with hd | hd
            · have hd : sk = 9 := hd
              subst hd
              go_wp2
              go_roundw
              case rel => exact ⟨j + 1, by omega, by go_num, by rw [HNO.out]; exact HQ.out.keep al1, hBi.alloc hBi.size _⟩
              case measure => simp [intOf]; omega
            · have hd : sk = 10 := hd
              subst hd
              go_wp2
              go_roundw
              case rel => exact ⟨j + 1, by omega, by go_num, by rw [HNO.out]; exact HQ.out.keep al1, hBi.alloc hBi.size _⟩
              case measure => simp [intOf]; omega
        · obtain rfl : j = body.length := by omega
          obtain ⟨A5, C5, rfl⟩ := hq.form
          have hrowi := PRowX.keep HROW.out hBi
          obtain ⟨og2, oC2, eo, _, _, _, hog3, hoc, hof⟩ := PRowX.rd hrowi (by rw [outTo_len]; omega)
          simp only [Value.slice.injEq, Option.some.injEq, Addr.mk.injEq, and_true] at eo
          obtain ⟨rfl, _, rfl⟩ := eo
          have o3 := hoc (k * 4 + 3) (by rw [outTo_len]; omega)
          have f3 := hof (k * 4 + 3)
          have HRI := Lib.hid hrowi
          have HQ := Lib.hid hq
          have HBI := Lib.hid hBi
          have hne : og ≠ w1.heap.size := by omega
          have hne2 : og ≠ w.heap.size := by omega
          clear hoc hof hrowi hq
          go_wp2
          go_roundw
          case rel =>
            have hU := HQ.out
            refine ⟨k + 1, xs.set (k * 4 + 3) (.slice A5 (keepTo body body.length).length C5), by omega, by go_num, ?_, by simp [go_sem, coi]; try omega, by simp [go_sem, cpi]; try omega, (hB.trans (HBI.out.mono (by have := hB.size; omega))).setCell (by show w.heap.size + 2 ≤ og; omega) _⟩
            rw [← HTO.out]
            exact PRowX.setBody (PRowX.part HRI.out k) (by rw [outTo_len]; omega) (hU.lo_ (by have := hB.size; omega)) (fun i hi _ => Apart.of_lt (PRowX.full HROW.out hi) (own_block_ge hU))
          case measure => simp [intOf]; omega
    · obtain rfl : k = p.length := by omega
      rw [outTo_all] at hrow
      have r1 : ∀ o, wr.cell? ⟨w.heap.size + 1, o, none⟩ = w1.cell? ⟨w.heap.size + 1, o, none⟩ := fun o => (bcell hB).1 (w.heap.size + 1) o (by omega)
      have m1 : ∀ o, wr.frozen? ⟨w.heap.size + 1, o, none⟩ = w1.frozen? ⟨w.heap.size + 1, o, none⟩ := fun o => (bcell hB).2 (w.heap.size + 1) o (by omega)
      have r2 : ∀ o, wr.cell? ⟨w.heap.size + 1, o, none⟩ = _ := fun o => (r1 o).trans (R1.out o)
      have m2 : ∀ o, wr.frozen? ⟨w.heap.size + 1, o, none⟩ = _ := fun o => (m1 o).trans (M1.out o)
      clear r1 m1
      go_wp2
      exact bodyPost_ret (v := .agg #[.slice oA p.length oC]) (by simp [results, Try.results72, go_sem, r2]) rfl
        ⟨_, xs, rfl, (PRowX.only hrow ((Only.refl (w.heap.size + 1) (w.heap.size + 2) wr).setCell (Nat.le_refl _) (Nat.lt_succ_self _) _) (Nat.le_refl _)).lo_ (by omega), (HB01.out.trans (hB.mono (by omega))).setCell (by show w.heap.size ≤ w.heap.size + 1; omega) _⟩

end Go.Proofs.Ytelhemhbgpfokaa
