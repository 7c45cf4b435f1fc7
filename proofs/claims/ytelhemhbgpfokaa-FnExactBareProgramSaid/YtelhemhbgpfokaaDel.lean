/-
  Walks: isDeclaration; slices.IndexFunc, slices.DeleteFunc at it. Condition: the row reads as statements.
-/
import Derived.Test.YtelhemhbgpfokaaBareP
import Derived.Laws.IdiomCopy
namespace Go.Proofs.Ytelhemhbgpfokaa
open Go.RowKit
set_option linter.unusedVariables false

/-! ### rows cut short; clear -/
theorem grown_of_below {w w' : World} (h : Below w.heap.size w w') (row : Option Nat) : w.grownBy w' row := ⟨h.os, h.tape, h.output, h.size, fun k hk _ => h.block k hk⟩
theorem own_cut {w : World} {lo : Nat} {e : TypeId} {size n C g : Nat} {xs : List Value} (h : w.ownsRow lo e size (.slice (some ⟨g, 0, none⟩) n C) n xs) (m : Nat) (hm : m ≤ n) :
    w.ownsRow lo e size (.slice (some ⟨g, 0, none⟩) m C) m (xs.take (m * size)) := by
  have hl := h.1
  have hms : m * size ≤ n * size := Nat.mul_le_mul_right _ hm
  rcases h.2 with ⟨h', _⟩ | ⟨g', cap, cur, h', hb, hg, hnc, hcm, hcs, ht⟩
  · simp at h'
  · simp only [Value.slice.injEq, Option.some.injEq, Addr.mk.injEq, and_true, true_and] at h'
    obtain ⟨rfl, rfl⟩ := h'
    refine ⟨by rw [List.length_take]; omega, .inr ⟨g, C, cur, rfl, hb, hg, by omega, hcm, hcs, ?_⟩⟩
    rw [← ht, List.take_take, Nat.min_eq_left hms]
theorem own_setCells {lo : Nat} {e : TypeId} {size n C g : Nat} : ∀ (vs : List Value) (o : Nat) (w : World) (xs : List Value), w.ownsRow lo e size (.slice (some ⟨g, 0, none⟩) n C) n xs →
    ∃ ys, (w.setCells g o vs).ownsRow lo e size (.slice (some ⟨g, 0, none⟩) n C) n ys ∧ ys.take o = xs.take o ∧ w.grownBy (w.setCells g o vs) (some g)
  | [], o, w, xs, h => ⟨xs, h, rfl, World.grownBy.refl _ _⟩
  | v :: r, o, w, xs, h => by
    obtain ⟨h1, h2⟩ := World.ownsRow.stored (w := w) h o v
    obtain ⟨ys, h3, h4, h5⟩ := own_setCells r (o + 1) _ _ h1
    refine ⟨ys, h3, ?_, h2.trans h5⟩
    have h6 := congrArg (List.take o) h4
    rw [List.take_take, List.take_take, Nat.min_eq_left (by omega)] at h6
    rw [h6, List.take_set_of_le (Nat.le_refl _)]
theorem Stmts.cut {w : World} {lo n C g : Nat} {l : List St} (h : Stmts w lo (.slice (some ⟨g, 0, none⟩) n C) l) (m : Nat) (hm : m ≤ l.length) : Stmts w lo (.slice (some ⟨g, 0, none⟩) m C) (l.take m) := by
  obtain ⟨_, _, e⟩ := h.form
  simp only [Value.slice.injEq] at e
  obtain ⟨_, rfl, _⟩ := e
  have := own_cut h m hm
  unfold Stmts
  rw [stCells_take] at this
  rw [List.length_take, Nat.min_eq_left hm]
  exact this
theorem inf_Stmt' : ∃ i : TypeInfo, Try.prog.info? 75 = some i ∧ i.zero = some (.agg #[.int .i64 0, .int .i64 0, .int .i64 0, .int .i64 0]) := by
  obtain ⟨i, hi, hz, _⟩ := info_parts inf_Stmt
  exact ⟨i, hi, hz⟩
/-- The cells of a row from the statement i on are cleared. -/
theorem run_clear_stmts (w : World) (lo g C n i m cap off : Nat) (l : List St) (hown : Stmts w lo (.slice (some ⟨g, 0, none⟩) n C) l) (him : i + m = l.length) (ho : off = i * 4) :
    ∃ w', (∀ ty, (Builtin.clear_ #[57] ty #[.slice (some ⟨g, off, none⟩) m cap]).run Try.prog w = .ok (.tuple #[]) w') ∧ Stmts w' lo (.slice (some ⟨g, 0, none⟩) i C) (l.take i) ∧ w.grownBy w' (some g) := by
  subst ho
  rcases Nat.eq_zero_or_pos m with rfl | hm
  · exact ⟨w, fun ty => by simp [Builtin.clear_, run_underlying Try.underlying57], hown.cut i (by omega), World.grownBy.refl _ _⟩
  · obtain ⟨A, C', g', e, hn, hc, hA, hg, hcell, hf⟩ := own_rd hown
    simp only [Value.slice.injEq] at e
    obtain ⟨rfl, rfl, rfl⟩ := e
    have e2 := hA (by omega)
    simp only [Option.some.injEq, Addr.mk.injEq, and_true] at e2
    subst e2
    obtain ⟨ti, hi, hz⟩ := inf_Stmt'
    have hzc : (Builtin.zeroCells (Value.agg #[.int .i64 0, .int .i64 0, .int .i64 0, .int .i64 0]).cells m).toList = List.replicate (m * 4) (.int .i64 0) := by
      simp only [Builtin.zeroCells, Value.cells]
      apply List.ext_getElem
      · simp
      · intro i h1 h2
        have h4 : i % 4 < 4 := Nat.mod_lt _ (by omega)
        have h5 : i % 4 = 0 ∨ i % 4 = 1 ∨ i % 4 = 2 ∨ i % 4 = 3 := by omega
        rcases h5 with h5 | h5 | h5 | h5 <;> simp [h5]
    have hst := run_storeCells_cells (P := Try.prog) g (i * 4) (List.replicate (m * 4) (.int .i64 0)) 0 w (fun j hj => by
        rw [List.length_replicate] at hj
        rw [Nat.add_zero, hcell _ (by omega)]; rfl) (fun j hj => by rw [Nat.add_zero]; exact hf (by omega) _) (by intro v hv'; rw [List.eq_of_mem_replicate hv']; rfl)
    rw [Nat.add_zero] at hst
    obtain ⟨ys, h1, h2, h3⟩ := own_setCells (List.replicate (m * 4) (.int .i64 0)) (i * 4) w _ hown
    have h4 := own_cut h1 i (by omega)
    rw [h2, stCells_take] at h4
    obtain ⟨m', rfl⟩ : ∃ m', m = m' + 1 := ⟨m - 1, by omega⟩
    refine ⟨_, ?_, by unfold Stmts; rw [List.length_take, Nat.min_eq_left (by omega)]; exact h4, h3⟩
    have hv : ∀ w, (zeroValue 75).run Try.prog w = .ok (.agg #[.int .i64 0, .int .i64 0, .int .i64 0, .int .i64 0]) w := fun w => by simp [zeroValue, typeInfo, hi, hz]
    intro ty
    simp [Builtin.clear_, run_underlying Try.underlying57, hv, hzc, hst]
/-- A statement stored into a row. -/
theorem Stmts.stored {w : World} {lo g n C : Nat} {l : List St} (h : Stmts w lo (.slice (some ⟨g, 0, none⟩) n C) l) (i : Nat) (hi : i < l.length) (k t a b : Int) :
    Stmts ((((w.setCell ⟨g, i * 4, none⟩ (.int .i64 k)).setCell ⟨g, i * 4 + 1, none⟩ (.int .i64 t)).setCell ⟨g, i * 4 + 2, none⟩ (.int .i64 a)).setCell ⟨g, i * 4 + 3, none⟩ (.int .i64 b)) lo (.slice (some ⟨g, 0, none⟩) n C) (l.set i ⟨k, t, a, b⟩) ∧
    w.grownBy ((((w.setCell ⟨g, i * 4, none⟩ (.int .i64 k)).setCell ⟨g, i * 4 + 1, none⟩ (.int .i64 t)).setCell ⟨g, i * 4 + 2, none⟩ (.int .i64 a)).setCell ⟨g, i * 4 + 3, none⟩ (.int .i64 b)) (some g) := by
  obtain ⟨_, _, e⟩ := h.form
  simp only [Value.slice.injEq] at e
  obtain ⟨_, rfl, _⟩ := e
  have a0 := World.ownsRow.stored (w := w) h (i * 4) (.int .i64 k)
  have a1 := World.ownsRow.stored a0.1 (i * 4 + 1) (.int .i64 t)
  have a2 := World.ownsRow.stored a1.1 (i * 4 + 2) (.int .i64 a)
  have a3 := World.ownsRow.stored a2.1 (i * 4 + 3) (.int .i64 b)
  refine ⟨?_, ((a0.2.trans a1.2).trans a2.2).trans a3.2⟩
  have e : ∀ (l : List St) (i : Nat), i < l.length → ((((stCells l).set (i * 4) (.int .i64 k)).set (i * 4 + 1) (.int .i64 t)).set (i * 4 + 2) (.int .i64 a)).set (i * 4 + 3) (.int .i64 b) = stCells (l.set i ⟨k, t, a, b⟩) := by
    intro l
    induction l with
    | nil => intro i h; exact absurd h (Nat.not_lt_zero _)
    | cons s l ih =>
      intro i h
      cases i with
      | zero => simp [stCells]
      | succ i =>
        have := ih i (by simpa using h)
        simp only [stCells, List.flatMap_cons, List.set_cons_succ] at this ⊢
        rw [← this, show (i + 1) * 4 = i * 4 + 4 by omega]
        simp
  unfold Stmts
  rw [List.length_set, ← e l i hi]
  exact a3.1

theorem boxAt4 {w w' : World} {a b c d : Value} {t : TypeId} (h : Below (w.alloc (.cells #[a, b, c, d] t)).heap.size (w.alloc (.cells #[a, b, c, d] t)) w') :
    w'.cell? ⟨w.heap.size, 0, none⟩ = some a ∧ w'.cell? ⟨w.heap.size, 1, none⟩ = some b ∧ w'.cell? ⟨w.heap.size, 2, none⟩ = some c ∧ w'.cell? ⟨w.heap.size, 3, none⟩ = some d :=
  ⟨(h.cell (p := ⟨w.heap.size, 0, none⟩) (by simp)).trans (by simp [go_sem]), (h.cell (p := ⟨w.heap.size, 1, none⟩) (by simp)).trans (by simp [go_sem]), (h.cell (p := ⟨w.heap.size, 2, none⟩) (by simp)).trans (by simp [go_sem]), (h.cell (p := ⟨w.heap.size, 3, none⟩) (by simp)).trans (by simp [go_sem])⟩

/-! ### isDeclaration, IndexFunc, DeleteFunc -/
theorem decl_eq (k t a b : Int) : (⟨k, t, a, b⟩ : St).decl = (k == 9 || k == 10) := by
  unfold St.decl
  rw [Bool.eq_iff_iff]
  simp
theorem I_isDeclaration (s : St) (w : World) :
    Calls Try.prog 67 #[s.val] w fun e w' => e = .returned (.bool s.decl) ∧ Below w.heap.size w w' := by
  obtain ⟨k, t, a, b⟩ := s
  have E := Lib.hid (decl_eq k t a b)
  generalize (⟨k, t, a, b⟩ : St).decl = R at *
  by_cases h9 : k = 9
  · subst h9
    go_enter Try.func67, Try.ntmps67
    go_wp2
    go_ret
    exact ⟨ret_bool (by rw [E.out]; rfl), al1⟩
  · have hb9 : (k == 9) = false := by simp [h9]
    go_enter Try.func67, Try.ntmps67
    go_wp2
    go_ret
    exact ⟨ret_bool (by rw [E.out, hb9]; simp), al1⟩

set_option maxRecDepth 100000 in
theorem I_IndexFunc (v : Value) (l : List St) (lo : Nat) (w : World) (hv : Stmts w lo v l) (hl : l.length ≤ 1000) :
    Calls Try.prog 99 #[v, .func (.func 67) #[] #[]] w fun e w' => ∃ i : Nat, i ≤ l.length ∧ (∀ j, j < i → (l.getD j default).decl = false) ∧ (i < l.length ∧ (l.getD i default).decl = true ∧ e = .returned (.int .i64 i) ∨ i = l.length ∧ e = .returned (.int .i64 (-1))) ∧ Below w.heap.size w w' := by
  obtain ⟨A, C, g, rfl, hn, hc, hA, hg, hcell, _⟩ := hv.rd
  have HC := Lib.hid hcell
  unfold maxLen at hc
  clear hv hcell
  go_enter Try.func99, Try.ntmps99
  go_wp2
  go_loopw [8] (fun i wr => ∃ k : Nat, k ≤ l.length ∧ i = .int .i64 k ∧ (∀ j, j < k → (l.getD j default).decl = false) ∧ Below w.heap.size w wr) (fun i _ => l.length - (intOf i).toNat)
  case atStart => exact ⟨0, Nat.zero_le _, rfl, fun j hj => absurd hj (Nat.not_lt_zero _), Below.refl _ _⟩
  case round =>
    obtain ⟨k, hk, rfl, hp, hB⟩ := hrel
    have HP := Lib.hid hp
    clear hp
    by_cases hlt : k < l.length
    · obtain ⟨c0, c1, c2, c3⟩ := HC.out k hlt
      have hgl := (hg (by omega)).2
      have c0 := (hB.cell (p := ⟨g, k * 4, none⟩) hgl).trans c0
      have c1 := (hB.cell (p := ⟨g, k * 4 + 1, none⟩) hgl).trans c1
      have c2 := (hB.cell (p := ⟨g, k * 4 + 2, none⟩) hgl).trans c2
      have c3 := (hB.cell (p := ⟨g, k * 4 + 3, none⟩) hgl).trans c3
      obtain rfl := hA (by omega)
      generalize hs : l.getD k default = s at *
      have HS := Lib.hid hs
      clear hs hA hg
      cases hd : s.decl
      · have HD := Lib.hid hd
        clear hd
        go_wp2_with (go_at_call 67; refine (I_isDeclaration s _).mono ?_; rintro e w2 ⟨rfl, hb2⟩; rw [HD.out])
        go_roundw
        case rel => exact ⟨k + 1, by omega, by go_num, fun j hj => by
          rcases Nat.lt_succ_iff_lt_or_eq.1 hj with h | rfl
          · exact HP.out j h
          · rw [HS.out]; exact HD.out, bthen hB hb2⟩
        case measure => simp [intOf]; omega
      · have HD := Lib.hid hd
        clear hd
        go_wp2_with (go_at_call 67; refine (I_isDeclaration s _).mono ?_; rintro e w2 ⟨rfl, hb2⟩; rw [HD.out])
        go_ret
        exact ⟨k, by omega, HP.out, .inl ⟨hlt, by rw [HS.out]; exact HD.out, rfl⟩, bthen hB hb2⟩
    · obtain rfl : k = l.length := by omega
      go_wp2
      go_ret
      exact ⟨l.length, Nat.le_refl _, HP.out, .inr ⟨rfl, rfl⟩, hB⟩

theorem keepTo_none (l : List St) : ∀ i, i ≤ l.length → (∀ j, j < i → (l.getD j default).decl = false) → keepTo l i = l.take i
  | 0, _, _ => by simp [keepTo]
  | i + 1, h, hn => by
    rw [keepTo_yes l i (by omega) (hn i (by omega)), keepTo_none l i (by omega) (fun j hj => hn j (by omega)), List.take_succ_eq_append_getElem (by omega)]
    simp [List.getD, show i < l.length by omega]
theorem keepTo_all (l : List St) : keepTo l l.length = l.filter fun s => !s.decl := by unfold keepTo; rw [List.take_length]

set_option maxRecDepth 100000 in
set_option maxHeartbeats 1000000 in
theorem I_DeleteFunc (v : Value) (l : List St) (lo : Nat) (w : World) (hv : Stmts w lo v l) (hl : l.length ≤ 1000) :
    Calls Try.prog 66 #[v, .func (.func 67) #[] #[]] w fun e w' => ∃ v', e = .returned v' ∧ Stmts w' lo v' (l.filter fun s => !s.decl) ∧ w.grownBy w' v.ownBlock ∧ v'.ownBlock = v.ownBlock := by
  obtain ⟨A, C, g, rfl, hn, hc, hA, hg, hcell, _⟩ := hv.rd
  have HV := Lib.hid hv
  unfold maxLen at hc
  clear hv hcell
  go_enter Try.func66, Try.ntmps66
  go_wp2_with fail
  refine (I_IndexFunc _ l lo _ HV.out hl).mono ?_
  rintro e w1 ⟨i, hi, hno, hcase, hb1⟩
  have hv1 := HV.out.keep hb1
  have HV1 := Lib.hid hv1
  have HNO := Lib.hid hno
  have HB1 := Lib.hid hb1
  clear hv1 hno hb1
  rcases hcase with ⟨hlt, hd, rfl⟩ | ⟨rfl, rfl⟩
  · obtain rfl := hA (by omega)
    have hk0 : keepTo l i = l.take i := keepTo_none l i (by omega) HNO.out
    have hk1 : keepTo l (i + 1) = l.take i := by rw [keepTo_no l i hlt hd, hk0]
    have HK1 := Lib.hid hk1
    have hne : ((i : Int) == -1) = false := by simp
    have hgl := (hg (by omega)).2
    have hlog := (hg (by omega)).1
    clear hd hk0 hk1 hA hg
    go_wp2
    go_loopw [5, 6] (fun q r wr => ∃ (a b : Nat) (l' : List St), a < b ∧ b ≤ l.length ∧ q = .int .i64 a ∧ r = .int .i64 b ∧ l'.length = l.length ∧ Stmts wr lo (.slice (some ⟨g, 0, none⟩) l.length C) l' ∧ l'.take a = keepTo l b ∧ (∀ j, b ≤ j → j < l.length → l'.getD j default = l.getD j default) ∧ w1.grownBy wr (some g)) (fun _ r _ => l.length - (intOf r).toNat)
    case atStart => exact ⟨i, i + 1, l, by omega, by omega, rfl, by go_num, rfl, HV1.out, HK1.out.symm, fun _ _ _ => rfl, World.grownBy.refl _ _⟩
    case round =>
      obtain ⟨a, b, l', hab, hbl, rfl, rfl, hll, hown, htk, hrest, hgr⟩ := hrel
      have HOW := Lib.hid hown
      have HTK := Lib.hid htk
      have HLL := Lib.hid hll
      have HRE := Lib.hid hrest
      have hz := hgr.size
      clear htk hrest
      by_cases hlt2 : b < l.length
      · obtain ⟨A2, C2, g2, e2, hn2, hc2, hA2, hg2, hcell2, hf2⟩ := hown.rd
        have e3 := hA2 (by rw [HLL.out]; omega)
        subst e3
        simp only [Value.slice.injEq, Option.some.injEq, Addr.mk.injEq, and_true] at e2
        obtain ⟨rfl, hz9, rfl⟩ := e2
        clear hll hz9
        obtain ⟨c0, c1, c2, c3⟩ := hcell2 b (by rw [HLL.out]; omega)
        obtain ⟨d0, d1, d2, d3⟩ := hcell2 a (by rw [HLL.out]; omega)
        have hfz := hf2 (by rw [HLL.out]; omega)
        have hgl2 := (hg2 (by rw [HLL.out]; omega)).2
        rw [HRE.out b (Nat.le_refl _) hlt2] at c0 c1 c2 c3
        have ky := keepTo_yes l b hlt2
        have kn := keepTo_no l b hlt2
        obtain ⟨s, hs⟩ : ∃ s : St, s = l.getD b default := ⟨_, rfl⟩
        rw [← hs] at c0 c1 c2 c3 ky kn
        generalize l'.getD a default = u at *
        obtain ⟨sk, st, sa, sb⟩ := s
        obtain ⟨uk, ut, ua, ub⟩ := u
        simp only at c0 c1 c2 c3 d0 d1 d2 d3
        have ha1 : (a : Int) < (l.length : Int) := by omega
        have hb1 : (b : Int) < (l.length : Int) := by omega
        clear hs hcell2 hf2 hg2 hA2 hn2 hc2
        cases hd : (⟨sk, st, sa, sb⟩ : St).decl
        · have HK := Lib.hid (ky hd)
          have HD := Lib.hid hd
          clear ky kn hd
          go_wp2_with (go_at_call 67; refine (I_isDeclaration ⟨sk, st, sa, sb⟩ _).mono ?_; rintro e w2 ⟨rfl, hb2⟩; rw [HD.out]; have h2 := bthen al1 hb2; have d0 := cell_later h2 d0; have d1 := cell_later h2 d1; have d2 := cell_later h2 d2; have d3 := cell_later h2 d3; have v0 := boxAt4 hb2; obtain ⟨v0, v1, v2, v3⟩ := v0; have hz2 := hb2.size; have fz : ∀ j, w2.frozen? ⟨g, j, none⟩ = false := fun j => ((bcell h2).2 g j hgl2).trans (hfz j))
          go_roundw
          case rel =>
            have ho2 := HOW.out.keep h2
            obtain ⟨hs1, hs2⟩ := ho2.stored a (by rw [HLL.out]; omega) sk st sa sb
            refine ⟨a + 1, b + 1, l'.set a ⟨sk, st, sa, sb⟩, by omega, by omega, by go_num, by go_num, by rw [List.length_set]; exact HLL.out, hs1, ?_, fun j h1 h2' => ?_, (hgr.trans (grown_of_below h2 _)).trans hs2⟩
            · rw [HK.out, ← HTK.out, List.take_succ_eq_append_getElem (by rw [List.length_set, HLL.out]; omega), List.take_set_of_le (Nat.le_refl _)]
              simp
            · rw [getD_set_ne _ _ _ _ _ (by omega)]
              exact HRE.out j (by omega) h2'
          case measure => simp [intOf]; omega
        · have HK := Lib.hid (kn hd)
          have HD := Lib.hid hd
          clear ky kn hd
          go_wp2_with (go_at_call 67; refine (I_isDeclaration ⟨sk, st, sa, sb⟩ _).mono ?_; rintro e w2 ⟨rfl, hb2⟩; rw [HD.out]; have h2 := bthen al1 hb2)
          go_roundw
          case rel => exact ⟨a, b + 1, l', by omega, by omega, rfl, by go_num, HLL.out, HOW.out.keep h2, by rw [HK.out]; exact HTK.out, fun j h1 h2' => HRE.out j (by omega) h2', hgr.trans (grown_of_below h2 _)⟩
          case measure => simp [intOf]; omega
      · obtain rfl : b = l.length := by omega
        have hac : a < C := by omega
        clear hll
        obtain ⟨w9, hclr, h9, hg9⟩ := run_clear_stmts wr lo g C l.length a (l.length - a) (C - a) _ l' HOW.out (by rw [HLL.out]; omega) rfl
        have H9 := Lib.hid h9
        have HG9 := Lib.hid hg9
        clear h9 hg9
        go_wp2
        go_ret
        refine ⟨_, rfl, ?_, ((grown_of_below HB1.out (some g)).trans hgr).trans HG9.out, rfl⟩
        have h9 := H9.out
        rw [HTK.out, keepTo_all] at h9
        refine (congrArg (fun n => Stmts w9 lo (.slice (some ⟨g, 0, none⟩) n C) _) ?_).mp h9
        rfl
  · go_wp2
    go_ret
    refine ⟨_, rfl, ?_, grown_of_below HB1.out _, rfl⟩
    rw [← keepTo_all, keepTo_none l _ (Nat.le_refl _) HNO.out, List.take_length]
    exact HV1.out

end Go.Proofs.Ytelhemhbgpfokaa
