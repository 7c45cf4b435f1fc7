/-
  Walks: the helpers of the exact laws that compare: each answers whether its two arguments are equal; nothing that was there turns. No condition but that the arguments read as lists.
-/
import Derived.Test.YtpajkejdfalkiaaDoorRows
import Derived.Test.YtpajkejdfalkiaaDoorMem
import Derived.BigQuiet
import Derived.Deep.QuietTactic
import Derived.StillTailTactics
namespace Go.Proofs.YtpajkejdfalkiaaDoor
open Go.RowKit

theorem eqIntS_any (va vb : Value) (la lb : List Int) (l1 l2 : Nat) (w : World) (ha : Ints w l1 va la) (hb : Ints w l2 vb lb) :
    Calls Tryd.prog 93 #[va, vb] w fun e w' => e = .returned (.bool (la == lb)) ∧ Below w.heap.size w w' := by
  obtain ⟨A, C, g, rfl, hn, hc, hA, hg, hcell, hf⟩ := ha.rd
  obtain ⟨A', C', g', rfl, hn', hc', hA', hg', hcell', hf'⟩ := hb.rd
  clear ha hb hf hf'
  unfold maxLen at hc hc'
  by_cases hl : la.length = lb.length
  · have H := Lib.hid hl
    have hb0 : ((la.length : Int) != (lb.length : Int)) = false := by rw [hl]; simp
    have hn1 : la.length ≤ lb.length := by omega
    clear hl
    go_enter Tryd.func93, Tryd.ntmps93
    go_wp2
    go_loopw [5] (fun i wr => ∃ k : Nat, k ≤ la.length ∧ i = .int .i64 k ∧ Below w.heap.size w wr ∧ ∀ j, j < k → la.getD j 0 = lb.getD j 0) (fun i _ => la.length - (intOf i).toNat)
    case atStart => exact ⟨0, Nat.zero_le _, rfl, Below.refl _ _, fun j hj => absurd hj (Nat.not_lt_zero _)⟩
    case round =>
      obtain ⟨k, hk, rfl, hB, hp⟩ := hrel
      have HP := Lib.hid hp
      clear hp
      by_cases hlt : k < la.length
      · have c1 := (hB.cell (p := ⟨g, k, none⟩) (hg (by omega)).2).trans (hcell k hlt)
        have c2 := (hB.cell (p := ⟨g', k, none⟩) (hg' (by omega)).2).trans (hcell' k (by omega))
        obtain rfl := hA (by omega)
        obtain rfl := hA' (by omega)
        clear hA hA' hcell hcell' hg hg'
        generalize hx : la.getD k 0 = x at c1
        generalize hy : lb.getD k 0 = y at c2
        have HX := Lib.hid hx
        have HY := Lib.hid hy
        clear hx hy
        by_cases hxy : x = y
        · have HE := Lib.hid hxy
          have hb1 : (x != y) = false := by simp [hxy]
          clear hxy
          go_wp2
          go_quiet (fail)
          go_wp2
          go_roundw
          case rel => exact ⟨k + 1, by omega, by go_num, below_drewN hB _, fun j hj => by
            rcases Nat.lt_succ_iff_lt_or_eq.1 hj with h | rfl
            · exact HP.out j h
            · rw [HX.out, HY.out, HE.out]⟩
          case measure => simp [intOf]; omega
        · have HE := Lib.hid hxy
          have hb1 : (x != y) = true := by simp [hxy]
          clear hxy
          go_wp2
          go_quiet (fail)
          go_wp2
          go_ret
          refine ⟨ret_bool ?_, below_drewN hB _⟩
          rw [eq_comm, beq_eq_false_iff_ne]
          rintro rfl
          exact HE.out (by rw [← HX.out, ← HY.out])
      · go_wp2
        go_ret
        refine ⟨ret_bool ?_, hB⟩
        obtain rfl : k = la.length := by omega
        rw [eq_comm, beq_iff_eq]
        refine List.ext_getElem H.out fun i h1 h2 => ?_
        have := HP.out i h1
        simpa [List.getD, h1, h2] using this
  · have hb0 : ((la.length : Int) != (lb.length : Int)) = true := by simp; omega
    go_enter Tryd.func93, Tryd.ntmps93
    go_wp2
    go_ret
    refine ⟨ret_bool ?_, Below.refl _ _⟩
    rw [eq_comm, beq_eq_false_iff_ne]
    intro h
    exact absurd (congrArg _ h) hl

theorem eqStmt_any (s t : St) (w : World) :
    Calls Tryd.prog 118 #[s.val, t.val] w fun e w' => e = .returned (.bool (s == t)) ∧ Below w.heap.size w w' := by
  obtain ⟨a1, a2, a3, a4⟩ := s
  obtain ⟨b1, b2, b3, b4⟩ := t
  go_enter Tryd.func118, Tryd.ntmps118
  go_wp2
  all_goals
    go_ret
    exact ⟨ret_bool (by simp_all), ((Below.refl _ _).alloc (Nat.le_refl _) _).alloc (by simp) _⟩
set_option maxRecDepth 100000 in
theorem eqStmtS_any (va vb : Value) (la lb : List St) (l1 l2 : Nat) (w : World) (ha : Stmts w l1 va la) (hb : Stmts w l2 vb lb) :
    Calls Tryd.prog 94 #[va, vb] w fun e w' => e = .returned (.bool (la == lb)) ∧ Below w.heap.size w w' := by
  obtain ⟨A, C, g, rfl, hn, hc, hA, hg, hcell, hf⟩ := ha.rd
  obtain ⟨A', C', g', rfl, hn', hc', hA', hg', hcell', hf'⟩ := hb.rd
  clear ha hb hf hf'
  unfold maxLen at hc hc'
  by_cases hl : la.length = lb.length
  · have H := Lib.hid hl
    have hb0 : ((la.length : Int) != (lb.length : Int)) = false := by rw [hl]; simp
    have hn1 : la.length ≤ lb.length := by omega
    clear hl
    go_enter Tryd.func94, Tryd.ntmps94
    go_wp2
    go_loopw [5] (fun i wr => ∃ k : Nat, k ≤ la.length ∧ i = .int .i64 k ∧ Below w.heap.size w wr ∧ ∀ j, j < k → la.getD j default = lb.getD j default) (fun i _ => la.length - (intOf i).toNat)
    case atStart => exact ⟨0, Nat.zero_le _, rfl, Below.refl _ _, fun j hj => absurd hj (Nat.not_lt_zero _)⟩
    case round =>
      obtain ⟨k, hk, rfl, hB, hp⟩ := hrel
      have HP := Lib.hid hp
      clear hp
      by_cases hlt : k < la.length
      · obtain ⟨c1, c2, c3, c4⟩ := hcell k hlt
        obtain ⟨d1, d2, d3, d4⟩ := hcell' k (by omega)
        have hgl := (hg (by omega)).2
        have hgl' := (hg' (by omega)).2
        rw [← hB.cell (p := ⟨g, _, none⟩) hgl] at c1 c2 c3 c4
        rw [← hB.cell (p := ⟨g', _, none⟩) hgl'] at d1 d2 d3 d4
        obtain rfl := hA (by omega)
        obtain rfl := hA' (by omega)
        clear hA hA' hcell hcell' hg hg'
        generalize hx : la.getD k default = x at c1 c2 c3 c4
        generalize hy : lb.getD k default = y at d1 d2 d3 d4
        have HX := Lib.hid hx
        have HY := Lib.hid hy
        clear hx hy
        have hi1 : (k : Int) < (la.length : Int) := by omega
        have hi2 : (k : Int) < (lb.length : Int) := by omega
        go_wp2
        go_still_tail 8, (by kernel_rfl)
        change wpList _ _ _ _ _ wr.drew
        have hB1 : Below w.heap.size w wr.drew := hB.drew
        generalize wr.drew = w2 at hB1
        clear c1 c2 c3 c4 d1 d2 d3 d4 hB
        by_cases hxy : x = y
        · have HE := Lib.hid hxy
          have hb1 : (x == y) = true := by simp [hxy]
          clear hxy
          go_wp2_with (go_at_call 118; refine (eqStmt_any x y _).mono ?_; rintro e w3 ⟨rfl, hb3⟩)
          go_roundw
          case rel => exact ⟨k + 1, by omega, by go_num, hB1.trans (hb3.mono hB1.size), fun j hj => by
            rcases Nat.lt_succ_iff_lt_or_eq.1 hj with h | rfl
            · exact HP.out j h
            · rw [HX.out, HY.out, HE.out]⟩
          case measure => simp [intOf]; omega
        · have HE := Lib.hid hxy
          have hb1 : (x == y) = false := by simp [hxy]
          clear hxy
          go_wp2_with (go_at_call 118; refine (eqStmt_any x y _).mono ?_; rintro e w3 ⟨rfl, hb3⟩)
          go_ret
          refine ⟨ret_bool ?_, hB1.trans (hb3.mono hB1.size)⟩
          rw [eq_comm, beq_eq_false_iff_ne]
          rintro rfl
          exact HE.out (by rw [← HX.out, ← HY.out])
      · go_wp2
        go_ret
        refine ⟨ret_bool ?_, hB⟩
        obtain rfl : k = la.length := by omega
        rw [eq_comm, beq_iff_eq]
        refine List.ext_getElem H.out fun i h1 h2 => ?_
        have := HP.out i h1
        simpa [List.getD, h1, h2] using this
  · have hb0 : ((la.length : Int) != (lb.length : Int)) = true := by simp; omega
    go_enter Tryd.func94, Tryd.ntmps94
    go_wp2
    go_ret
    refine ⟨ret_bool ?_, Below.refl _ _⟩
    rw [eq_comm, beq_eq_false_iff_ne]
    intro h
    exact absurd (congrArg _ h) hl

theorem eqBlock_any (x y : Bk) (pv bv pv' bv' : Value) (l1 l2 l3 l4 : Nat) (w : World) (hp : Ints w l1 pv x.params) (hb : Stmts w l2 bv x.body) (hp' : Ints w l3 pv' y.params) (hb' : Stmts w l4 bv' y.body) :
    Calls Tryd.prog 56 #[bkVal x pv bv, bkVal y pv' bv'] w fun e w' => e = .returned (.bool (x == y)) ∧ Below w.heap.size w w' := by
  have e : (x == y) = (x.kind == y.kind && (x.parent == y.parent && (x.params == y.params && x.body == y.body))) := by
    obtain ⟨a1, a2, a3, a4⟩ := x
    obtain ⟨b1, b2, b3, b4⟩ := y
    rw [Bool.eq_iff_iff]
    simp
  have E := Lib.hid e
  clear e
  go_enter Tryd.func56, Tryd.ntmps56
  go_wp2_with (first
    | (go_at_call 93
       refine (eqIntS_any pv pv' x.params y.params l1 l3 _ (hp.keep (al2)) (hp'.keep (al2))).mono ?_
       rintro e w3 ⟨rfl, hb3⟩
       obtain ⟨hc3, hf3⟩ := bcell hb3
       have hB3 : Below w.heap.size w w3 := bthen al2 hb3)
    | (go_at_call 94
       refine (eqStmtS_any bv bv' x.body y.body l2 l4 _ (hb.keep hB3) (hb'.keep hB3)).mono ?_
       rintro e w4 ⟨rfl, hb4⟩
       have hB4 : Below w.heap.size w w4 := bthen hB3 hb4))
  all_goals
    go_ret
    refine ⟨ret_bool ?_, by first | assumption | exact al2⟩
    rw [E.out]
    simp_all

set_option maxRecDepth 100000 in
theorem eqBlockS_any (va vb : Value) (la lb : Pr) (l1 l2 : Nat) (w : World) (ha : Blks w l1 va la) (hb : Blks w l2 vb lb) :
    Calls Tryd.prog 35 #[va, vb] w fun e w' => e = .returned (.bool (la == lb)) ∧ Below w.heap.size w w' := by
  obtain ⟨A, C, g, rfl, hn, hc, hA, hg, hcell, hf⟩ := ha.rd
  obtain ⟨A', C', g', rfl, hn', hc', hA', hg', hcell', hf'⟩ := hb.rd
  clear ha hb hf hf'
  unfold maxLen at hc hc'
  by_cases hl : la.length = lb.length
  · have H := Lib.hid hl
    have hb0 : ((la.length : Int) != (lb.length : Int)) = false := by rw [hl]; simp
    have hn1 : la.length ≤ lb.length := by omega
    clear hl
    go_enter Tryd.func35, Tryd.ntmps35
    go_wp2
    go_loopw [5] (fun i wr => ∃ k : Nat, k ≤ la.length ∧ i = .int .i64 k ∧ Below w.heap.size w wr ∧ ∀ j, j < k → la.getD j default = lb.getD j default) (fun i _ => la.length - (intOf i).toNat)
    case atStart => exact ⟨0, Nat.zero_le _, rfl, Below.refl _ _, fun j hj => absurd hj (Nat.not_lt_zero _)⟩
    case round =>
      obtain ⟨k, hk, rfl, hB, hp⟩ := hrel
      have HP := Lib.hid hp
      clear hp
      by_cases hlt : k < la.length
      · obtain ⟨pv, bv, c1, c2, c3, c4, hp1, hb1⟩ := hcell k hlt
        obtain ⟨pv', bv', d1, d2, d3, d4, hp2, hb2⟩ := hcell' k (by omega)
        have hgl := (hg (by omega)).2
        have hgl' := (hg' (by omega)).2
        rw [← hB.cell (p := ⟨g, _, none⟩) hgl] at c1 c2 c3 c4
        rw [← hB.cell (p := ⟨g', _, none⟩) hgl'] at d1 d2 d3 d4
        obtain rfl := hA (by omega)
        obtain rfl := hA' (by omega)
        clear hA hA' hcell hcell' hg hg'
        generalize hx : la.getD k default = x at c1 c2 c3 c4 hp1 hb1
        generalize hy : lb.getD k default = y at d1 d2 d3 d4 hp2 hb2
        have HX := Lib.hid hx
        have HY := Lib.hid hy
        clear hx hy
        have hi1 : (k : Int) < (la.length : Int) := by omega
        have hi2 : (k : Int) < (lb.length : Int) := by omega
        go_wp2
        go_still_tail 8, (by kernel_rfl)
        change wpList _ _ _ _ _ wr.drew
        have hB1 : Below w.heap.size w wr.drew := hB.drew
        generalize wr.drew = w2 at hB1
        clear c1 c2 c3 c4 d1 d2 d3 d4 hB
        by_cases hxy : x = y
        · have HE := Lib.hid hxy
          have hbq : (x == y) = true := by simp [hxy]
          clear hxy
          go_wp2_with (go_at_call 56; refine (eqBlock_any x y pv bv pv' bv' l1 l1 l2 l2 _ (hp1.keep hB1) (hb1.keep hB1) (hp2.keep hB1) (hb2.keep hB1)).mono ?_; rintro e w3 ⟨rfl, hb3⟩)
          go_roundw
          case rel => exact ⟨k + 1, by omega, by go_num, hB1.trans (hb3.mono hB1.size), fun j hj => by
            rcases Nat.lt_succ_iff_lt_or_eq.1 hj with h | rfl
            · exact HP.out j h
            · rw [HX.out, HY.out, HE.out]⟩
          case measure => simp [intOf]; omega
        · have HE := Lib.hid hxy
          have hbq : (x == y) = false := by simp [hxy]
          clear hxy
          go_wp2_with (go_at_call 56; refine (eqBlock_any x y pv bv pv' bv' l1 l1 l2 l2 _ (hp1.keep hB1) (hb1.keep hB1) (hp2.keep hB1) (hb2.keep hB1)).mono ?_; rintro e w3 ⟨rfl, hb3⟩)
          go_ret
          refine ⟨ret_bool ?_, hB1.trans (hb3.mono hB1.size)⟩
          rw [eq_comm, beq_eq_false_iff_ne]
          rintro rfl
          exact HE.out (by rw [← HX.out, ← HY.out])
      · go_wp2
        go_ret
        refine ⟨ret_bool ?_, hB⟩
        obtain rfl : k = la.length := by omega
        rw [eq_comm, beq_iff_eq]
        refine List.ext_getElem H.out fun i h1 h2 => ?_
        have := HP.out i h1
        simpa [List.getD, h1, h2] using this
  · have hb0 : ((la.length : Int) != (lb.length : Int)) = true := by simp; omega
    go_enter Tryd.func35, Tryd.ntmps35
    go_wp2
    go_ret
    refine ⟨ret_bool ?_, Below.refl _ _⟩
    rw [eq_comm, beq_eq_false_iff_ne]
    intro h
    exact absurd (congrArg _ h) hl

theorem eqProgram_any (va vb : Value) (p q : Pr) (l1 l2 : Nat) (w : World) (ha : Prog w l1 va p) (hb : Prog w l2 vb q) :
    Calls Tryd.prog 16 #[va, vb] w fun e w' => e = .returned (.bool (p == q)) ∧ Below w.heap.size w w' := by
  obtain ⟨sa, rfl, ha⟩ := ha
  obtain ⟨sb, rfl, hb⟩ := hb
  go_enter Tryd.func16, Tryd.ntmps16
  go_wp2_with (go_at_call 35; refine (eqBlockS_any sa sb p q l1 l2 _ (ha.keep (al2)) (hb.keep (al2))).mono ?_; rintro e w3 ⟨rfl, hb3⟩)
  all_goals
    go_ret
    refine ⟨ret_bool (by simp_all), bthen al2 hb3⟩

end Go.Proofs.YtpajkejdfalkiaaDoor