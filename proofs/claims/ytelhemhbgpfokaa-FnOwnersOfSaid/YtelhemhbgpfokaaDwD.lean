/-
  Walks: the draws of the arguments of functions, and the small functions of the laws. Condition: what the arguments name stands in memory.
-/
import Derived.Test.YtelhemhbgpfokaaDwC
import Derived.Test.YtelhemhbgpfokaaSpec9
import Derived.Test.YtelhemhbgpfokaaSpec4
import Derived.Test.YtelhemhbgpfokaaEq
import Derived.BigQuiet
import Derived.Test.YtelhemhbgpfokaaFrame
import Derived.Test.YtelhemhbgpfokaaDwA
namespace Go.Proofs.Ytelhemhbgpfokaa
open Go.RowKit
set_option linter.unusedVariables false

end Go.Proofs.Ytelhemhbgpfokaa

namespace Go.Proofs.Ytelhemhbgpfokaa
open Go.RowKit
set_option linter.unusedVariables false

set_option maxRecDepth 100000 in
set_option maxHeartbeats 2000000 in
theorem S_DrawOwnersOf (v : Value) (l : List Int) (w : World) (hv : OBytes w v l) (hl : l.length ≤ 1048576) :
    Calls Try.prog 10 #[v] w fun e w' => ∃ (sl : Value) (xs : List Value) (p : Pr), e = .returned (.agg #[sl]) ∧ PRow w' w.heap.size sl xs p ∧ (1 ≤ p.length ∧ p.length ≤ 7) ∧ Below w.heap.size w w' := by
  have hv1 := hv.keep (al1 (o := (.cells #[.slice none 0 0] 25)))
  clear hv
  go_enter Try.func10, Try.ntmps10
  go_wp2_with fail
  refine (S_newReader v l _ hv1 hl).mono ?_
  rintro e w0 ⟨rfl, hr, hb, hz⟩
  have hb1 := bthen al1 hb
  have r0 := fun o => (bcell hb).1 w.heap.size o (by simp)
  have m0 := fun o => (bcell hb).2 w.heap.size o (by simp)
  rw [World.size_alloc] at hr hz
  have hz0 : w.heap.size + 1 < w0.heap.size := by omega
  have hcur := Only.refl (w.heap.size + 1) (w.heap.size + 1 + 1) w0
  clear hz hb hv1
  go_wp2_with fail
  refine (S_anyProgram (w.heap.size + 1) _ _ hr (by omega)).mono ?_
  rintro e w1 ⟨sl, xs, p, rfl, hrow, hp, hr, ho⟩
  have hcur := hcur.trans ho
  obtain ⟨A, C, rfl⟩ := PRowX.form hrow
  have hw1 : w.heap.size + 1 ≤ w0.heap.size := by omega
  have r1 := fun o => ((ocell hcur).1 w.heap.size o (by omega) (by omega)).trans (r0 o)
  have m1 := fun o => ((ocell hcur).2 w.heap.size o (by omega) (by omega)).trans (m0 o)
  clear r0 m0
  go_wp2
  exact bodyPost_ret (v := .agg #[.slice A p.length C]) (by simp [results, Try.results10, go_sem, r1]) rfl
    ⟨.slice A p.length C, xs, p, rfl, (PRowX.only hrow ((Only.refl w.heap.size (w.heap.size + 1) _).setCell (Nat.le_refl _) (Nat.lt_succ_self _) _) (by omega)).lo_ (lo' := w.heap.size) (by omega), hp, ((hb1.trans ((hcur.below (by omega)).mono (by omega))).setCell (Nat.le_refl _) _)⟩

set_option maxRecDepth 100000 in
set_option maxHeartbeats 2000000 in
theorem S_DrawBareProgram (v : Value) (l : List Int) (w : World) (hv : OBytes w v l) (hl : l.length ≤ 1048576) :
    Calls Try.prog 31 #[v] w fun e w' => ∃ (sl : Value) (xs : List Value) (p : Pr), e = .returned (.agg #[sl]) ∧ PRow w' w.heap.size sl xs p ∧ (1 ≤ p.length ∧ p.length ≤ 7) ∧ Below w.heap.size w w' := by
  have hv1 := hv.keep (al1 (o := (.cells #[.slice none 0 0] 25)))
  clear hv
  go_enter Try.func31, Try.ntmps31
  go_wp2_with fail
  refine (S_newReader v l _ hv1 hl).mono ?_
  rintro e w0 ⟨rfl, hr, hb, hz⟩
  have hb1 := bthen al1 hb
  have r0 := fun o => (bcell hb).1 w.heap.size o (by simp)
  have m0 := fun o => (bcell hb).2 w.heap.size o (by simp)
  rw [World.size_alloc] at hr hz
  have hz0 : w.heap.size + 1 < w0.heap.size := by omega
  have hcur := Only.refl (w.heap.size + 1) (w.heap.size + 1 + 1) w0
  clear hz hb hv1
  go_wp2_with fail
  refine (S_anyProgram (w.heap.size + 1) _ _ hr (by omega)).mono ?_
  rintro e w1 ⟨sl, xs, p, rfl, hrow, hp, hr, ho⟩
  have hcur := hcur.trans ho
  obtain ⟨A, C, rfl⟩ := PRowX.form hrow
  have hw1 : w.heap.size + 1 ≤ w0.heap.size := by omega
  have r1 := fun o => ((ocell hcur).1 w.heap.size o (by omega) (by omega)).trans (r0 o)
  have m1 := fun o => ((ocell hcur).2 w.heap.size o (by omega) (by omega)).trans (m0 o)
  clear r0 m0
  go_wp2
  exact bodyPost_ret (v := .agg #[.slice A p.length C]) (by simp [results, Try.results31, go_sem, r1]) rfl
    ⟨.slice A p.length C, xs, p, rfl, (PRowX.only hrow ((Only.refl w.heap.size (w.heap.size + 1) _).setCell (Nat.le_refl _) (Nat.lt_succ_self _) _) (by omega)).lo_ (lo' := w.heap.size) (by omega), hp, ((hb1.trans ((hcur.below (by omega)).mono (by omega))).setCell (Nat.le_refl _) _)⟩

set_option maxRecDepth 100000 in
set_option maxHeartbeats 2000000 in
theorem S_DrawValidProgram (v : Value) (l : List Int) (w : World) (hv : OBytes w v l) (hl : l.length ≤ 1048576) :
    Calls Try.prog 25 #[v] w fun e w' => ∃ (sl : Value) (xs : List Value) (p : Pr), e = .returned (.agg #[sl]) ∧ PRow w' w.heap.size sl xs p ∧ (1 ≤ p.length ∧ p.length ≤ 7) ∧ Below w.heap.size w w' := by
  have hv1 := hv.keep (al1 (o := (.cells #[.slice none 0 0] 25)))
  clear hv
  go_enter Try.func25, Try.ntmps25
  go_wp2_with fail
  refine (S_newReader v l _ hv1 hl).mono ?_
  rintro e w0 ⟨rfl, hr, hb, hz⟩
  have hb1 := bthen al1 hb
  have r0 := fun o => (bcell hb).1 w.heap.size o (by simp)
  have m0 := fun o => (bcell hb).2 w.heap.size o (by simp)
  rw [World.size_alloc] at hr hz
  have hz0 : w.heap.size + 1 < w0.heap.size := by omega
  have hcur := Only.refl (w.heap.size + 1) (w.heap.size + 1 + 1) w0
  clear hz hb hv1
  go_wp2_with fail
  refine (S_pick (w.heap.size + 1) _ 3 _ hr (by omega)).mono ?_
  rintro e wq ⟨c, rfl, c0, c1, hr, ho, hsz⟩
  have hcur := hcur.trans ho
  clear ho c0 c1
  by_cases h0 : c = 0
  · subst h0
    go_wp2_with fail
    refine (S_shapedProgram (w.heap.size + 1) _ _ hr (by omega)).mono ?_
    rintro e w1 ⟨sl, xs, p, rfl, hrow, hT, hpl, hr, ho⟩
    have hcur := hcur.trans ho
    have hp : 1 ≤ p.length ∧ p.length ≤ 7 := ⟨hT.len, by omega⟩
    obtain ⟨A, C, rfl⟩ := PRowX.form hrow
    have r1 := fun o => ((ocell hcur).1 w.heap.size o (by omega) (by omega)).trans (r0 o)
    have m1 := fun o => ((ocell hcur).2 w.heap.size o (by omega) (by omega)).trans (m0 o)
    clear r0 m0
    go_wp2
    exact bodyPost_ret (v := .agg #[.slice A p.length C]) (by simp [results, Try.results25, go_sem, r1]) rfl
      ⟨.slice A p.length C, xs, p, rfl, (PRowX.only hrow ((Only.refl w.heap.size (w.heap.size + 1) _).setCell (Nat.le_refl _) (Nat.lt_succ_self _) _) (by omega)).lo_ (lo' := w.heap.size) (by omega), hp, ((hb1.trans ((hcur.below (by omega)).mono (by omega))).setCell (Nat.le_refl _) _)⟩
  have q0 : (c == 0) = false := by rw [beq_eq_false_iff_ne]; exact h0
  go_wp2_with fail
  refine (S_anyProgram (w.heap.size + 1) _ _ hr (by omega)).mono ?_
  rintro e w1 ⟨sl, xs, p, rfl, hrow, hp, hr, ho⟩
  have hcur := hcur.trans ho
  obtain ⟨A, C, rfl⟩ := PRowX.form hrow
  have r1 := fun o => ((ocell hcur).1 w.heap.size o (by omega) (by omega)).trans (r0 o)
  have m1 := fun o => ((ocell hcur).2 w.heap.size o (by omega) (by omega)).trans (m0 o)
  clear r0 m0
  go_wp2
  exact bodyPost_ret (v := .agg #[.slice A p.length C]) (by simp [results, Try.results25, go_sem, r1]) rfl
    ⟨.slice A p.length C, xs, p, rfl, (PRowX.only hrow ((Only.refl w.heap.size (w.heap.size + 1) _).setCell (Nat.le_refl _) (Nat.lt_succ_self _) _) (by omega)).lo_ (lo' := w.heap.size) (by omega), hp, ((hb1.trans ((hcur.below (by omega)).mono (by omega))).setCell (Nat.le_refl _) _)⟩

end Go.Proofs.Ytelhemhbgpfokaa

namespace Go.Proofs.Ytelhemhbgpfokaa
open Go.RowKit
set_option linter.unusedVariables false

theorem L_equalInts (va vb : Value) (la lb : List Int) (l1 l2 : Nat) (w : World) (ha : Ints w l1 va la) (hb : Ints w l2 vb lb) :
    Calls Try.prog 42 #[va, vb] w fun e w' => e = .returned (.bool (la == lb)) ∧ Below w.heap.size w w' := by
  obtain ⟨A, C, g, rfl, hn, hc, hA, hg, hcell, hf⟩ := ha.rd
  obtain ⟨A', C', g', rfl, hn', hc', hA', hg', hcell', hf'⟩ := hb.rd
  clear ha hb hf hf'
  unfold maxLen at hc hc'
  by_cases hl : la.length = lb.length
  · have H := Lib.hid hl
    have hb0 : ((la.length : Int) != (lb.length : Int)) = false := by rw [hl]; simp
    have hn1 : la.length ≤ lb.length := by omega
    clear hl
    go_enter Try.func42, Try.ntmps42
    go_wp2
    go_loopw [5] (fun i wr => ∃ k : Nat, k ≤ la.length ∧ i = .int .i64 k ∧ Below w.heap.size w wr ∧ ∀ j, j < k → la.getD j 0 = lb.getD j 0) (fun i _ => la.length - (intOf i).toNat)
    case atStart => exact ⟨0, Nat.zero_le _, rfl, Below.refl _ _, fun j hj => absurd hj (Nat.not_lt_zero _)⟩
    case round =>
      obtain ⟨k, hk, rfl, hB, hp⟩ := hrel
      have HP := Lib.hid hp
      clear hp
      by_cases hlt : k < la.length
      · have c1 := (hB.cell (p := ⟨g, k, none⟩) (hg (by omega)).2).trans (hcell k hlt)
        have c2 := (hB.cell (p := ⟨g', k, none⟩) (hg' (by omega)).2).trans (hcell' k (by omega))
        obtain rfl := hA (by omega)
        obtain rfl := hA' (by omega)
        clear hA hA' hcell hcell' hg hg'
        generalize hx : la.getD k 0 = x at c1
        generalize hy : lb.getD k 0 = y at c2
        have HX := Lib.hid hx
        have HY := Lib.hid hy
        clear hx hy
        by_cases hxy : x = y
        · have HE := Lib.hid hxy
          have hb1 : (x != y) = false := by simp [hxy]
          clear hxy
          go_wp2
          go_quiet (fail)
          go_wp2
          go_roundw
          case rel => exact ⟨k + 1, by omega, by go_num, below_drewN hB _, fun j hj => by
            rcases Nat.lt_succ_iff_lt_or_eq.1 hj with h | rfl
            · exact HP.out j h
            · rw [HX.out, HY.out, HE.out]⟩
          case measure => simp [intOf]; omega
        · have HE := Lib.hid hxy
          have hb1 : (x != y) = true := by simp [hxy]
          clear hxy
          go_wp2
          go_quiet (fail)
          go_wp2
          go_ret
          refine ⟨ret_bool ?_, below_drewN hB _⟩
          rw [eq_comm, beq_eq_false_iff_ne]
          rintro rfl
          exact HE.out (by rw [← HX.out, ← HY.out])
      · go_wp2
        go_ret
        refine ⟨ret_bool ?_, hB⟩
        obtain rfl : k = la.length := by omega
        rw [eq_comm, beq_iff_eq]
        refine List.ext_getElem H.out fun i h1 h2 => ?_
        have := HP.out i h1
        simpa [List.getD, h1, h2] using this
  · have hb0 : ((la.length : Int) != (lb.length : Int)) = true := by simp; omega
    go_enter Try.func42, Try.ntmps42
    go_wp2
    go_ret
    refine ⟨ret_bool ?_, Below.refl _ _⟩
    rw [eq_comm, beq_eq_false_iff_ne]
    intro h
    exact absurd (congrArg _ h) hl

theorem L_isIn (v : Value) (l : List Int) (lo : Nat) (n : Int) (w : World) (hv : Ints w lo v l) :
    Calls Try.prog 14 #[v, .int .i64 n] w fun e w' => e = .returned (.bool (hasF l n)) ∧ w = w' := by
  obtain ⟨A, C, g, rfl, hn, hc, hA, hg, hcell, hf⟩ := hv.rd
  clear hf hv hg
  unfold maxLen at hc
  go_enter Try.func14, Try.ntmps14
  go_wp2
  go_loop [5] (fun i => ∃ k : Nat, k ≤ l.length ∧ i = .int .i64 k ∧ ∀ j, j < k → l.getD j 0 ≠ n) (fun i => l.length - (intOf i).toNat)
  case atStart => exact ⟨0, Nat.zero_le _, rfl, fun j hj => absurd hj (Nat.not_lt_zero _)⟩
  case round =>
    obtain ⟨k, hk, rfl, hp⟩ := hrel
    have HP := Lib.hid hp
    clear hp
    by_cases hlt : k < l.length
    · have c1 := hcell k hlt
      obtain rfl := hA (by omega)
      clear hA hcell
      generalize hx : l.getD k 0 = x at c1
      have HX := Lib.hid hx
      clear hx
      by_cases hxn : x = n
      · have hb : (x == n) = true := by simp [hxn]
        have HE := Lib.hid hxn
        clear hxn
        go_wp2
        go_ret
        refine ⟨ret_bool ?_, rfl⟩
        rw [eq_comm, hasF_iff, ← HE.out, ← HX.out]
        have e3 : l.getD k 0 = l[k] := by simp [List.getD, hlt]
        rw [e3]
        exact List.getElem_mem _
      · have hb : (x == n) = false := by simp [hxn]
        have HE := Lib.hid hxn
        clear hxn
        go_wp2
        go_round
        case rel => exact ⟨k + 1, by omega, by go_num, fun j hj => by
          rcases Nat.lt_succ_iff_lt_or_eq.1 hj with h | rfl
          · exact HP.out j h
          · rw [HX.out]; exact HE.out⟩
        case measure => simp [intOf]; omega
    · go_wp2
      go_ret
      refine ⟨ret_bool ?_, rfl⟩
      rw [eq_comm, Bool.eq_false_iff]
      intro h
      rw [hasF_iff, List.mem_iff_getElem] at h
      obtain ⟨j, hj, e⟩ := h
      exact HP.out j (by omega) (by simp [List.getD, hj, e])

end Go.Proofs.Ytelhemhbgpfokaa

namespace Go.Proofs.Ytelhemhbgpfokaa
open Go.ChangeShapes Go.WideShapes Go.ChangeAt Go.RowKit Go.Deep
set_option linter.unusedVariables false


set_option maxRecDepth 100000 in
theorem open_obytes {H : Type} {enc : TypeId × Value → H} {w : World} {base : Nat} {spare : Nat → Bool} {held : Bool} {v : Value} {d : DataW H} {ps : List MemPlace} {r : Reach} {b0 : Nat} (hv : Value.okWide Try.prog w r b0 22 v) (h : DataW.Trod enc Try.prog w base spare held 22 v d ps) : ∃ l, OBytes w v l := by
  obtain ⟨fuel, hf⟩ := h
  obtain ⟨v', n, f, hcs, ho, hel⟩ := old_slice Try.underlying22 (show Try.prog.cellsOf 5 = 1 by kernel_rfl) (by omega) hf
  obtain ⟨a0, l0, c0, rfl⟩ := okWide_slice Try.underlying22 hv
  have hvv : Value.slice a0 l0 c0 = v' := by simpa [Value.cells] using hcs
  subst hvv
  have hw : ∀ j, j < n → ∃ q : Int, f j = .int .u8 q ∧ 0 ≤ q ∧ q ≤ 255 := fun j hj => by
    obtain ⟨m, y, ht⟩ := hel j hj
    obtain ⟨q, hq, _, hwf⟩ := DataW.trod_int Try.underlying5 ht
    simp only [Nat.mul_one, List.range_one, List.map_cons, List.map_nil, Nat.add_zero, List.cons.injEq, and_true] at hq
    have := bounds_u8 hwf
    exact ⟨q, hq, this.1, this.2⟩
  refine ⟨(List.range n).map fun i => intOf (f i), ?_, ?_⟩
  · obtain ⟨A, C, b, o, h1, h2, h3, h4, h5⟩ := ho
    refine ⟨A, C, b, o, by simpa using h1, by simpa using h2, h3, by simpa using h4, fun j hj => ?_⟩
    have hj' : j < n := by simpa using hj
    obtain ⟨q, hq, _⟩ := hw j hj'
    rw [h5 j (by omega)]
    simp [List.getD, hj', hq, intOf]
  · intro x hx
    obtain ⟨i, hi, rfl⟩ := List.mem_map.1 hx
    obtain ⟨q, hq, h0, h1⟩ := hw i (by simpa using hi)
    rw [hq]
    exact ⟨h0, h1⟩

end Go.Proofs.Ytelhemhbgpfokaa
