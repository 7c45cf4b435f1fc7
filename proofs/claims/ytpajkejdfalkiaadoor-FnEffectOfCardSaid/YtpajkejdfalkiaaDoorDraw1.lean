/-
  Walks: the reference's reader of bytes, out of which the laws draw their programs. Condition: the reader stands in memory, its bytes before it.
-/
import Derived.Test.YtpajkejdfalkiaaDoorPRow
import Derived.Test.YtpajkejdfalkiaaDoorOld
namespace Go.Proofs.YtpajkejdfalkiaaDoor
open Go.RowKit
set_option linter.unusedVariables false

theorem ofInt_i64 (a : Nat) (ha : a < 9223372036854775808) : (BitVec.ofInt 64 (a : Int)).toNat = a := by
  rw [BitVec.ofInt_natCast, BitVec.toNat_ofNat]; exact Nat.mod_eq_of_lt (by omega)
theorem i64_xor_ge (x y : Int) (h1 : 0 ≤ x) (h2 : x < 4611686018427387904) (h3 : 0 ≤ y) (h4 : y < 4611686018427387904) : 0 ≤ bits .xor .i64 x y ∧ bits .xor .i64 x y < 4611686018427387904 := by
  obtain ⟨a, rfl⟩ := Int.eq_ofNat_of_zero_le h1
  obtain ⟨b, rfl⟩ := Int.eq_ofNat_of_zero_le h3
  have hx : a ^^^ b < 2 ^ 62 := Nat.xor_lt_two_pow (by omega) (by omega)
  show 0 ≤ IntKind.i64.wrap ((BitVec.ofInt 64 (a : Int) ^^^ BitVec.ofInt 64 (b : Int)).toNat : Int) ∧ IntKind.i64.wrap ((BitVec.ofInt 64 (a : Int) ^^^ BitVec.ofInt 64 (b : Int)).toNat : Int) < 4611686018427387904
  rw [BitVec.toNat_xor, ofInt_i64 a (by omega), ofInt_i64 b (by omega)]
  simp [IntKind.wrap, IntKind.bits, IntKind.signed]
  omega

/-- A slice of bytes that came in. -/
def OBytes (w : World) (v : Value) (l : List Int) : Prop := Old w 1 v l.length (fun j => .int .u8 (l.getD j 0)) ∧ ∀ n ∈ l, 0 ≤ n ∧ n ≤ 255
theorem OBytes.keep {w w' : World} {v : Value} {l : List Int} (h : OBytes w v l) (hb : Below w.heap.size w w') : OBytes w' v l := ⟨h.1.keep hb, h.2⟩

/-- A reader of bytes that were there before it, of which at most m numbers were taken. -/
def Rdr (w : World) (g m : Nat) : Prop :=
  ∃ (A : Option Addr) (C b o : Nat) (l : List Int) (q : Int), w.cell? ⟨g, 0, none⟩ = some (.slice A l.length C) ∧ w.cell? ⟨g, 1, none⟩ = some (.int .i64 q) ∧ (∀ j, w.frozen? ⟨g, j, none⟩ = false) ∧ 0 ≤ q ∧ q ≤ m ∧
    l.length ≤ 2000 ∧ l.length ≤ C ∧ (0 < l.length → A = some ⟨b, o, none⟩ ∧ b < g) ∧ (∀ j, j < l.length → w.cell? ⟨b, o + j, none⟩ = some (.int .u8 (l.getD j 0))) ∧ ∀ n ∈ l, 0 ≤ n ∧ n ≤ 255
section
variable {w w' : World} {g m : Nat}
theorem Rdr.lt (h : Rdr w g m) : g < w.heap.size := by
  obtain ⟨A, C, b, o, l, q, h0, _⟩ := h
  exact World.block_lt_of_cell? _ _ h0
theorem Rdr.keep (h : Rdr w g m) (hb : Below w.heap.size w w') : Rdr w' g m := by
  have hg := h.lt
  obtain ⟨A, C, b, o, l, q, h0, h1, hf, h2, h3, h4, h5, h6, h7, h8⟩ := h
  refine ⟨A, C, b, o, l, q, (hb.cell (p := ⟨g, 0, none⟩) hg).trans h0, (hb.cell (p := ⟨g, 1, none⟩) hg).trans h1, fun j => (hb.frozen (p := ⟨g, j, none⟩) hg).trans (hf j), h2, h3, h4, h5, h6, fun j hj => ?_, h8⟩
  have hbg := (h6 (by omega)).2
  exact (hb.cell (p := ⟨b, o + j, none⟩) (by show b < _; omega)).trans (h7 j hj)
theorem Rdr.mono {m' : Nat} (h : Rdr w g m) (hm : m ≤ m') : Rdr w g m' := by
  obtain ⟨A, C, b, o, l, q, h0, h1, hf, h2, h3, h⟩ := h
  exact ⟨A, C, b, o, l, q, h0, h1, hf, h2, by omega, h⟩
theorem Rdr.drew (h : Rdr w g m) : Rdr w.drew g m := h
/-- A store elsewhere. -/
theorem Rdr.other {a b : Nat} (h : Rdr w g m) (ho : Only a b w w') (hg : g < a) : Rdr w' g m := by
  have hlt := h.lt
  obtain ⟨A, C, b', o, l, q, h0, h1, hf, h2, h3, h4, h5, h6, h7, h8⟩ := h
  have hblk := ho.block g hlt (.inl hg)
  refine ⟨A, C, b', o, l, q, (World.cell?_of_block (a := ⟨g, 0, none⟩) hblk).trans h0, (World.cell?_of_block (a := ⟨g, 1, none⟩) hblk).trans h1, fun j => (World.frozen?_of_block (a := ⟨g, j, none⟩) hblk).trans (hf j), h2, h3, h4, h5, h6, fun j hj => ?_, h8⟩
  have hbg := (h6 (by omega)).2
  exact (World.cell?_of_block (a := ⟨b', o + j, none⟩) (ho.block b' (by omega) (.inl (by omega)))).trans (h7 j hj)
theorem Rdr.grown {row : Option Nat} (h : Rdr w g m) (hg : w.grownBy w' row) (hr : ∀ k, row = some k → g < k) : Rdr w' g m := by
  have hlt := h.lt
  obtain ⟨A, C, b', o, l, q, h0, h1, hf, h2, h3, h4, h5, h6, h7, h8⟩ := h
  have hblk := hg.block g hlt (fun e => by have := hr g e.symm; omega)
  refine ⟨A, C, b', o, l, q, (World.cell?_of_block (a := ⟨g, 0, none⟩) hblk).trans h0, (World.cell?_of_block (a := ⟨g, 1, none⟩) hblk).trans h1, fun j => (World.frozen?_of_block (a := ⟨g, j, none⟩) hblk).trans (hf j), h2, h3, h4, h5, h6, fun j hj => ?_, h8⟩
  have hbg := (h6 (by omega)).2
  exact (World.cell?_of_block (a := ⟨b', o + j, none⟩) (hg.block b' (by omega) (fun e => by have := hr b' e.symm; omega))).trans (h7 j hj)
end
theorem Only.tick {w : World} {g : Nat} (u : Value) : Only g (g + 1) w (w.setCell ⟨g, 1, none⟩ u) := (Only.refl g (g + 1) w).setCell (Nat.le_refl _) (Nat.lt_succ_self _) u

set_option maxRecDepth 100000 in
theorem S_newReader (v : Value) (l : List Int) (w : World) (hv : OBytes w v l) (hl : l.length ≤ 1048576) :
    Calls Tryd.prog 26 #[v] w fun e w' => e = .returned (.pointer (some ⟨w.heap.size, 0, none⟩)) ∧ Rdr w' w.heap.size 0 ∧ Below w.heap.size w w' ∧ w'.heap.size = w.heap.size + 1 := by
  obtain ⟨⟨A, C, b, o, rfl, hn, hc, hA, hcell⟩, hby⟩ := hv
  unfold maxLen at hc
  by_cases hlt : 2000 < l.length
  · obtain ⟨rfl, hbl⟩ := hA (by omega)
    go_enter Tryd.func26, Tryd.ntmps26
    go_wp2
    go_ret
    refine ⟨rfl, ⟨some ⟨b, o, none⟩, C, b, o, l.take 2000, 0, ?_⟩, al1, by simp⟩
    have e2 : (l.take 2000).length = 2000 := by rw [List.length_take]; omega
    rw [e2]
    refine ⟨by simp [go_sem], by simp [go_sem], fun j => by simp [go_sem], by omega, by omega, by omega, by omega, fun _ => ⟨rfl, hbl⟩, fun j hj => ?_, fun n hn => hby n (List.mem_of_mem_take hn)⟩
    have h1 := hcell j (by omega)
    rw [(al1 (w := w)).cell (p := ⟨b, o + j, none⟩) hbl, h1]
    simp [List.getD, hj]
  · have hz : ∀ j, j < l.length → b < w.heap.size := fun j hj => (hA (by omega)).2
    go_enter Tryd.func26, Tryd.ntmps26
    go_wp2
    go_ret
    refine ⟨rfl, ⟨A, C, b, o, l, 0, by simp [go_sem], by simp [go_sem], fun j => by simp [go_sem], by omega, by omega, by omega, by omega, fun h => hA h, fun j hj => ?_, hby⟩, al1, by simp⟩
    have h1 := hcell j (by omega)
    rw [(al1 (w := w)).cell (p := ⟨b, o + j, none⟩) (hz j hj), h1]

set_option maxRecDepth 100000 in
set_option maxHeartbeats 2000000 in
theorem S_pick (g m : Nat) (n : Int) (w : World) (h : Rdr w g m) (hm : m ≤ 1000000) :
    Calls Tryd.prog 28 #[.pointer (some ⟨g, 0, none⟩), .int .i64 n] w fun e w' => ∃ y : Int, e = .returned (.int .i64 y) ∧ 0 ≤ y ∧ (1 ≤ n → y < n) ∧ Rdr w' g (m + 1) ∧ Only g (g + 1) w w' ∧ w'.heap.size = w.heap.size := by
  have hgs := h.lt
  have H := Lib.hid h
  obtain ⟨A, C, b, o, l, q, c0, c1, hf, q0, qm, hl, hC, hA, hcell, hby⟩ := h
  have hR : Rdr (w.setCell ⟨g, 1, none⟩ (.int .i64 (q + 1))) g (m + 1) := by
    have e0 : (w.setCell ⟨g, 1, none⟩ (.int .i64 (q + 1))).cell? ⟨g, 0, none⟩ = some (.slice A l.length C) := by simp [go_sem, c0]
    have e1 : (w.setCell ⟨g, 1, none⟩ (.int .i64 (q + 1))).cell? ⟨g, 1, none⟩ = some (.int .i64 (q + 1)) := by simp [go_sem, c1]
    refine ⟨A, C, b, o, l, q + 1, e0, e1, fun j => by simp [go_sem, hf], by omega, by omega, hl, hC, hA, fun j hj => ?_, hby⟩
    have hbg := (hA (by omega)).2
    have := hcell j hj
    have hne : b ≠ g := by omega
    simp [go_sem, this]
  have HR := Lib.hid hR
  have f1 := hf 1
  have hrange : ∀ j : Nat, 0 ≤ l.getD j 0 ∧ l.getD j 0 ≤ 255 := fun j => by
    by_cases hj : j < l.length
    · simp only [List.getD, List.getElem?_eq_getElem hj, Option.getD_some]
      exact hby _ (List.getElem_mem hj)
    · simp [List.getD, List.getElem?_eq_none (by omega : l.length ≤ j)]
  have HRA := Lib.hid hrange
  have HC := Lib.hid hcell
  clear hf hR hby hrange hcell
  by_cases hn : n < 1
  · go_enter Tryd.func28, Tryd.ntmps28
    go_wp2
    go_ret
    exact ⟨_, rfl, by omega, by first | omega | (intro _; omega), HR.out, Only.tick _, by simp⟩
  by_cases hl0 : l.length = 0
  · have hz : ((l.length : Int) == 0) = true := by simp [hl0]
    go_enter Tryd.func28, Tryd.ntmps28
    go_wp2
    go_ret
    exact ⟨_, rfl, by omega, by first | omega | (intro _; omega), HR.out, Only.tick _, by simp⟩
  have hz : ((l.length : Int) == 0) = false := by rw [beq_eq_false_iff_ne]; omega
  obtain ⟨rfl, hbg⟩ := hA (by omega)
  have hne : b ≠ g := by omega
  by_cases hk : q < l.length
  · obtain ⟨Q, rfl⟩ := Int.eq_ofNat_of_zero_le q0
    have hq := HC.out Q (by omega)
    have hr := HRA.out Q
    generalize l.getD Q 0 = u at *
    go_enter Tryd.func28, Tryd.ntmps28
    go_wp2
    go_ret
    have e0 : 0 ≤ u % n := Int.emod_nonneg _ (by omega)
    have e1 : u % n < n := Int.emod_lt_of_pos _ (by omega)
    exact ⟨_, rfl, e0, by first | exact e1 | (intro _; exact e1), HR.out, Only.tick _, by simp⟩
  obtain ⟨L, hL⟩ : ∃ L : Int, L = (l.length : Int) := ⟨_, rfl⟩
  obtain ⟨Q, rfl⟩ := Int.eq_ofNat_of_zero_le q0
  have d1 := HC.out (Q % l.length) (Nat.mod_lt _ (by omega))
  have d2 := HC.out ((Q * 7 + 3) % l.length) (Nat.mod_lt _ (by omega))
  have b1 := HRA.out (Q % l.length)
  have b2 := HRA.out ((Q * 7 + 3) % l.length)
  generalize l.getD (Q % l.length) 0 = u1 at *
  generalize l.getD ((Q * 7 + 3) % l.length) 0 = u2 at *
  have j1 : (Q : Int) % (l.length : Int) = ((Q % l.length : Nat) : Int) := by simp
  have j2 : ((Q : Int) * 7 + 3) % (l.length : Int) = (((Q * 7 + 3) % l.length : Nat) : Int) := by simp
  have n1 := Nat.mod_lt Q (show 0 < l.length by omega)
  have n2 := Nat.mod_lt (Q * 7 + 3) (show 0 < l.length by omega)
  obtain ⟨D, hD, D0, D1⟩ : ∃ D : Int, (Q : Int) / (l.length : Int) = D ∧ 0 ≤ D ∧ D ≤ Q := ⟨_, rfl, Int.ediv_nonneg (by omega) (by omega), Int.ediv_le_self _ (by omega)⟩
  generalize Q % l.length = i1 at *
  generalize (Q * 7 + 3) % l.length = i2 at *
  go_enter Tryd.func28, Tryd.ntmps28
  go_wp2
  go_quiet (fail)
  go_wp2
  go_ret
  have e1 := Int.tmod_lt_of_pos (bits .xor .i64 (u1 * 131 + u2 * 1117 + Q * 29 + D * 53) ((u1 * 131 + u2 * 1117 + Q * 29 + D * 53) / 64)) (show 0 < n by omega)
  have e0 := Int.tmod_nonneg n (i64_xor_ge (u1 * 131 + u2 * 1117 + Q * 29 + D * 53) ((u1 * 131 + u2 * 1117 + Q * 29 + D * 53) / 64) (by omega) (by omega) (by omega) (by omega)).1
  exact ⟨_, rfl, e0, by first | exact e1 | (intro _; exact e1), HR.out, (Only.tick _).drewN _, by first | simp | rfl⟩

set_option maxRecDepth 100000 in
theorem S_one (g m : Nat) (V : Value) (l : List Int) (lo : Nat) (w : World) (h : Rdr w g m) (hm : m ≤ 1000000) (hv : Ints w lo V l) (hl : 0 < l.length) (hl2 : l.length ≤ 1000) (hlo : g < lo) :
    Calls Tryd.prog 27 #[.pointer (some ⟨g, 0, none⟩), V] w fun e w' => ∃ y : Int, e = .returned (.int .i64 y) ∧ y ∈ l ∧ Rdr w' g (m + 1) ∧ Only g (g + 1) w w' ∧ w'.heap.size = w.heap.size := by
  have HV := Lib.hid hv
  have H := Lib.hid h
  obtain ⟨A, C, rfl⟩ := hv.form
  clear h hv
  go_enter Tryd.func27, Tryd.ntmps27
  go_wp2_with fail
  refine (S_pick g m _ w H.out hm).mono ?_
  rintro e w1 ⟨y, rfl, h0, h1, hr, ho, hs⟩
  have hv1 := HV.out.only ho (by omega)
  have hy : y < l.length := h1 (by omega)
  obtain ⟨Y, rfl⟩ := Int.eq_ofNat_of_zero_le h0
  obtain ⟨A', C', g', e', hn', hc', hA', hg', hcell', hf'⟩ := hv1.rd
  obtain rfl := hA' (by omega)
  simp only [Value.slice.injEq] at e'
  obtain ⟨rfl, _, rfl⟩ := e'
  have c1 := hcell' Y (by omega)
  have hR := Lib.hid hr
  have HO := Lib.hid ho
  clear hr ho hcell' hf' hA' hv1
  go_wp2
  go_ret
  refine ⟨_, rfl, ?_, hR.out, HO.out, hs⟩
  have e3 : l[Y]?.getD 0 = l[Y]'(by omega) := by simp [show Y < l.length by omega]
  rw [e3]
  exact List.getElem_mem _

end Go.Proofs.YtpajkejdfalkiaaDoor
