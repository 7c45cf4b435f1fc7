/-
  Walks: the helpers of the law over rows of orders: the comparison of two rows that hold the same orders, the marks, the look whether they stand. Condition: the rows read as orders.
-/
import Derived.Test.YtpajkejdfalkiaaDoorRcO
namespace Go.Proofs.YtpajkejdfalkiaaDoor
open Go.RowKit
set_option linter.unusedVariables false

/-- A row of orders, its cells n * 2 numbers. -/
def RawO (w : World) (lo : Nat) (v : Value) (n : Nat) (l : List Int) : Prop := w.ownsRow lo 24 2 v n (l.map (Value.int .i64))
theorem opCells_raw : ∀ l : List (Int × Int), opCells l = (l.flatMap fun o => [o.1, o.2]).map (Value.int .i64)
  | [] => rfl
  | o :: l => by
    have := opCells_raw l
    simp only [opCells] at this
    simp [opCells, this]
theorem rawO_length (l : List (Int × Int)) : (l.flatMap fun o => [o.1, o.2]).length = l.length * 2 := by
  have := opCells_len l
  rw [opCells_raw, List.length_map] at this
  exact this
theorem Ops.raw {w : World} {lo : Nat} {v : Value} {l : List (Int × Int)} (h : Ops w lo v l) : RawO w lo v l.length (l.flatMap fun o => [o.1, o.2]) := by
  unfold RawO
  rw [← opCells_raw]
  exact h
theorem RawO.keep {w w' : World} {lo n : Nat} {v : Value} {l : List Int} (h : RawO w lo v n l) (hb : Below w.heap.size w w') : RawO w' lo v n l := own_keep h hb
theorem RawO.stored {w : World} {lo n g C : Nat} {l : List Int} (h : RawO w lo (.slice (some ⟨g, 0, none⟩) n C) n l) (j : Nat) (x : Int) :
    RawO (w.setCell ⟨g, j, none⟩ (.int .i64 x)) lo (.slice (some ⟨g, 0, none⟩) n C) n (l.set j x) ∧ w.grownBy (w.setCell ⟨g, j, none⟩ (.int .i64 x)) (some g) := by
  have h2 := World.ownsRow.stored (w := w) h j (.int .i64 x)
  refine ⟨?_, h2.2⟩
  unfold RawO
  rw [List.map_set]
  exact h2.1
theorem RawO.two {w : World} {lo n g C j : Nat} {k x0 x1 : Int} {l : List Int} (h : RawO w lo (.slice (some ⟨g, 0, none⟩) n C) n (seqTo k (j * 2) l)) (hl : l.length = n * 2) (hj : j < n)
    (e0 : x0 = k + (j * 2 : Nat)) (e1 : x1 = k + (j * 2 + 1 : Nat)) :
    RawO ((w.setCell ⟨g, j * 2, none⟩ (.int .i64 x0)).setCell ⟨g, j * 2 + 1, none⟩ (.int .i64 x1)) lo (.slice (some ⟨g, 0, none⟩) n C) n (seqTo k ((j + 1) * 2) l) ∧
    w.grownBy ((w.setCell ⟨g, j * 2, none⟩ (.int .i64 x0)).setCell ⟨g, j * 2 + 1, none⟩ (.int .i64 x1)) (some g) := by
  subst e0 e1
  have a0 := h.stored (j * 2) (k + (j * 2 : Nat))
  rw [seqTo_set (by omega)] at a0
  have a1 := a0.1.stored (j * 2 + 1) (k + (j * 2 + 1 : Nat))
  rw [seqTo_set (by omega)] at a1
  rw [show (j + 1) * 2 = j * 2 + 1 + 1 by omega]
  exact ⟨a1.1, a0.2.trans a1.2⟩

set_option maxRecDepth 100000 in
theorem eqOp_rc (a b : Int) (w : World) :
    Calls Tryd.prog 15 #[.agg #[.int .i64 a, .int .i64 b], .agg #[.int .i64 a, .int .i64 b]] w fun e w' => e = .returned (.bool true) ∧ Below w.heap.size w w' := by
  have ha : (a != a) = false := by simp
  have hb : (b != b) = false := by simp
  go_enter Tryd.func15, Tryd.ntmps15
  go_wp2
  go_ret
  exact ⟨rfl, al2⟩

set_option maxRecDepth 100000 in
set_option maxHeartbeats 1000000 in
theorem eqOpS_same (va vb : Value) (l : List (Int × Int)) (l1 l2 : Nat) (w : World) (ha : Ops w l1 va l) (hb : Ops w l2 vb l) :
    Calls Tryd.prog 19 #[va, vb] w fun e w' => e = .returned (.bool true) ∧ Below w.heap.size w w' := by
  obtain ⟨A, C, g, rfl, hn, hc, hA, hg, hcell, hf⟩ := ha.rd
  obtain ⟨A', C', g', rfl, hn', hc', hA', hg', hcell', hf'⟩ := hb.rd
  clear ha hb hf hf'
  unfold maxLen at hc hc'
  have hb0 : ((l.length : Int) != (l.length : Int)) = false := by simp
  go_enter Tryd.func19, Tryd.ntmps19
  go_wp2
  go_loopw [5] (fun i wr => ∃ k : Nat, k ≤ l.length ∧ i = .int .i64 k ∧ Below w.heap.size w wr) (fun i _ => l.length - (intOf i).toNat)
  case atStart => exact ⟨0, Nat.zero_le _, rfl, Below.refl _ _⟩
  case round =>
    obtain ⟨k, hk, rfl, hB⟩ := hrel
    by_cases hlt : k < l.length
    · obtain ⟨c1, c2⟩ := hcell k hlt
      obtain ⟨d1, d2⟩ := hcell' k hlt
      have hgl := (hg (by omega)).2
      have hgl' := (hg' (by omega)).2
      rw [← hB.cell (p := ⟨g, _, none⟩) hgl] at c1 c2
      rw [← hB.cell (p := ⟨g', _, none⟩) hgl'] at d1 d2
      obtain rfl := hA (by omega)
      obtain rfl := hA' (by omega)
      clear hA hA' hcell hcell' hg hg'
      generalize l.getD k default = x at c1 c2 d1 d2
      obtain ⟨x, y⟩ := x
      simp only at c1 c2 d1 d2
      have hi1 : (k : Int) < (l.length : Int) := by omega
      go_wp2
      go_still_tail 8, (by kernel_rfl)
      change wpList _ _ _ _ _ wr.drew
      have hB1 : Below w.heap.size w wr.drew := hB.drew
      generalize wr.drew = w2 at hB1
      clear c1 c2 d1 d2 hB
      go_wp2_with (go_at_call 15; refine (eqOp_rc x y _).mono ?_; rintro e w3 ⟨rfl, hb3⟩)
      go_roundw
      case rel => exact ⟨k + 1, by omega, by go_num, hB1.trans (hb3.mono hB1.size)⟩
      case measure => simp [intOf]; omega
    · go_wp2
      go_ret
      exact ⟨rfl, hB⟩

set_option maxRecDepth 100000 in
set_option maxHeartbeats 1000000 in
theorem markOpS_any (v : Value) (n : Nat) (l : List Int) (lo : Nat) (k : Int) (w : World) (hv : RawO w lo v n l) (hk : 0 ≤ k) (hk2 : k + n * 2 ≤ 1099511627776) :
    Calls Tryd.prog 20 #[v, .int .i64 k] w fun e w' => e = .returned (.int .i64 (k + n * 2)) ∧ RawO w' lo v n (seqI k (n * 2)) ∧ w.grownBy w' v.ownBlock := by
  obtain ⟨A, C, g, rfl, hn, hc, hA, hg, hcell, hf⟩ := own_rd hv
  have hl : l.length = n * 2 := by have := hv.1; rwa [List.length_map] at this
  unfold maxLen at hc
  have hst : RawO w lo (.slice A n C) n (seqTo k 0 l) := by rw [seqTo_zero]; exact hv
  clear hcell hf hv
  go_enter Tryd.func20, Tryd.ntmps20
  go_wp2
  go_loopw [1, 5] (fun q i wr => ∃ j : Nat, j ≤ n ∧ i = .int .i64 j ∧ q = .int .i64 (k + j * 2) ∧ RawO wr lo (.slice A n C) n (seqTo k (j * 2) l) ∧ w.grownBy wr (Value.ownBlock (.slice A n C))) (fun _ i _ => n - (intOf i).toNat)
  case atStart => exact ⟨0, Nat.zero_le _, rfl, by simp, hst, World.grownBy.refl _ _⟩
  case round =>
    obtain ⟨j, hj, rfl, rfl, hown, hgr⟩ := hrel
    by_cases hlt : j < n
    · obtain rfl := hA (by omega)
      obtain ⟨_, C', g', e', _, _, hA', hg', hcell', hf'⟩ := own_rd hown
      obtain ⟨rfl, rfl⟩ : C = C' ∧ g = g' := by
        rw [hA' (by omega)] at e'
        simp only [Value.slice.injEq, Option.some.injEq, Addr.mk.injEq, and_true, true_and] at e'
        exact ⟨e'.2, e'.1⟩
      have hlen := length_seqTo (k := k) (j := j * 2) (l := l) (by omega)
      have is : ∀ c, c < 2 → (wr.cell? ⟨g, j * 2 + c, none⟩).isSome = true := fun c hc => by
        rw [hcell' (j * 2 + c) (by omega)]; rfl
      obtain ⟨a0, h0⟩ := Option.isSome_iff_exists.1 (is 0 (by omega))
      obtain ⟨a1, h1⟩ := Option.isSome_iff_exists.1 (is 1 (by omega))
      rw [Nat.add_zero] at h0
      have hf0 := hf' (by omega)
      have hgl := (hg' (by omega)).2
      have HO := Lib.hid hown
      clear e' hA' hg' hcell' hf' hlen hown is
      go_wp2
      go_roundw
      case rel =>
        have h4 := HO.out.two (x0 := k + (j : Int) * 2) (x1 := k + (j : Int) * 2 + 1) hl hlt (by omega) (by omega)
        exact ⟨j + 1, by omega, by go_num, by go_num, h4.1, hgr.trans h4.2⟩
      case measure => simp [intOf]; omega
    · obtain rfl : j = n := by omega
      have e : seqTo k (j * 2) l = seqI k (j * 2) := by rw [← hl, seqTo_all]
      rw [e] at hown
      go_wp2
      go_ret
      exact ⟨rfl, hown, hgr⟩

set_option maxRecDepth 100000 in
theorem heldOpS_any (v : Value) (n lo : Nat) (k : Int) (w : World) (hv : RawO w lo v n (seqI k (n * 2))) (hk : 0 ≤ k) (hk2 : k + n * 2 ≤ 1099511627776) :
    Calls Tryd.prog 21 #[v, .int .i64 k] w fun e w' => e = .returned (.int .i64 (k + n * 2)) ∧ w = w' := by
  obtain ⟨A, C, g, rfl, hn, hc, hA, hg, hcell, hf⟩ := own_rd hv
  unfold maxLen at hc
  clear hf hv
  go_enter Tryd.func21, Tryd.ntmps21
  go_wp2
  go_loop [1, 5] (fun q i => ∃ j : Nat, j ≤ n ∧ i = .int .i64 j ∧ q = .int .i64 (k + j * 2)) (fun _ i => n - (intOf i).toNat)
  case atStart => exact ⟨0, Nat.zero_le _, rfl, by simp⟩
  case round =>
    obtain ⟨j, hj, rfl, rfl⟩ := hrel
    by_cases hlt : j < n
    · obtain rfl := hA (by omega)
      have c0 := hcell (j * 2) (by omega)
      have c1 := hcell (j * 2 + 1) (by omega)
      have hG : ∀ i, i < n * 2 → ((seqI k (n * 2)).map (Value.int .i64)).getD i undef = .int .i64 (k + (i : Nat)) := fun i hi => by simp [List.getD, seqI_at _ k i hi]
      rw [hG _ (by omega)] at c0 c1
      clear hG
      have e0 : k + ((j * 2 : Nat) : Int) = k + (j : Int) * 2 := by omega
      have e1 : k + ((j * 2 + 1 : Nat) : Int) = k + (j : Int) * 2 + 1 := by omega
      rw [e0] at c0
      rw [e1] at c1
      have hb0 : ((k + (j : Int) * 2) != (k + (j : Int) * 2)) = false := by simp
      have hb1 : ((k + (j : Int) * 2 + 1) != (k + (j : Int) * 2 + 1)) = false := by simp
      clear hA hg hcell e0 e1
      go_wp2
      go_round
      case rel => exact ⟨j + 1, by omega, by go_num, by go_num⟩
      case measure => simp [intOf]; omega
    · obtain rfl : j = n := by omega
      go_wp2
      go_ret
      exact ⟨rfl, rfl⟩
end Go.Proofs.YtpajkejdfalkiaaDoor
