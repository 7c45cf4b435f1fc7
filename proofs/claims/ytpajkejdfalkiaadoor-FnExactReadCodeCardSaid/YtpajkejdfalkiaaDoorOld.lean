/-
  Memory that came in with the call: the program of the law's own types, read as data; and the walks of the helpers that measure it (sz..) and copy it (to..). Condition: it reads as data.
-/
import Derived.Test.YtpajkejdfalkiaaDoorRows
import Derived.Test.YtpajkejdfalkiaaDoorMem
import Derived.BigQuiet
import Derived.Deep.OwnRows
import Derived.Deep.QuietTactic
namespace Go.Proofs.YtpajkejdfalkiaaDoor
open Go.RowKit

/-! ### slices that came in -/
/-- The slice v of n elements, its cells by a function; they lie below the heap's end. -/
def Old (w : World) (size : Nat) (v : Value) (n : Nat) (f : Nat → Value) : Prop :=
  ∃ (A : Option Addr) (C b o : Nat), v = .slice A n C ∧ n ≤ C ∧ C ≤ maxLen ∧ (0 < n → A = some ⟨b, o, none⟩ ∧ b < w.heap.size) ∧ ∀ j, j < n * size → w.cell? ⟨b, o + j, none⟩ = some (f j)

def OInts (w : World) (v : Value) (l : List Int) : Prop := Old w 1 v l.length fun j => .int .i64 (l.getD j 0)

def OStmts (w : World) (v : Value) (l : List St) : Prop := Old w 4 v l.length fun j => (stCells l).getD j undef

def OBlks (w : World) (v : Value) (p : Pr) : Prop :=
  ∃ f : Nat → Value, Old w 4 v p.length f ∧ ∀ i, i < p.length → f (i * 4) = .int .i64 (p.getD i default).kind ∧ f (i * 4 + 1) = .int .i64 (p.getD i default).parent ∧
    OInts w (f (i * 4 + 2)) (p.getD i default).params ∧ OStmts w (f (i * 4 + 3)) (p.getD i default).body

def OProg (w : World) (v : Value) (p : Pr) : Prop := ∃ sl, v = .agg #[sl] ∧ OBlks w sl p

theorem Old.keep {w w' : World} {size n : Nat} {v : Value} {f : Nat → Value} (h : Old w size v n f) (hb : Below w.heap.size w w') : Old w' size v n f := by
  obtain ⟨A, C, b, o, h1, h2, h3, h4, h5⟩ := h
  rcases Nat.eq_zero_or_pos n with h0 | h0
  · subst h0
    exact ⟨A, C, b, o, h1, h2, h3, fun h => absurd h (by omega), fun j hj => absurd hj (by omega)⟩
  · exact ⟨A, C, b, o, h1, h2, h3, fun h => ⟨(h4 h).1, Nat.lt_of_lt_of_le (h4 h).2 hb.size⟩, fun j hj => (hb.cell (p := ⟨b, o + j, none⟩) (h4 h0).2).trans (h5 j hj)⟩

theorem OInts.keep {w w' : World} {v : Value} {l : List Int} (h : OInts w v l) (hb : Below w.heap.size w w') : OInts w' v l := Old.keep h hb
theorem OStmts.keep {w w' : World} {v : Value} {l : List St} (h : OStmts w v l) (hb : Below w.heap.size w w') : OStmts w' v l := Old.keep h hb
theorem OBlks.keep {w w' : World} {v : Value} {p : Pr} (h : OBlks w v p) (hb : Below w.heap.size w w') : OBlks w' v p := by
  obtain ⟨f, h1, h2⟩ := h
  exact ⟨f, h1.keep hb, fun i hi => ⟨(h2 i hi).1, (h2 i hi).2.1, (h2 i hi).2.2.1.keep hb, (h2 i hi).2.2.2.keep hb⟩⟩
theorem OProg.keep {w w' : World} {v : Value} {p : Pr} (h : OProg w v p) (hb : Below w.heap.size w w') : OProg w' v p := by
  obtain ⟨sl, h1, h2⟩ := h
  exact ⟨sl, h1, h2.keep hb⟩

/-! ### sizes -/
def Bk.size (k : Bk) : Nat := k.params.length + k.body.length
def sizes : Pr → Nat
  | [] => 0
  | k :: p => k.size + sizes p
def Pr.size (p : Pr) : Nat := p.length + sizes p

theorem sizes_take_succ : ∀ (p : Pr) (i : Nat), i < p.length → sizes (p.take (i + 1)) = sizes (p.take i) + (p.getD i default).size
  | [], i, h => absurd h (by simp)
  | k :: p, 0, _ => by simp [sizes]
  | k :: p, i + 1, h => by
    have := sizes_take_succ p i (by simpa using h)
    simp only [List.take_succ_cons, sizes, this, List.getD_cons_succ]
    omega
theorem sizes_take_le (p : Pr) (i : Nat) : sizes (p.take i) ≤ sizes p := by
  induction p generalizing i with
  | nil => simp [sizes]
  | cons k p ih =>
    cases i with
    | zero => simp [sizes]
    | succ i => simp only [List.take_succ_cons, sizes]; have := ih i; omega

/-- What is left of a size, or -1. -/
def left_ (l : Int) (n : Nat) : Int := if (n : Int) ≤ l then l - n else -1

theorem szIntS_any (A : Option Addr) (n C : Nat) (l : Int) (w : World) (hn : n ≤ maxLen) (h0 : 0 ≤ l) (h1 : l ≤ 1048576) :
    Calls Tryd.prog 67 #[.slice A n C, .int .i64 l] w fun e w' => e = .returned (.int .i64 (left_ l n)) ∧ w = w' := by
  unfold maxLen at hn
  go_enter Tryd.func67, Tryd.ntmps67
  go_wp2
  all_goals
    go_ret
    exact ⟨ret_int (by unfold left_; split <;> omega), rfl⟩

theorem szStmtS_any (A : Option Addr) (n C : Nat) (l : Int) (w : World) (hn : n ≤ maxLen) (h0 : 0 ≤ l) (h1 : l ≤ 1048576) :
    Calls Tryd.prog 68 #[.slice A n C, .int .i64 l] w fun e w' => e = .returned (.int .i64 (left_ l n)) ∧ w = w' := by
  unfold maxLen at hn
  go_enter Tryd.func68, Tryd.ntmps68
  go_wp2
  all_goals
    go_ret
    exact ⟨ret_int (by unfold left_; split <;> omega), rfl⟩

theorem szBlock_any (K Pa : Int) (A A' : Option Addr) (n n' C C' : Nat) (l : Int) (w : World) (hn : n ≤ maxLen) (hn' : n' ≤ maxLen) (h0 : 0 ≤ l) (h1 : l ≤ 1048576) :
    Calls Tryd.prog 40 #[.agg #[.int .i64 K, .int .i64 Pa, .slice A n C, .slice A' n' C'], .int .i64 l] w fun e w' => e = .returned (.int .i64 (left_ l (n + n'))) ∧ Below w.heap.size w w' := by
  have e1 : (n : Int) ≤ l → left_ l n = l - n := fun h => by unfold left_; rw [if_pos h]
  have e2 : ¬ (n : Int) ≤ l → left_ l n = -1 := fun h => by unfold left_; rw [if_neg h]
  by_cases h : (n : Int) ≤ l
  · have E1 := Lib.hid (e1 h)
    clear e1 e2
    go_enter Tryd.func40, Tryd.ntmps40
    go_wp2_with (first
      | (go_at_call 67; refine (szIntS_any A n C l _ hn h0 h1).mono ?_; rintro e w' ⟨rfl, rfl⟩; rw [E1.out])
      | (go_at_call 68; refine (szStmtS_any A' n' C' (l - n) _ hn' (by omega) (by omega)).mono ?_; rintro e w' ⟨rfl, rfl⟩))
    all_goals
      go_ret
      refine ⟨ret_int ?_, al1⟩
      unfold left_ at *
      split <;> split at * <;> omega
  · have E1 := Lib.hid (e2 h)
    clear e1 e2
    go_enter Tryd.func40, Tryd.ntmps40
    go_wp2_with (go_at_call 67; refine (szIntS_any A n C l _ hn h0 h1).mono ?_; rintro e w' ⟨rfl, rfl⟩; rw [E1.out])
    go_ret
    refine ⟨ret_int ?_, al1⟩
    unfold left_
    rw [if_neg (by omega)]

theorem OInts.form {w : World} {v : Value} {l : List Int} (h : OInts w v l) : ∃ A C, v = .slice A l.length C ∧ l.length ≤ maxLen := by
  obtain ⟨A, C, _, _, h1, h2, h3, _⟩ := h
  exact ⟨A, C, h1, by omega⟩
theorem OStmts.form {w : World} {v : Value} {l : List St} (h : OStmts w v l) : ∃ A C, v = .slice A l.length C ∧ l.length ≤ maxLen := by
  obtain ⟨A, C, _, _, h1, h2, h3, _⟩ := h
  exact ⟨A, C, h1, by omega⟩

theorem szBlockS_any (v : Value) (p : Pr) (l : Int) (w : World) (hv : OBlks w v p) (h0 : 0 ≤ l) (h1 : l ≤ 1048576) :
    Calls Tryd.prog 30 #[v, .int .i64 l] w fun e w' => e = .returned (.int .i64 (left_ l p.size)) ∧ Below w.heap.size w w' := by
  obtain ⟨f, ⟨A, C, b, o, rfl, hn, hc, hA, hcell⟩, hblk⟩ := hv
  unfold maxLen at hc
  have hsz : p.size = p.length + sizes p := rfl
  by_cases hl : (p.length : Int) ≤ l
  · go_enter Tryd.func30, Tryd.ntmps30
    go_wp2
    go_loopw [1, 4, 5] (fun s r i wr => ∃ k : Nat, k ≤ p.length ∧ i = .int .i64 k ∧ r = .int .i64 0 ∧ s = .int .i64 (l - p.length - sizes (p.take k)) ∧ ((p.length + sizes (p.take k) : Nat) : Int) ≤ l ∧ Below w.heap.size w wr) (fun _ _ i _ => p.length - (intOf i).toNat)
    case atStart => exact ⟨0, Nat.zero_le _, rfl, rfl, by simp [sizes], by simp [sizes]; omega, Below.refl _ _⟩
    case round =>
      obtain ⟨k, hk, rfl, rfl, rfl, hle, hB⟩ := hrel
      by_cases hlt : k < p.length
      · obtain ⟨f0, f1, f2, f3⟩ := hblk k hlt
        obtain ⟨A2, C2, g2, m2⟩ := f2.form
        obtain ⟨A3, C3, g3, m3⟩ := f3.form
        obtain ⟨rfl, hb⟩ := hA (by omega)
        have c0 := (hB.cell (p := ⟨b, o + k * 4, none⟩) hb).trans (hcell (k * 4) (by omega))
        have c1 := (hB.cell (p := ⟨b, o + k * 4 + 1, none⟩) hb).trans (hcell (k * 4 + 1) (by omega))
        have c2 := (hB.cell (p := ⟨b, o + k * 4 + 2, none⟩) hb).trans (hcell (k * 4 + 2) (by omega))
        have c3 := (hB.cell (p := ⟨b, o + k * 4 + 3, none⟩) hb).trans (hcell (k * 4 + 3) (by omega))
        rw [f0] at c0
        rw [f1] at c1
        rw [g2] at c2
        rw [g3] at c3
        clear f0 f1 f2 f3 g2 g3 hA hcell hblk
        have ht := sizes_take_succ p k hlt
        have hs : (p.getD k default).size = (p.getD k default).params.length + (p.getD k default).body.length := rfl
        have hsl := sizes_take_le p (k + 1)
        generalize p.getD k default = x at *
        rw [hs] at ht
        have HT := Lib.hid ht
        clear ht hs
        by_cases hfit : (((x.params.length + x.body.length : Nat) : Int)) ≤ l - p.length - sizes (p.take k)
        · have e1 : left_ (l - p.length - sizes (p.take k)) (x.params.length + x.body.length) = l - p.length - sizes (p.take k) - ((x.params.length + x.body.length : Nat) : Int) := by unfold left_; rw [if_pos hfit]
          have E1 := Lib.hid e1
          clear e1
          go_wp2_with (go_at_call 40; refine (szBlock_any _ _ A2 A3 _ _ C2 C3 _ _ m2 m3 (by omega) (by omega)).mono ?_; rintro e w3 ⟨rfl, hb3⟩; rw [E1.out])
          go_roundw
          case rel => exact ⟨k + 1, by omega, by go_num, rfl, by rw [HT.out]; go_num, by rw [HT.out]; omega, bthen hB hb3⟩
          case measure => simp [intOf]; omega
        · have e1 : left_ (l - p.length - sizes (p.take k)) (x.params.length + x.body.length) = -1 := by unfold left_; rw [if_neg hfit]
          have E1 := Lib.hid e1
          clear e1
          go_wp2_with (go_at_call 40; refine (szBlock_any _ _ A2 A3 _ _ C2 C3 _ _ m2 m3 (by omega) (by omega)).mono ?_; rintro e w3 ⟨rfl, hb3⟩; rw [E1.out])
          go_ret
          refine ⟨ret_int ?_, bthen hB hb3⟩
          unfold left_
          rw [if_neg]
          rw [HT.out] at hsl
          omega
      · go_wp2
        go_ret
        refine ⟨ret_int ?_, hB⟩
        obtain rfl : k = p.length := by omega
        rw [List.take_length] at *
        unfold left_
        rw [if_pos (by omega)]
        omega
  · go_enter Tryd.func30, Tryd.ntmps30
    go_wp2
    go_ret
    refine ⟨ret_int ?_, below0 _⟩
    unfold left_
    rw [if_neg (by omega)]

theorem szProgram_any (v : Value) (p : Pr) (l : Int) (w : World) (hv : OProg w v p) (h0 : 0 ≤ l) (h1 : l ≤ 1048576) :
    Calls Tryd.prog 11 #[v, .int .i64 l] w fun e w' => e = .returned (.int .i64 (left_ l p.size)) ∧ Below w.heap.size w w' := by
  obtain ⟨sl, rfl, hv⟩ := hv
  go_enter Tryd.func11, Tryd.ntmps11
  go_wp2_with (go_at_call 30; refine (szBlockS_any sl p l _ (hv.keep (al1)) h0 h1).mono ?_; rintro e w3 ⟨rfl, hb3⟩)
  all_goals
    go_ret
    refine ⟨ret_int ?_, bthen al1 hb3⟩
    unfold left_ at *
    split <;> split at * <;> omega

/-! ### new rows -/
theorem own_of_row {w : World} {lo b : Nat} {e : TypeId} {size n : Nat} {f : Nat → Value} (h : w.rowIs b e (n * size) f) (hl : lo ≤ b) (hn : n ≤ maxLen) :
    w.ownsRow lo e size (.slice (some ⟨b, 0, none⟩) n n) n ((List.range (n * size)).map f) := by
  obtain ⟨c, hb, hs, hc⟩ := h
  refine ⟨by simp, .inr ⟨b, n, c, rfl, hl, hb, Nat.le_refl _, hn, hs, ?_⟩⟩
  rw [List.take_of_length_le (by simp [hs])]
  apply List.ext_getElem?
  intro i
  by_cases hi : i < n * size
  · rw [Array.getElem?_toList, hc i hi]
    simp [hi]
  · rw [List.getElem?_eq_none (by simp; omega), List.getElem?_eq_none (by simp; omega)]

theorem map_range_getD {α β : Type} (l : List α) (d : α) (g : α → β) : (List.range l.length).map (fun i => g (l.getD i d)) = l.map g := by
  apply List.ext_getElem
  · simp
  · intro i h1 h2
    simp only [List.length_map, List.length_range] at h1
    simp [List.getD, h1]

theorem map_range_of (xs : List Value) (f : Nat → Value) (h : ∀ j, j < xs.length → f j = xs.getD j undef) : (List.range xs.length).map f = xs := by
  apply List.ext_getElem
  · simp
  · intro i h1 h2
    have := h i h2
    simp [this, List.getD, h2]

theorem rowIs_below {B : Nat} {w w' : World} {b : Nat} {t : TypeId} {n : Nat} {f : Nat → Value} (h : w.rowIs b t n f) (hb : Below B w w') (hl : b < B) : w'.rowIs b t n f := h.of_block (hb.block b hl)

theorem ints_of_row {w : World} {lo b : Nat} {f : Nat → Value} {l : List Int} (h : w.rowIs b 3 l.length f) (hl : lo ≤ b) (hn : l.length ≤ maxLen) (hf : ∀ j, j < l.length → f j = .int .i64 (l.getD j 0)) :
    Ints w lo (.slice (some ⟨b, 0, none⟩) l.length l.length) l := by
  have h2 := own_of_row (size := 1) (by rw [Nat.mul_one]; exact h.congr hf) hl hn
  rw [Nat.mul_one, map_range_getD l 0 (Value.int .i64)] at h2
  exact h2

theorem toIntS_any (v : Value) (l : List Int) (w : World) (hv : OInts w v l) (hlen : l.length ≤ 1048576) :
    Calls Tryd.prog 81 #[v] w fun e w' => ∃ v', e = .returned v' ∧ Ints w' w.heap.size v' l ∧ Below w.heap.size w w' := by
  obtain ⟨A, C, b, o, rfl, hn, hc, hA, hcell⟩ := hv
  have hmk := run_make_row' (P := Tryd.prog) 50 3 (.int .i64 0) 8 Tryd.underlying50 Tryd.info3 rfl .i64 .i64 l.length (by omega) (by omega)
  go_enter Tryd.func81, Tryd.ntmps81
  go_wp2
  clear hmk
  go_loopw [4] (fun i wr => ∃ k : Nat, k ≤ l.length ∧ i = .int .i64 k ∧ wr.rowIs w.heap.size 3 l.length (fun j => if j < k then .int .i64 (l.getD j 0) else .int .i64 0) ∧ Below w.heap.size w wr) (fun i _ => l.length - (intOf i).toNat)
  case atStart => exact ⟨0, Nat.zero_le _, rfl, (World.rowIs_made w _ _ _).congr (fun j _ => by simp), al1⟩
  case round =>
    obtain ⟨k, hk, rfl, hrow, hB⟩ := hrel
    by_cases hlt : k < l.length
    · obtain ⟨rfl, hb⟩ := hA (by omega)
      have c0 := (hB.cell (p := ⟨b, o + k, none⟩) hb).trans (hcell k (by omega))
      have c1 := hrow.cell hlt
      have f1 := hrow.frozen k
      rw [if_neg (by omega)] at c1
      have hrow2 := (hrow.set k (.int .i64 (l.getD k 0))).congr (g := fun j => if j < k + 1 then .int .i64 (l.getD j 0) else .int .i64 0) (fun j _ => by
        by_cases e : j = k
        · subst e; simp
        · by_cases h : j < k
          · rw [if_neg e, if_pos h, if_pos (by omega)]
          · rw [if_neg e, if_neg h, if_neg (by omega)])
      clear hA hcell hrow
      generalize l.getD k 0 = x at *
      go_wp2
      go_roundw
      case rel => exact ⟨k + 1, by omega, by go_num, hrow2, hB.setCell (p := ⟨w.heap.size, k, none⟩) (Nat.le_refl _) _⟩
      case measure => simp [intOf]; omega
    · obtain rfl : k = l.length := by omega
      go_wp2
      go_ret
      exact ⟨_, rfl, ints_of_row hrow (Nat.le_refl _) (by unfold maxLen; omega) (fun j hj => if_pos hj), hB⟩

theorem toStmt_any (s : St) (w : World) :
    Calls Tryd.prog 107 #[s.val] w fun e w' => e = .returned s.val ∧ Below w.heap.size w w' := by
  obtain ⟨a1, a2, a3, a4⟩ := s
  go_enter Tryd.func107, Tryd.ntmps107
  go_wp2
  exact bodyPost_ret (v := .agg #[.int .i64 a1, .int .i64 a2, .int .i64 a3, .int .i64 a4]) (by simp [results, Tryd.results107, go_sem]) rfl ⟨rfl, al3⟩

theorem run_make_rowN {P : Program} (t e : TypeId) (i : TypeInfo) (z : Value) (ht : P.underlying t = some (.slice e)) (hi : P.info? e = some i) (hz : i.zero = some z) (n : Nat) (hbytes : i.bytes * n ≤ 281474976710656) (h63 : n ≤ 9223372036854775807) (w : World) :
    (Instr.makeSlice t (.int .i64 (n : Int)) (.int .i64 (n : Int))).run P w = .ok (.slice (some ⟨w.heap.size, 0, none⟩) n n) (w.alloc (.cells (madeCells z.cells (n * i.size)) e)) := by
  have hb : (i.bytes : Int) * (n : Int) ≤ 281474976710656 := by
    have h : ((i.bytes * n : Nat) : Int) ≤ 281474976710656 := by omega
    rwa [Int.natCast_mul] at h
  have hr := run_make (P := P) w t e i z ht hi hz .i64 .i64 n n (by omega) (by omega) hb (by omega)
  simp only [Int.toNat_natCast] at hr
  exact hr

theorem rowIs_madeN (w : World) (z : Array Value) (n : Nat) (t : TypeId) : (w.alloc (.cells (madeCells z n) t)).rowIs w.heap.size t n (fun j => z[j % z.size]!) := by
  refine ⟨_, Go.Deep.blk_alloc_new _ _, size_madeCells _ _, fun i hi => ?_⟩
  simp [madeCells, hi]

theorem rowIs_set4 {w : World} {b : Nat} {t : TypeId} {n : Nat} {f : Nat → Value} (h : w.rowIs b t n f) (i : Nat) (v0 v1 v2 v3 : Value) :
    ((((w.setCell ⟨b, i, none⟩ v0).setCell ⟨b, i + 1, none⟩ v1).setCell ⟨b, i + 2, none⟩ v2).setCell ⟨b, i + 3, none⟩ v3).rowIs b t n
      (fun j => if j = i then v0 else if j = i + 1 then v1 else if j = i + 2 then v2 else if j = i + 3 then v3 else f j) := by
  refine ((((h.set i v0).set (i + 1) v1).set (i + 2) v2).set (i + 3) v3).congr fun j _ => ?_
  by_cases e0 : j = i
  · subst e0; simp
  · by_cases e1 : j = i + 1
    · subst e1; simp
    · by_cases e2 : j = i + 2
      · subst e2; simp
      · by_cases e3 : j = i + 3
        · subst e3; simp
        · simp [e0, e1, e2, e3]

theorem Tryd.info118 : (Tryd.prog.info? 118).map (fun i => (i.zero, i.size, i.bytes)) = some (some (.agg #[.int .i64 0, .int .i64 0, .int .i64 0, .int .i64 0]), 4, 32) := by kernel_rfl
theorem Tryd.info75 : (Tryd.prog.info? 75).map (fun i => (i.zero, i.size, i.bytes)) = some (some (.agg #[.int .i64 0, .int .i64 0, .slice none 0 0, .slice none 0 0]), 4, 64) := by kernel_rfl

theorem toStmtS_any (v : Value) (l : List St) (w : World) (hv : OStmts w v l) (hlen : l.length ≤ 1048576) :
    Calls Tryd.prog 82 #[v] w fun e w' => ∃ v', e = .returned v' ∧ Stmts w' w.heap.size v' l ∧ Below w.heap.size w w' := by
  obtain ⟨A, C, b, o, rfl, hn, hc, hA, hcell⟩ := hv
  obtain ⟨i0, hi, hz0, hz1, hz2⟩ := info_parts Tryd.info118
  have hmk := fun w => run_make_rowN (P := Tryd.prog) 73 118 i0 _ Tryd.underlying73 hi hz0 l.length (by rw [hz2]; omega) (by omega) w
  rw [hz1] at hmk
  go_enter Tryd.func82, Tryd.ntmps82
  go_wp2
  clear hmk
  go_loopw [4] (fun i wr => ∃ (k : Nat) (f : Nat → Value), k ≤ l.length ∧ i = .int .i64 k ∧ wr.rowIs w.heap.size 118 (l.length * 4) f ∧ (∀ j, j < k * 4 → f j = (stCells l).getD j undef) ∧ Below w.heap.size w wr) (fun i _ => l.length - (intOf i).toNat)
  case atStart => exact ⟨0, _, Nat.zero_le _, rfl, rowIs_madeN w _ _ _, fun j hj => absurd hj (by omega), al1⟩
  case round =>
    obtain ⟨k, f, hk, rfl, hrow, hf, hB⟩ := hrel
    by_cases hlt : k < l.length
    · obtain ⟨rfl, hb⟩ := hA (by omega)
      obtain ⟨s0, s1, s2, s3⟩ := stCells_at l k hlt
      have c0 := (hB.cell (p := ⟨b, o + k * 4, none⟩) hb).trans (hcell (k * 4) (by omega))
      have c1 := (hB.cell (p := ⟨b, o + k * 4 + 1, none⟩) hb).trans (hcell (k * 4 + 1) (by omega))
      have c2 := (hB.cell (p := ⟨b, o + k * 4 + 2, none⟩) hb).trans (hcell (k * 4 + 2) (by omega))
      have c3 := (hB.cell (p := ⟨b, o + k * 4 + 3, none⟩) hb).trans (hcell (k * 4 + 3) (by omega))
      simp only [List.getD, s0, s1, s2, s3, Option.getD_some] at c0 c1 c2 c3
      have HS := Lib.hid (And.intro s0 (And.intro s1 (And.intro s2 s3)))
      have HF := Lib.hid hf
      have HL := Lib.hid (And.intro hcell hA)
      clear s0 s1 s2 s3 hf hcell hA
      generalize hx : l[k]?.getD default = x at *
      have HX := Lib.hid hx
      clear hx
      go_wp2_with fail
      refine (toStmt_any x _).mono ?_
      rintro e w3 ⟨rfl, hb3⟩
      have hrow3 := rowIs_below hrow hb3 hrow.lt
      have d0 := hrow3.cell (i := k * 4) (by omega)
      have d1 := hrow3.cell (i := k * 4 + 1) (by omega)
      have d2 := hrow3.cell (i := k * 4 + 2) (by omega)
      have d3 := hrow3.cell (i := k * 4 + 3) (by omega)
      have f0 := hrow3.frozen (k * 4)
      have f1 := hrow3.frozen (k * 4 + 1)
      have f2 := hrow3.frozen (k * 4 + 2)
      have f3 := hrow3.frozen (k * 4 + 3)
      have hB3 := bthen hB hb3
      have hset := rowIs_set4 hrow3 (k * 4) (.int .i64 x.kind) (.int .i64 x.to) (.int .i64 x.a) (.int .i64 x.b)
      clear hrow hrow3 c0 c1 c2 c3
      go_wp2
      go_roundw
      case rel =>
        refine ⟨k + 1, _, by omega, by go_num, hset, fun j hj => ?_, (((hB3.setCell (p := ⟨w.heap.size, k * 4, none⟩) (Nat.le_refl _) _).setCell (p := ⟨w.heap.size, k * 4 + 1, none⟩) (Nat.le_refl _) _).setCell (p := ⟨w.heap.size, k * 4 + 2, none⟩) (Nat.le_refl _) _).setCell (p := ⟨w.heap.size, k * 4 + 3, none⟩) (Nat.le_refl _) _⟩
        obtain ⟨s0, s1, s2, s3⟩ := HS.out
        have hh := HF.out
        simp only [List.getD] at hh ⊢
        rw [← HX.out]
        by_cases e0 : j = k * 4
        · subst e0; simp [s0]
        · by_cases e1 : j = k * 4 + 1
          · subst e1; simp [s1]
          · by_cases e2 : j = k * 4 + 2
            · subst e2; simp [s2]
            · by_cases e3 : j = k * 4 + 3
              · subst e3; simp [s3]
              · rw [if_neg e0, if_neg e1, if_neg e2, if_neg e3]
                exact hh j (by omega)
      case measure => simp [intOf]; omega
    · obtain rfl : k = l.length := by omega
      go_wp2
      go_ret
      refine ⟨_, rfl, ?_, hB⟩
      have h2 := own_of_row (size := 4) hrow (Nat.le_refl _) (by unfold maxLen; omega)
      rw [← length_stCells, map_range_of _ _ (fun j hj => hf j (by rw [length_stCells] at hj; exact hj))] at h2
      exact h2

theorem toBlock_any (k : Bk) (pv bv : Value) (w : World) (hp : OInts w pv k.params) (hb : OStmts w bv k.body) (h1 : k.params.length ≤ 1048576) (h2 : k.body.length ≤ 1048576) :
    Calls Tryd.prog 49 #[bkVal k pv bv] w fun e w' => ∃ pv' bv', e = .returned (bkVal k pv' bv') ∧ Ints w' w.heap.size pv' k.params ∧ Stmts w' w.heap.size bv' k.body ∧ Below w.heap.size w w' := by
  obtain ⟨a1, a2, ps, bs⟩ := k
  go_enter Tryd.func49, Tryd.ntmps49
  go_wp2_with fail
  refine (toIntS_any pv ps _ (hp.keep (al3)) h1).mono ?_
  rintro e w3 ⟨pv', rfl, hi3, hb3⟩
  obtain ⟨A3, C3, rfl⟩ := hi3.form
  obtain ⟨hc3, hf3⟩ := bcell hb3
  have hsz := hb3.size
  simp only [World.size_alloc] at hc3 hf3 hsz
  have hB3 := bthen (al3 (w := w)) hb3
  have hB4 := fun u => hB3.setCell (p := ⟨w.heap.size + 1 + 1, 2, none⟩) (by simp; omega) u
  go_wp2_with fail
  refine (toStmtS_any bv bs _ (hb.keep (hB4 _)) h2).mono ?_
  rintro e w5 ⟨bv', rfl, hs5, hb5⟩
  obtain ⟨A5, C5, rfl⟩ := hs5.form
  obtain ⟨hc5, hf5⟩ := bcell hb5
  have hi5 := ((hi3.set (a := ⟨w.heap.size + 1 + 1, 2, none⟩) (by simp) (.slice A3 ps.length C3)).keep hb5).lo_ (lo' := w.heap.size + 3) (by simp)
  have hB5 := bthen (hB4 _) hb5
  have hsz5 := hb5.size
  simp only [World.size_setCell] at hc5 hf5 hsz5
  have hs6 := hs5.lo_ (lo' := w.heap.size + 3) (by simp; omega)
  have r1 := fun o => hc5 (w.heap.size + 1) o (by omega)
  have r2 := fun o => hc5 (w.heap.size + 1 + 1) o (by omega)
  have m1 := fun o => hf5 (w.heap.size + 1) o (by omega)
  have m2 := fun o => hf5 (w.heap.size + 1 + 1) o (by omega)
  clear hc5 hf5
  go_wp2
  exact bodyPost_ret (v := .agg #[.int .i64 a1, .int .i64 a2, .slice A3 ps.length C3, .slice A5 bs.length C5]) (by simp [results, Tryd.results49, go_sem, r1, hc3]) rfl
    ⟨_, _, rfl, (((((hi5.set (by simp) _).set (by simp) _).set (by simp) _).set (by simp) _).set (by simp) _).lo_ (by omega),
      (((((hs6.set (by simp) _).set (by simp) _).set (by simp) _).set (by simp) _).set (by simp) _).lo_ (by omega),
      ((((hB5.setCell (by simp; omega) _).setCell (by simp) _).setCell (by simp) _).setCell (by simp) _).setCell (by simp) _⟩

theorem take4 (f : Nat → Value) (n i : Nat) (h : i < n) : ((((List.range (n * 4)).map f).drop (i * 4)).take 4) = [f (i * 4), f (i * 4 + 1), f (i * 4 + 2), f (i * 4 + 3)] := by
  apply List.ext_getElem?
  intro j
  by_cases hj : j < 4
  · rw [List.getElem?_take, if_pos hj, List.getElem?_drop, List.getElem?_map, List.getElem?_range (by omega)]
    match j, hj with
    | 0, _ => simp
    | 1, _ => simp
    | 2, _ => simp
    | 3, _ => simp
  · rw [List.getElem?_eq_none (by simp; omega), List.getElem?_eq_none (by simp; omega)]

/-- The first k of the blocks of p lie in the row by f. -/
def RowsTo (w : World) (lo : Nat) (f : Nat → Value) (p : Pr) (k : Nat) : Prop :=
  ∀ i, i < k → f (i * 4) = .int .i64 (p.getD i default).kind ∧ f (i * 4 + 1) = .int .i64 (p.getD i default).parent ∧ Ints w lo (f (i * 4 + 2)) (p.getD i default).params ∧ Stmts w lo (f (i * 4 + 3)) (p.getD i default).body

theorem RowsTo.keep {w w' : World} {lo : Nat} {f : Nat → Value} {p : Pr} {k : Nat} (h : RowsTo w lo f p k) (hb : Below w.heap.size w w') : RowsTo w' lo f p k :=
  fun i hi => ⟨(h i hi).1, (h i hi).2.1, (h i hi).2.2.1.keep hb, (h i hi).2.2.2.keep hb⟩
theorem RowsTo.set {w : World} {lo : Nat} {f : Nat → Value} {p : Pr} {k : Nat} (h : RowsTo w lo f p k) {a : Addr} (ha : a.block < lo) (u : Value) : RowsTo (w.setCell a u) lo f p k :=
  fun i hi => ⟨(h i hi).1, (h i hi).2.1, (h i hi).2.2.1.set ha u, (h i hi).2.2.2.set ha u⟩

theorem RowsTo.succ {w : World} {lo : Nat} {f : Nat → Value} {p : Pr} {k : Nat} (h : RowsTo w lo f p k) (x : Bk) (hx : p.getD k default = x) (pv bv : Value) (hp : Ints w lo pv x.params) (hb : Stmts w lo bv x.body) :
    RowsTo w lo (fun j => if j = k * 4 then .int .i64 x.kind else if j = k * 4 + 1 then .int .i64 x.parent else if j = k * 4 + 2 then pv else if j = k * 4 + 3 then bv else f j) p (k + 1) := by
  intro i hi
  rcases Nat.lt_succ_iff_lt_or_eq.1 hi with h1 | rfl
  · obtain ⟨h2, h3, h4, h5⟩ := h i h1
    have e : ∀ c, c < 4 → (fun j => if j = k * 4 then Value.int .i64 x.kind else if j = k * 4 + 1 then .int .i64 x.parent else if j = k * 4 + 2 then pv else if j = k * 4 + 3 then bv else f j) (i * 4 + c) = f (i * 4 + c) := fun c hc => by
      simp only
      rw [if_neg (by omega), if_neg (by omega), if_neg (by omega), if_neg (by omega)]
    exact ⟨(e 0 (by omega)).trans h2, (e 1 (by omega)).trans h3, by rw [e 2 (by omega)]; exact h4, by rw [e 3 (by omega)]; exact h5⟩
  · rw [hx]
    exact ⟨by simp, by simp, by simpa using hp, by simpa using hb⟩

theorem Blks.of_rows {w : World} {lo b : Nat} {f : Nat → Value} {p : Pr} (h : w.rowIs b 75 (p.length * 4) f) (hl : lo ≤ b) (hn : p.length ≤ maxLen) (hr : RowsTo w lo f p p.length) :
    Blks w lo (.slice (some ⟨b, 0, none⟩) p.length p.length) p := by
  refine ⟨_, own_of_row h hl hn, fun i hi => ?_⟩
  rw [take4 f _ _ hi]
  obtain ⟨h1, h2, h3, h4⟩ := hr i hi
  exact ⟨_, _, by rw [h1, h2], h3, h4⟩

theorem sizes_at : ∀ (p : Pr) (i : Nat), i < p.length → (p.getD i default).params.length ≤ sizes p ∧ (p.getD i default).body.length ≤ sizes p
  | [], i, h => absurd h (by simp)
  | k :: p, 0, _ => by simp only [List.getD_cons_zero, sizes, Bk.size]; omega
  | k :: p, i + 1, h => by
    have := sizes_at p i (by simpa using h)
    simp only [List.getD_cons_succ, sizes]
    omega

theorem toBlockS_any (v : Value) (p : Pr) (w : World) (hv : OBlks w v p) (hlen : p.size ≤ 1048576) :
    Calls Tryd.prog 33 #[v] w fun e w' => ∃ v', e = .returned v' ∧ Blks w' w.heap.size v' p ∧ Below w.heap.size w w' := by
  obtain ⟨fo, ⟨A, C, b, o, rfl, hn, hc, hA, hcell⟩, hblk⟩ := hv
  obtain ⟨i0, hi, hz0, hz1, hz2⟩ := info_parts Tryd.info75
  have hps : p.size = p.length + sizes p := rfl
  have hl : p.length ≤ 1048576 := by omega
  have hl2 : sizes p ≤ 1048576 := by omega
  clear hps hlen
  have hmk := fun w => run_make_rowN (P := Tryd.prog) 33 75 i0 _ Tryd.underlying33 hi hz0 p.length (by rw [hz2]; omega) (by omega) w
  rw [hz1] at hmk
  go_enter Tryd.func33, Tryd.ntmps33
  go_wp2
  clear hmk
  go_loopw [4] (fun i wr => ∃ (k : Nat) (f : Nat → Value), k ≤ p.length ∧ i = .int .i64 k ∧ wr.rowIs w.heap.size 75 (p.length * 4) f ∧ RowsTo wr (w.heap.size + 1) f p k ∧ Below w.heap.size w wr ∧ w.heap.size + 1 ≤ wr.heap.size) (fun i _ => p.length - (intOf i).toNat)
  case atStart => exact ⟨0, _, Nat.zero_le _, rfl, rowIs_madeN w _ _ _, fun j hj => absurd hj (by omega), al1, by simp⟩
  case round =>
    obtain ⟨k, f, hk, rfl, hrow, hf, hB, hsz⟩ := hrel
    by_cases hlt : k < p.length
    · obtain ⟨rfl, hb⟩ := hA (by omega)
      obtain ⟨s0, s1, s2, s3⟩ := hblk k hlt
      obtain ⟨z1, z2⟩ := sizes_at p k hlt
      have c0 := (hB.cell (p := ⟨b, o + k * 4, none⟩) hb).trans (hcell (k * 4) (by omega))
      have c1 := (hB.cell (p := ⟨b, o + k * 4 + 1, none⟩) hb).trans (hcell (k * 4 + 1) (by omega))
      have c2 := (hB.cell (p := ⟨b, o + k * 4 + 2, none⟩) hb).trans (hcell (k * 4 + 2) (by omega))
      have c3 := (hB.cell (p := ⟨b, o + k * 4 + 3, none⟩) hb).trans (hcell (k * 4 + 3) (by omega))
      rw [s0] at c0
      rw [s1] at c1
      have HF := Lib.hid hf
      have HL := Lib.hid (And.intro hcell (And.intro hA hblk))
      clear s0 s1 hf hcell hA hblk
      generalize hx : p.getD k default = x at *
      have HX := Lib.hid hx
      clear hx
      generalize fo (k * 4 + 2) = pv at *
      generalize fo (k * 4 + 3) = bv at *
      go_wp2_with fail
      refine (toBlock_any x pv bv _ (s2.keep hB) (s3.keep hB) (by omega) (by omega)).mono ?_
      rintro e w3 ⟨pv', bv', rfl, hi3, hs3, hb3⟩
      obtain ⟨A3, C3, rfl⟩ := hi3.form
      obtain ⟨A4, C4, rfl⟩ := hs3.form
      have hi4 := hi3.lo_ hsz
      have hs4 := hs3.lo_ hsz
      have hf3 := HF.out.keep hb3
      have hf4 := Lib.hid (RowsTo.succ hf3 x HX.out _ _ hi4 hs4)
      have hrow3 := rowIs_below hrow hb3 hrow.lt
      have d0 := hrow3.cell (i := k * 4) (by omega)
      have d1 := hrow3.cell (i := k * 4 + 1) (by omega)
      have d2 := hrow3.cell (i := k * 4 + 2) (by omega)
      have d3 := hrow3.cell (i := k * 4 + 3) (by omega)
      have f0 := hrow3.frozen (k * 4)
      have f1 := hrow3.frozen (k * 4 + 1)
      have f2 := hrow3.frozen (k * 4 + 2)
      have f3 := hrow3.frozen (k * 4 + 3)
      have hB3 := bthen hB hb3
      have hset := rowIs_set4 hrow3 (k * 4) (.int .i64 x.kind) (.int .i64 x.parent) (.slice A3 x.params.length C3) (.slice A4 x.body.length C4)
      have hsz3 := hb3.size
      clear hrow hrow3 c0 c1 c2 c3 hi3 hs3 hi4 hs4 hf3 s2 s3
      go_wp2
      go_roundw
      case rel =>
        exact ⟨k + 1, _, by omega, by go_num, hset, (((hf4.out.set (a := ⟨w.heap.size, k * 4, none⟩) (by simp) _).set (a := ⟨w.heap.size, k * 4 + 1, none⟩) (by simp) _).set (a := ⟨w.heap.size, k * 4 + 2, none⟩) (by simp) _).set (a := ⟨w.heap.size, k * 4 + 3, none⟩) (by simp) _,
          (((hB3.setCell (p := ⟨w.heap.size, k * 4, none⟩) (Nat.le_refl _) _).setCell (p := ⟨w.heap.size, k * 4 + 1, none⟩) (Nat.le_refl _) _).setCell (p := ⟨w.heap.size, k * 4 + 2, none⟩) (Nat.le_refl _) _).setCell (p := ⟨w.heap.size, k * 4 + 3, none⟩) (Nat.le_refl _) _, by simp; omega⟩
      case measure => simp [intOf]; omega
    · obtain rfl : k = p.length := by omega
      go_wp2
      go_ret
      exact ⟨_, rfl, Blks.of_rows hrow (Nat.le_refl _) (by unfold maxLen; omega) (fun i hi => ⟨(hf i hi).1, (hf i hi).2.1, (hf i hi).2.2.1.lo_ (by omega), (hf i hi).2.2.2.lo_ (by omega)⟩), hB⟩

theorem Blks.form {w : World} {lo : Nat} {v : Value} {p : Pr} (h : Blks w lo v p) : ∃ (A : Option Addr) (C : Nat), v = .slice A p.length C := by
  obtain ⟨xs, h1, _⟩ := h
  obtain ⟨A, C, _, hv, _⟩ := own_rd h1
  exact ⟨A, C, hv⟩
theorem Blks.set {w : World} {lo : Nat} {v : Value} {p : Pr} (h : Blks w lo v p) {a : Addr} (ha : a.block < lo) (u : Value) : Blks (w.setCell a u) lo v p := by
  obtain ⟨xs, h1, h2⟩ := h
  refine ⟨xs, ownsRow_setCell_below h1 ha u, fun i hi => ?_⟩
  obtain ⟨pv, bv, e, h3, h4⟩ := h2 i hi
  exact ⟨pv, bv, e, h3.set ha u, h4.set ha u⟩

theorem toProgram_any (v : Value) (p : Pr) (w : World) (hv : OProg w v p) (hlen : p.size ≤ 1048576) :
    Calls Tryd.prog 13 #[v] w fun e w' => ∃ v', e = .returned v' ∧ Prog w' w.heap.size v' p ∧ Below w.heap.size w w' := by
  obtain ⟨sl, rfl, hv⟩ := hv
  go_enter Tryd.func13, Tryd.ntmps13
  go_wp2_with fail
  refine (toBlockS_any sl p _ (hv.keep (al3)) hlen).mono ?_
  rintro e w3 ⟨v', rfl, hi3, hb3⟩
  obtain ⟨A3, C3, rfl⟩ := hi3.form
  obtain ⟨hc3, hf3⟩ := bcell hb3
  have hsz := hb3.size
  simp only [World.size_alloc] at hc3 hf3 hsz
  have hB3 := bthen (al3 (w := w)) hb3
  have r1 := fun o => hc3 (w.heap.size + 1) o (by omega)
  have r2 := fun o => hc3 (w.heap.size + 1 + 1) o (by omega)
  have m1 := fun o => hf3 (w.heap.size + 1) o (by omega)
  have m2 := fun o => hf3 (w.heap.size + 1 + 1) o (by omega)
  clear hc3 hf3
  go_wp2
  exact bodyPost_ret (v := .agg #[.slice A3 p.length C3]) (by simp [results, Tryd.results13, go_sem, r1]) rfl
    ⟨_, rfl, ⟨_, rfl, ((hi3.set (by simp) _).set (by simp) _).lo_ (by simp; omega)⟩, (hB3.setCell (by simp; omega) _).setCell (by simp) _⟩

end Go.Proofs.YtpajkejdfalkiaaDoor
