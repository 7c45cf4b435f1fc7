/-
  Walks: the reference's lists of names: placeIn, has, copyInts, sorted. Condition: the list reads as numbers.
-/
import Derived.Test.YtpajkejdfalkiaaDoorSpec3
import Derived.Test.YtpajkejdfalkiaaDoorMath1
import Derived.Test.YtpajkejdfalkiaaDoorMem2
namespace Go.Proofs.YtpajkejdfalkiaaDoor
open Go.RowKit

/-- The place of a number in a list; -1 if it is not there. -/
def plc (l : List Int) (n : Int) : Int := if n ∈ l then (l.idxOf n : Int) else -1

theorem plc_at {l : List Int} {n : Int} {k : Nat} (hk : k < l.length) (hn : l.getD k 0 = n) (hb : ∀ j, j < k → l.getD j 0 ≠ n) : plc l n = k := by
  have h1 : l[k] = n := by simp only [List.getD, List.getElem?_eq_getElem hk, Option.getD_some] at hn; exact hn
  have hm : n ∈ l := h1 ▸ List.getElem_mem hk
  unfold plc
  rw [if_pos hm]
  have h2 : l.idxOf n = k := by
    have h3 := List.idxOf_lt_length_of_mem hm
    have h4 : l[l.idxOf n] = n := List.getElem_idxOf h3
    rcases Nat.lt_trichotomy (l.idxOf n) k with h | h | h
    · exact absurd (by simp [List.getD, h3]) (hb _ h)
    · exact h
    · unfold List.idxOf at h
      have := List.not_of_lt_findIdx h
      simp [h1] at this
  rw [h2]
theorem plc_none {l : List Int} {n : Int} (hb : ∀ j, j < l.length → l.getD j 0 ≠ n) : plc l n = -1 := by
  unfold plc
  rw [if_neg]
  intro hm
  obtain ⟨j, hj, rfl⟩ := List.getElem_of_mem hm
  exact hb j hj (by simp [List.getD, hj])
def hasF (l : List Int) (x : Int) : Bool := l.contains x
theorem hasF_iff {l : List Int} {x : Int} : hasF l x = true ↔ x ∈ l := by simp [hasF]
theorem plc_ge (l : List Int) (n : Int) : decide (0 ≤ plc l n) = hasF l n := by
  unfold plc hasF
  by_cases h : n ∈ l
  · rw [if_pos h]; simp [h]
  · rw [if_neg h]; simp [h]
theorem plc_lt (l : List Int) (n : Int) : -1 ≤ plc l n ∧ plc l n < l.length := by
  unfold plc
  by_cases h : n ∈ l
  · rw [if_pos h]
    have := List.idxOf_lt_length_of_mem h
    omega
  · rw [if_neg h]; omega

theorem S_placeIn (v : Value) (l : List Int) (lo : Nat) (n : Int) (w : World) (hv : Ints w lo v l) :
    Calls Tryd.prog 46 #[v, .int .i64 n] w fun e w' => e = .returned (.int .i64 (plc l n)) ∧ w = w' := by
  obtain ⟨A, C, g, rfl, hn, hc, hA, hg, hcell, _⟩ := hv.rd
  clear hv
  unfold maxLen at hc
  generalize hR : plc l n = R
  have HR := Lib.hid hR
  clear hR
  go_enter Tryd.func46, Tryd.ntmps46
  go_wp2
  go_loop [5] (fun i => ∃ k : Nat, k ≤ l.length ∧ i = .int .i64 k ∧ ∀ j, j < k → l.getD j 0 ≠ n) (fun i => l.length - (intOf i).toNat)
  case atStart => exact ⟨0, Nat.zero_le _, rfl, fun j hj => absurd hj (Nat.not_lt_zero _)⟩
  case round =>
    obtain ⟨k, hk, rfl, hp⟩ := hrel
    have HP := Lib.hid hp
    clear hp
    by_cases hlt : k < l.length
    · have c1 := hcell k hlt
      obtain rfl := hA (by omega)
      clear hA hcell hg
      generalize hx : l.getD k 0 = x at c1
      have HX := Lib.hid hx
      clear hx
      by_cases hxy : x = n
      · have HE := Lib.hid hxy
        have hb1 : (x == n) = true := by simp [hxy]
        clear hxy
        go_wp2
        go_ret
        exact ⟨ret_int (by rw [← HR.out, plc_at hlt (by rw [HX.out]; exact HE.out) HP.out]), rfl⟩
      · have HE := Lib.hid hxy
        have hb1 : (x == n) = false := by simp [hxy]
        clear hxy
        go_wp2
        go_round
        case rel => exact ⟨k + 1, by omega, by go_num, fun j hj => by
          rcases Nat.lt_succ_iff_lt_or_eq.1 hj with h | rfl
          · exact HP.out j h
          · rw [HX.out]; exact HE.out⟩
        case measure => simp [intOf]; omega
    · go_wp2
      go_ret
      exact ⟨ret_int (by rw [← HR.out, plc_none (fun j hj => HP.out j (by omega))]), rfl⟩

theorem S_has (v : Value) (l : List Int) (lo : Nat) (n : Int) (w : World) (hv : Ints w lo v l) :
    Calls Tryd.prog 43 #[v, .int .i64 n] w fun e w' => e = .returned (.bool (hasF l n)) ∧ w = w' := by
  have hg := plc_ge l n
  have HG := Lib.hid hg
  clear hg
  have HV := Lib.hid hv
  obtain ⟨A, C, rfl⟩ := hv.form
  clear hv
  go_enter Tryd.func43, Tryd.ntmps43
  go_wp2_with (go_at_call 46; refine (S_placeIn _ l lo n _ HV.out).mono ?_; rintro e w' ⟨rfl, rfl⟩)
  go_ret
  exact ⟨ret_bool HG.out, rfl⟩

theorem Ints.one (w : World) (lo : Nat) (a : Int) (hl : lo ≤ w.heap.size) : Ints (w.alloc (.cells #[.int .i64 a] 3)) lo (.slice (some ⟨w.heap.size, 0, none⟩) 1 1) [a] := by
  exact Ints.lit w lo [a] hl (by simp)
theorem Ints.zero (w : World) (lo : Nat) (hl : lo ≤ w.heap.size) : Ints (w.alloc (.cells #[] 3)) lo (.slice (some ⟨w.heap.size, 0, none⟩) 0 0) [] := by
  exact Ints.lit w lo [] hl (by simp)

theorem S_copyInts (v : Value) (l : List Int) (lo : Nat) (w : World) (hv : Ints w lo v l) (hl : l.length ≤ 1000000) :
    Calls Tryd.prog 104 #[v] w fun e w' => ∃ v', e = .returned v' ∧ Ints w' w.heap.size v' l ∧ Below w.heap.size w w' := by
  have HV := Lib.hid hv
  obtain ⟨A, C, rfl⟩ := hv.form
  clear hv
  go_enter Tryd.func104, Tryd.ntmps104
  go_wp2_with (at_builtin; refine wpList_append_ints rfl _ _ rfl _ _ [] l w.heap.size lo rfl rfl (Ints.zero w _ (Nat.le_refl _)) (HV.out.keep al1) (by simp; omega) (by simp) ?_; intro v' w1 hown1 hgrow hbel hfrom)
  go_ret
  exact ⟨_, rfl, by simpa using hown1, al1.trans hbel⟩

set_option maxRecDepth 100000 in
theorem S_sorted (v : Value) (l : List Int) (lo : Nat) (w : World) (hv : Ints w lo v l) :
    Calls Tryd.prog 74 #[v] w fun e w' => ∃ v', e = .returned v' ∧ Ints w' w.heap.size v' (nms (hasF l)) ∧ Below w.heap.size w w' := by
  have HV := Lib.hid hv
  obtain ⟨A, C, rfl⟩ := hv.form
  clear hv
  go_enter Tryd.func74, Tryd.ntmps74
  go_wp2
  go_loopw [3, 4] (fun o i wr => ∃ k : Nat, k ≤ 8 ∧ i = .int .i64 k ∧ Ints wr w.heap.size o (upto (hasF l) k) ∧ Below w.heap.size w wr) (fun _ i _ => 8 - (intOf i).toNat)
  case atStart => exact ⟨0, Nat.zero_le _, rfl, Ints.zero w _ (Nat.le_refl _), al1⟩
  case round =>
    obtain ⟨k, hk, rfl, hown, hB⟩ := hrel
    have hz := hB.size
    have hlen := upto_len (hasF l) k
    by_cases hlt : k < 8
    · have hle : (k : Int) ≤ 7 := by omega
      have hge := plc_ge l k
      by_cases hc : hasF l k = true
      · have hs := upto_yes (hasF l) k hc
        rw [hc] at hge
        have hge' : 0 ≤ plc l k := of_decide_eq_true hge
        have HS := Lib.hid hs
        have HO := Lib.hid hown
        clear hs hc hge hown
        go_wp2_with (first
          | (go_at_call 46; refine (S_placeIn _ l lo k _ (HV.out.keep hB)).mono ?_; rintro e w' ⟨rfl, rfl⟩)
          | (at_builtin; refine wpList_append_ints rfl _ _ rfl _ _ _ [(k : Int)] w.heap.size _ rfl rfl (HO.out.keep al1) (Ints.one _ _ _ (Nat.le_refl _)) (by show _ + 1 ≤ _; omega) (by rw [World.size_alloc]; omega) ?_; intro v' w1 hown1 hgrow hbel hfrom))
        go_roundw
        case rel => exact ⟨k + 1, by omega, by go_num, by rw [HS.out]; exact hown1, (hB.alloc hz _).trans hbel⟩
        case measure => simp [intOf]; omega
      · have hcf := Bool.eq_false_iff.2 hc
        have hs := upto_no (hasF l) k hcf
        rw [hcf] at hge
        have hge' : plc l k < 0 := by have := of_decide_eq_false hge; omega
        have HS := Lib.hid hs
        clear hs hc hcf hge
        go_wp2_with (go_at_call 46; refine (S_placeIn _ l lo k _ (HV.out.keep hB)).mono ?_; rintro e w' ⟨rfl, rfl⟩)
        go_roundw
        case rel => exact ⟨k + 1, by omega, by go_num, by rw [HS.out]; exact hown, hB⟩
        case measure => simp [intOf]; omega
    · obtain rfl : k = 8 := by omega
      go_wp2
      go_ret
      exact ⟨_, rfl, hown, hB⟩

end Go.Proofs.YtpajkejdfalkiaaDoor
