/-
  Walks: the reference's readNumber, readOp, ReadCode. Condition: the text is at most 2^20 bytes long.
-/
import Derived.Test.YtpajkejdfalkiaaDoorRcS
namespace Go.Proofs.YtpajkejdfalkiaaDoor
open Go.RowKit
set_option linter.unusedVariables false

/-! ### numbers -/
theorem beq_bytes (a b : ByteArray) : (a.toList == b.toList) = true ↔ a = b := by
  rw [beq_iff_eq, ByteArray.toList_eq, ByteArray.toList_eq]
  constructor
  · intro h
    rw [← mk_data a, ← mk_data b, h]
  · rintro rfl
    rfl
theorem beq_bytes_no (a b : ByteArray) : (a.toList == b.toList) = false ↔ a ≠ b := by
  rw [← Bool.not_eq_true, beq_bytes]
def valTo (w : ByteArray) : Nat → Int
  | 0 => 0
  | k + 1 => 10 * valTo w k + (byt w k - 48)
theorem numF_bad {w : ByteArray} {k : Nat} (hk : k < w.size) (hd : digB w k = false) : numF w = -1 := by
  unfold numF
  split
  · next h =>
    obtain rfl : k = 0 := by omega
    rw [hd]
    rfl
  · split
    · next h =>
      have : k = 0 ∨ k = 1 := by omega
      rcases this with rfl | rfl
      · rw [hd]; rfl
      · rw [hd]; simp
    · rfl
theorem numF_long {w : ByteArray} (h : 3 ≤ w.size) : numF w = -1 := by
  unfold numF
  rw [if_neg (by omega), if_neg (by omega)]
theorem numF_empty {w : ByteArray} (h : w.size = 0) : numF w = -1 := by
  unfold numF
  rw [if_neg (by omega), if_neg (by omega)]
theorem valTo_small {w : ByteArray} (hd : ∀ k, k < w.size → digB w k = true) : ∀ k, k ≤ w.size → k ≤ 1 → 0 ≤ valTo w k ∧ valTo w k ≤ 9 := by
  intro k hk h1
  have : k = 0 ∨ k = 1 := by omega
  rcases this with rfl | rfl
  · simp [valTo]
  · have := hd 0 (by omega)
    unfold digB at this
    rw [decide_eq_true_iff] at this
    simp only [valTo]
    omega
theorem size_of_eq {a b : ByteArray} (h : (a.toList == b.toList) = true) : a.size = b.size := by
  rw [(beq_bytes a b).1 h]
theorem byt_one (x : UInt8) : byt ⟨#[x]⟩ 0 = x.toNat := by
  unfold byt
  rw [dif_pos (show 0 < (⟨#[x]⟩ : ByteArray).size from Nat.lt_succ_self 0)]
  rfl
theorem byt_two (x y : UInt8) : byt ⟨#[x, y]⟩ 0 = x.toNat ∧ byt ⟨#[x, y]⟩ 1 = y.toNat := by
  constructor
  · unfold byt
    rw [dif_pos (show 0 < (⟨#[x, y]⟩ : ByteArray).size from Nat.succ_pos 1)]
    rfl
  · unfold byt
    rw [dif_pos (show 1 < (⟨#[x, y]⟩ : ByteArray).size from Nat.lt_succ_self 1)]
    rfl
theorem bytes_ext {a b : ByteArray} (hs : a.size = b.size) (h : ∀ k, k < a.size → byt a k = byt b k) : a = b := by
  have e : a.data = b.data := by
    apply Array.ext
    · exact hs
    · intro i h1 h2
      have h1' : i < a.size := h1
      have h2' : i < b.size := h2
      have h3 := h i h1'
      unfold byt at h3
      rw [dif_pos h1', dif_pos h2'] at h3
      exact UInt8.toNat_inj.1 (by exact Int.ofNat.inj h3)
  obtain ⟨x⟩ := a
  obtain ⟨y⟩ := b
  exact congrArg _ e
/-- A word of digits, of at most two without leading zeros, is what is written of its number; another one is not. -/
theorem num_shown {w : ByteArray} (hd : ∀ k, k < w.size → digB w k = true) (h0 : w.size ≠ 0) (n : Nat) (hn : valTo w w.size = n) (hn2 : n < 100) : (w.toList == (numS n).toList) = decide (numF w ≠ -1) ∧ (numF w ≠ -1 → numF w = n) := by
  have dg : ∀ k, k < w.size → 48 ≤ byt w k ∧ byt w k ≤ 57 := fun k hk => by
    have := hd k hk
    unfold digB at this
    rwa [decide_eq_true_iff] at this
  have nt : ∀ m : Nat, m < 10 → ((UInt8.ofNat (48 + m)).toNat : Int) = 48 + m := fun m hm => by
    rw [UInt8.toNat_ofNat']
    omega
  by_cases h1 : w.size = 1
  · have d0 := dg 0 (by omega)
    have e : numF w = byt w 0 - 48 := by unfold numF; rw [if_pos h1, if_pos (hd 0 (by omega))]
    rw [h1] at hn
    simp only [valTo] at hn
    have hlt : n < 10 := by omega
    have e2 : w = numS n := by
      unfold numS
      rw [if_pos hlt]
      refine bytes_ext h1 fun k hk => ?_
      obtain rfl : k = 0 := by omega
      rw [byt_one, nt n hlt]
      omega
    refine ⟨?_, fun _ => by omega⟩
    rw [(beq_bytes _ _).2 e2, eq_comm, decide_eq_true_iff]
    omega
  · by_cases h2 : w.size = 2
    · have d0 := dg 0 (by omega)
      have d1 := dg 1 (by omega)
      rw [h2] at hn
      simp only [valTo] at hn
      by_cases hz : byt w 0 = 48
      · have e : numF w = -1 := by unfold numF; rw [if_neg h1, if_pos h2, if_neg (by simp [hz])]
        rw [e]
        refine ⟨?_, fun h => absurd rfl h⟩
        rw [decide_eq_false (by simp)]
        rw [beq_bytes_no]
        intro hw
        have hsz := congrArg ByteArray.size hw
        unfold numS at hsz
        rw [if_pos (by omega), h2] at hsz
        exact absurd hsz (by show ¬ (2 = 1); omega)
      · have e : numF w = 10 * (byt w 0 - 48) + (byt w 1 - 48) := by
          unfold numF
          rw [if_neg h1, if_pos h2, if_pos (by rw [hd 0 (by omega), hd 1 (by omega)]; simp [hz])]
        have hge : ¬ n < 10 := by omega
        have e2 : w = numS n := by
          unfold numS
          rw [if_neg hge]
          refine bytes_ext h2 fun k hk => ?_
          have hk2 : k = 0 ∨ k = 1 := by omega
          rcases hk2 with rfl | rfl
          · rw [(byt_two _ _).1, nt (n / 10) (by omega)]
            omega
          · rw [(byt_two _ _).2, nt (n % 10) (by omega)]
            omega
        refine ⟨?_, fun _ => by omega⟩
        rw [(beq_bytes _ _).2 e2, eq_comm, decide_eq_true_iff]
        omega
    · have e : numF w = -1 := numF_long (by omega)
      rw [e]
      refine ⟨?_, fun h => absurd rfl h⟩
      rw [decide_eq_false (by simp)]
      rw [beq_bytes_no]
      intro hw
      have hsz := congrArg ByteArray.size hw
      have := numS_size n
      omega

set_option maxRecDepth 100000 in
set_option maxHeartbeats 1000000 in
theorem S_readNumber (s : ByteArray) (w : World) (hs : s.size ≤ 1048576) :
    Calls Tryd.prog 59 #[.string s] w fun e w' => e = .returned (.int .i64 (numF s)) ∧ w = w' := by
  have hgb := get_byt s
  obtain ⟨R, hR⟩ : ∃ R : Int, R = numF s := ⟨_, rfl⟩
  rw [← hR]
  have HR := Lib.hid hR
  clear hR
  go_enter Tryd.func59, Tryd.ntmps59
  go_wp2
  go_loop [3, 4] (fun n i => ∃ k : Nat, k ≤ s.size ∧ i = .int .i64 k ∧ n = .int .i64 (valTo s k) ∧ 0 ≤ valTo s k ∧ valTo s k ≤ 99 ∧ ∀ q, q < k → digB s q = true) (fun _ i => s.size - (intOf i).toNat)
  case atStart => exact ⟨0, Nat.zero_le _, rfl, rfl, by simp [valTo], by simp [valTo], fun q h => absurd h (Nat.not_lt_zero _)⟩
  case round =>
    obtain ⟨k, hk, rfl, rfl, hv0, hv1, hd⟩ := hrel
    have HD := Lib.hid hd
    clear hd
    by_cases hlt : k < s.size
    · have hk0 : (0 : Int) ≤ (k : Int) := by omega
      have hk1 : (k : Int) < (s.size : Int) := by omega
      have HG := hgb k hlt
      have hb := byt_le s k
      obtain ⟨X, hX⟩ : ∃ X : Int, byt s k = X := ⟨_, rfl⟩
      obtain ⟨V, hV⟩ : ∃ V : Int, valTo s k = V := ⟨_, rfl⟩
      have hnx : valTo s (k + 1) = 10 * V + (X - 48) := by rw [valTo, hX, hV]
      rw [hX] at HG hb
      rw [hV] at hv0 hv1 ⊢
      have HX := Lib.hid hX
      have HV := Lib.hid hV
      have HNX := Lib.hid hnx
      clear hgb hX hV hnx
      by_cases h1 : X < 48
      · have HB := Lib.hid (numF_bad hlt (by unfold digB; rw [HX.out]; simp; omega))
        go_wp2
        go_ret
        exact ⟨ret_int (by rw [HR.out, HB.out]), rfl⟩
      by_cases h2 : X > 57
      · have HB := Lib.hid (numF_bad hlt (by unfold digB; rw [HX.out]; simp; omega))
        have h1' : (decide (X < 48)) = false := by simp; omega
        go_wp2
        go_ret
        exact ⟨ret_int (by rw [HR.out, HB.out]), rfl⟩
      by_cases h3 : V > 9
      · have hk2 : 2 ≤ k := by
          rcases Nat.lt_or_ge k 2 with h | h
          · exfalso
            have : k = 0 ∨ k = 1 := by omega
            rcases this with rfl | rfl
            · have := HV.out; simp [valTo] at this; omega
            · have := HV.out
              have hd0 := HD.out 0 (by omega)
              unfold digB at hd0
              rw [decide_eq_true_iff] at hd0
              simp only [valTo] at this
              omega
          · exact h
        have HB := Lib.hid (numF_long (w := s) (by omega))
        have h1' : (decide (X < 48)) = false := by simp; omega
        have h2' : (decide (X > 57)) = false := by simp; omega
        go_wp2
        go_ret
        exact ⟨ret_int (by rw [HR.out, HB.out]), rfl⟩
      have hw1 : IntKind.u8.wrap (X - 48) = X - 48 := by rw [IntKind.wrap_u8]; omega
      have hw2 : IntKind.i64.wrap (X - 48) = X - 48 := IntWalk.i64_in _ (by omega)
      have hw3 : IntKind.i64.wrap (10 * V) = 10 * V := IntWalk.i64_in _ (by omega)
      have hw4 : IntKind.i64.wrap (10 * V + (X - 48)) = 10 * V + (X - 48) := IntWalk.i64_in _ (by omega)
      go_wp2
      go_round
      case rel =>
        refine ⟨k + 1, by omega, by go_num, by rw [HNX.out], by rw [HNX.out]; omega, by rw [HNX.out]; omega, fun q hq => ?_⟩
        by_cases e : q = k
        · subst e; unfold digB; rw [HX.out]; simp; omega
        · exact HD.out q (by omega)
      case measure => simp [intOf]; omega
    · obtain rfl : k = s.size := by omega
      obtain ⟨n, hn⟩ : ∃ n : Nat, valTo s s.size = n := ⟨(valTo s s.size).toNat, by omega⟩
      rw [hn] at hv0 hv1 ⊢
      by_cases h0 : s.size = 0
      · have hq : (s.toList == ([] : List UInt8)) = true := by
          rw [ByteArray.toList_eq, beq_iff_eq]
          exact List.eq_nil_of_length_eq_zero (by rw [Array.length_toList]; exact h0)
        have hq2 : s = ByteArray.empty := bytes_ext h0 (fun k hk => absurd hk (by omega))
        have HE := Lib.hid (numF_empty h0)
        subst hq2
        clear hgb
        go_wp2
        go_ret
        exact ⟨ret_int (by rw [HR.out, HE.out]), rfl⟩
      · obtain ⟨hsh, hval⟩ := num_shown HD.out h0 n hn (by omega)
        have hq : (s.toList == (ByteArray.mk #[]).toList) = false := by
          rw [beq_bytes_no]
          rintro rfl
          exact h0 rfl
        have hq1 : (s.toList == ([] : List UInt8)) = false := by
          rw [ByteArray.toList_eq, beq_eq_false_iff_ne]
          intro h
          exact h0 (by have := congrArg List.length h; rw [Array.length_toList] at this; exact this)
        have HVAL := Lib.hid hval
        have HN := Lib.hid (show n < 100 by omega)
        clear hn hval hgb
        cases hf : decide (numF s ≠ -1)
        · rw [hf] at hsh
          rw [decide_eq_false_iff_not, Decidable.not_not] at hf
          have HF := Lib.hid hf
          clear hf
          go_wp2_with fail
          refine (S_number n HN.out _).mono ?_
          rintro e w' ⟨rfl, rfl⟩
          go_wp2
          go_ret
          exact ⟨ret_int (by rw [HR.out, HF.out]), rfl⟩
        · rw [hf] at hsh
          rw [decide_eq_true_iff] at hf
          have HF := Lib.hid (HVAL.out hf)
          clear hf
          go_wp2_with fail
          refine (S_number n HN.out _).mono ?_
          rintro e w' ⟨rfl, rfl⟩
          go_wp2
          go_ret
          exact ⟨ret_int (by rw [HR.out, HF.out]), rfl⟩
end Go.Proofs.YtpajkejdfalkiaaDoor
