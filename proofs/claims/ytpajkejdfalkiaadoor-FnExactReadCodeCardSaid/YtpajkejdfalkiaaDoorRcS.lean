/-
  Walks: the reference's splitAt, opWords, lone, number, readNumber. Condition: the text is at most 2^20 bytes long.
-/
import Derived.Test.YtpajkejdfalkiaaDoorRcM
namespace Go.Proofs.YtpajkejdfalkiaaDoor
open Go.RowKit
set_option linter.unusedVariables false

set_option maxRecDepth 100000 in
set_option maxHeartbeats 1000000 in
theorem S_splitAt (s : ByteArray) (c : UInt8) (w : World) (hs : s.size ≤ 1048576) :
    Calls Tryd.prog 36 #[.string s, .int .u8 c.toNat] w fun e w' => ∃ v', e = .returned v' ∧ Strs w' w.heap.size v' (spl c s) ∧ Below w.heap.size w w' := by
  have hgb := get_byt s
  go_enter Tryd.func36, Tryd.ntmps36
  go_wp2
  go_loopw [5, 6, 7] (fun o f i wr => ∃ (D : List ByteArray) (fr k : Nat), fr ≤ k ∧ k ≤ s.size ∧ D.length ≤ fr ∧ f = .int .i64 fr ∧ i = .int .i64 k ∧ Strs wr w.heap.size o D ∧ spl c s = D ++ splFrom c s fr ∧ (∀ q, fr ≤ q → (hq : q < k) → ∀ h : q < s.size, s[q]'h ≠ c) ∧ Below w.heap.size w wr) (fun _ _ i _ => s.size - (intOf i).toNat)
  case atStart => exact ⟨[], 0, 0, Nat.le_refl _, Nat.zero_le _, Nat.le_refl _, rfl, rfl, Strs.lit0 rfl (Nat.le_refl _), by rw [splFrom_zero]; rfl, fun q _ h => absurd h (Nat.not_lt_zero _), al1⟩
  case round =>
    obtain ⟨D, fr, k, hfk, hk, hDl, rfl, rfl, hD, hsp, hnc, hB⟩ := hrel
    have HD := Lib.hid hD
    have HSP := Lib.hid hsp
    have HNC := Lib.hid hnc
    have hz := hB.size
    clear hD hsp hnc
    by_cases hlt : k < s.size
    · have hk0 : (0 : Int) ≤ (k : Int) := by omega
      have hk1 : (k : Int) < (s.size : Int) := by omega
      have hf0 : (0 : Int) ≤ (fr : Int) := by omega
      have hf1 : (fr : Int) ≤ (k : Int) := by omega
      have hk2 : (k : Int) ≤ (s.size : Int) := by omega
      have HG := Lib.hid (hgb k hlt)
      by_cases hc : s[k] = c
      · have hb : (byt s k == (c.toNat : Int)) = true := by rw [← HG.out, hc]; simp
        have HC := Lib.hid hc
        obtain ⟨oA, oC, rfl⟩ := HD.out.form
        clear hc
        go_wp2_with (at_builtin; refine wpList_append_strs rfl _ _ rfl _ _ D [s.extract fr k] w.heap.size w.heap.size rfl rfl (HD.out.keep al1) (Strs.lit1 rfl hz _) (by simp only [List.length_cons, List.length_nil]; omega) (by rw [World.size_alloc]; omega) ?_; intro v9 w9 hown9 hgrow9 hbel9 hfrom9)
        go_roundw
        case rel =>
          refine ⟨D ++ [s.extract fr k], k + 1, k + 1, Nat.le_refl _, by omega, by rw [List.length_append]; simp; omega, by go_num, by go_num, hown9, ?_, fun q h1 h2 => absurd h2 (by omega), (hB.alloc hz _).trans hbel9⟩
          rw [HSP.out, splFrom_hit hfk hlt HC.out (fun q h1 h2 => HNC.out q h1 h2 (by omega)), List.append_assoc]
          rfl
        case measure => simp [intOf]; omega
      · have hb : (byt s k == (c.toNat : Int)) = false := by
          rw [← HG.out, beq_eq_false_iff_ne]
          intro h
          exact hc (UInt8.toNat_inj.1 (by omega))
        have HC := Lib.hid hc
        clear hc
        go_wp2
        go_roundw
        case rel =>
          refine ⟨D, fr, k + 1, by omega, by omega, hDl, rfl, by go_num, HD.out, HSP.out, fun q h1 h2 h3 => ?_, hB⟩
          by_cases e : q = k
          · subst e; exact HC.out
          · exact HNC.out q h1 (by omega) h3
        case measure => simp [intOf]; omega
    · obtain rfl : k = s.size := by omega
      have hf0 : (0 : Int) ≤ (fr : Int) := by omega
      have hf1 : (fr : Int) ≤ (s.size : Int) := by omega
      obtain ⟨oA, oC, rfl⟩ := HD.out.form
      go_wp2_with (at_builtin; refine wpList_append_strs rfl _ _ rfl _ _ D [s.extract fr s.size] w.heap.size w.heap.size rfl rfl (HD.out.keep al1) (Strs.lit1 rfl hz _) (by simp only [List.length_cons, List.length_nil]; omega) (by rw [World.size_alloc]; omega) ?_; intro v9 w9 hown9 hgrow9 hbel9 hfrom9)
      go_ret
      refine ⟨v9, rfl, ?_, (hB.alloc hz _).trans hbel9⟩
      rw [HSP.out, splFrom_end (fun q h1 h2 => HNC.out q h1 h2 h2)]
      exact hown9

set_option maxRecDepth 100000 in
theorem S_opWords (w : World) :
    Calls Tryd.prog 57 #[] w fun e w' => ∃ v', e = .returned v' ∧ Strs w' w.heap.size v' wordL ∧ Below w.heap.size w w' := by
  go_enter Tryd.func57, Tryd.ntmps57
  go_wp2
  go_ret
  exact ⟨_, rfl, Strs.lit rfl (Nat.le_refl _) wordL (by decide), al1⟩

set_option maxRecDepth 100000 in
theorem S_lone (c : Int) (w : World) :
    Calls Tryd.prog 58 #[.int .i64 c] w fun e w' => e = .returned (.bool (!argB c)) ∧ w = w' := by
  by_cases h0 : c = 0
  · subst h0
    go_enter Tryd.func58, Tryd.ntmps58
    go_wp2
    go_ret
    exact ⟨rfl, rfl⟩
  by_cases h1 : c = 14
  · subst h1
    go_enter Tryd.func58, Tryd.ntmps58
    go_wp2
    go_ret
    exact ⟨rfl, rfl⟩
  by_cases h2 : c = 19
  · subst h2
    go_enter Tryd.func58, Tryd.ntmps58
    go_wp2
    go_ret
    exact ⟨rfl, rfl⟩
  have ha : argB c = decide (c ≠ 20) := by unfold argB; simp [h0, h1, h2]
  have b0 : (c == 0) = false := by simp [h0]
  have b1 : (c == 14) = false := by simp [h1]
  have b2 : (c == 19) = false := by simp [h2]
  have HA := Lib.hid ha
  clear ha h0 h1 h2
  go_enter Tryd.func58, Tryd.ntmps58
  go_wp2
  go_ret
  refine ⟨ret_bool ?_, rfl⟩
  rw [HA.out]
  by_cases h3 : c = 20 <;> simp [h3]

/-- A number below 100, in decimal. -/
def numS (n : Nat) : ByteArray := if n < 10 then ⟨#[UInt8.ofNat (48 + n)]⟩ else ⟨#[UInt8.ofNat (48 + n / 10), UInt8.ofNat (48 + n % 10)]⟩
theorem numS_size (n : Nat) : (numS n).size ≤ 2 := by
  unfold numS
  split
  · exact Nat.le_succ 1
  · exact Nat.le_refl 2
set_option maxRecDepth 100000 in
theorem S_number1 (n : Nat) (hn : n < 10) (w : World) :
    Calls Tryd.prog 95 #[.int .i64 n] w fun e w' => e = .returned (.string (numS n)) ∧ w = w' := by
  have h : n = 0 ∨ n = 1 ∨ n = 2 ∨ n = 3 ∨ n = 4 ∨ n = 5 ∨ n = 6 ∨ n = 7 ∨ n = 8 ∨ n = 9 := by omega
  rcases h with rfl | rfl | rfl | rfl | rfl | rfl | rfl | rfl | rfl | rfl
  all_goals
    go_enter Tryd.func95, Tryd.ntmps95
    go_wp2
    go_ret
    exact ⟨congrArg (fun b => Ending.returned (Value.string b)) (by decide), rfl⟩
set_option maxRecDepth 100000 in
theorem S_number (n : Nat) (hn : n < 100) (w : World) :
    Calls Tryd.prog 95 #[.int .i64 n] w fun e w' => e = .returned (.string (numS n)) ∧ w = w' := by
  by_cases h : n < 10
  · exact S_number1 n h w
  have h1 : n / 10 < 10 := by omega
  have h2 : n % 10 < 10 := by omega
  have hq : (n : Int).tdiv 10 = ((n / 10 : Nat) : Int) := by rw [Int.tdiv_eq_ediv_of_nonneg (by omega)]; rfl
  have hr : (n : Int).tmod 10 = ((n % 10 : Nat) : Int) := by rw [Int.tmod_eq_emod_of_nonneg (by omega)]; rfl
  have hw : IntKind.i64.wrap ((n / 10 : Nat) : Int) = ((n / 10 : Nat) : Int) := IntWalk.i64_in _ (by omega)
  have hl : ¬ ((n : Int) < 0) := by omega
  have hl2 : ¬ ((n : Int) < 10) := by omega
  have e : numS (n / 10) ++ numS (n % 10) = numS n := by
    unfold numS
    rw [if_pos h1, if_pos h2, if_neg h]
    rfl
  have E := Lib.hid e
  have hsz : ¬ (9223372036854775807 < (numS (n / 10)).size + (numS (n % 10)).size) := by have := numS_size (n / 10); have := numS_size (n % 10); omega
  have H1 := Lib.hid h1
  have H2 := Lib.hid h2
  clear e h h1 h2
  go_enter Tryd.func95, Tryd.ntmps95
  go_wp2_with fail
  refine (S_number1 (n / 10) H1.out _).mono ?_
  rintro e w' ⟨rfl, rfl⟩
  go_wp2_with fail
  refine (S_number1 (n % 10) H2.out _).mono ?_
  rintro e w' ⟨rfl, rfl⟩
  go_wp2
  go_ret
  exact ⟨congrArg (fun b => Ending.returned (Value.string b)) E.out, rfl⟩
end Go.Proofs.YtpajkejdfalkiaaDoor
