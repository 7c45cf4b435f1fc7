/-
  Walks: the methods of the program's reader of lines and words. Conditions: internal/bytealg's variable holds a number; the texts are at most 2^20 bytes long.
-/
import Derived.Test.YtpajkejdfalkiaaDoorRcI
namespace Go.Proofs.YtpajkejdfalkiaaDoor
open Go.RowKit
set_option linter.unusedVariables false

theorem num_end {s : ByteArray} (h1 : s.size = 1 ∨ s.size = 2) (hz : s.size = 2 → byt s 0 ≠ 48) (hd : ∀ q, q < s.size → digB s q = true) : numF s = valTo s s.size ∧ numF s ≠ -1 := by
  have d0 := hd 0 (by omega)
  have e0 := d0
  unfold digB at e0
  rw [decide_eq_true_iff] at e0
  rcases h1 with h | h
  · unfold numF
    rw [if_pos h, if_pos d0, h]
    simp only [valTo]
    omega
  · have d1 := hd 1 (by omega)
    have e1 := d1
    unfold digB at e1
    rw [decide_eq_true_iff] at e1
    have hz := hz h
    unfold numF
    rw [if_neg (by omega), if_pos h, d0, d1, decide_eq_true hz, h]
    simp only [valTo, Bool.and_self, if_true]
    omega
theorem num_zero {s : ByteArray} (h : s.size = 2) (hz : byt s 0 = 48) : numF s = -1 := by
  unfold numF
  rw [if_neg (by omega), if_pos h, if_neg (by simp [hz])]
theorem valTo_le {s : ByteArray} (hs : s.size ≤ 2) : ∀ k, k ≤ s.size → (∀ q, q < k → digB s q = true) → 0 ≤ valTo s k ∧ valTo s k ≤ 99 ∧ (k < s.size → valTo s k ≤ 9) := by
  intro k hk hd
  have : k = 0 ∨ k = 1 ∨ k = 2 := by omega
  have e : ∀ q, q < k → 48 ≤ byt s q ∧ byt s q ≤ 57 := fun q hq => by
    have := hd q hq
    unfold digB at this
    rwa [decide_eq_true_iff] at this
  rcases this with rfl | rfl | rfl
  · simp [valTo]
  · have e0 := e 0 (by omega)
    simp only [valTo]
    omega
  · have e0 := e 0 (by omega)
    have e1 := e 1 (by omega)
    simp only [valTo]
    omega

def NumOut (s : ByteArray) (e : Ending) : Prop := ∃ (n : Int) (ok : Bool), e = .returned (.tuple #[.int .i64 n, .bool ok]) ∧ (ok = true → numF s = n ∧ numF s ≠ -1) ∧ (ok = false → numF s = -1)
set_option maxRecDepth 100000 in
set_option maxHeartbeats 1000000 in
theorem I_smallNumber (s : ByteArray) (w : World) (hs : s.size ≤ 1048576) :
    Calls Tryd.prog 98 #[.string s] w fun e w' => NumOut s e ∧ w = w' := by
  have hgb := get_byt s
  by_cases h0 : s.size < 1
  · have HN := Lib.hid (numF_empty (w := s) (by omega))
    have hz : (s.size : Int) < 1 := by omega
    clear hgb
    go_enter Tryd.func98, Tryd.ntmps98
    go_wp2
    go_ret2
    exact ⟨⟨0, false, rfl, fun h => Bool.noConfusion h, fun _ => HN.out⟩, rfl⟩
  have hz : ¬ ((s.size : Int) < 1) := by omega
  by_cases h1 : 2 < s.size
  · have HN := Lib.hid (numF_long (w := s) (by omega))
    have hz2 : (s.size : Int) > 2 := by omega
    clear hgb
    go_enter Tryd.func98, Tryd.ntmps98
    go_wp2
    go_ret2
    exact ⟨⟨0, false, rfl, fun h => Bool.noConfusion h, fun _ => HN.out⟩, rfl⟩
  have hz2 : ¬ ((s.size : Int) > 2) := by omega
  have g0 := hgb 0 (by omega)
  have hlen0 : (0 : Int) < (s.size : Int) := by omega
  by_cases hbad : s.size = 2 ∧ byt s 0 = 48
  · have HN := Lib.hid (num_zero hbad.1 hbad.2)
    have hz3 : ((s.size : Int) == 2) = true := by rw [hbad.1]; rfl
    rw [hbad.2] at g0
    clear hgb hbad
    go_enter Tryd.func98, Tryd.ntmps98
    go_wp2
    go_ret2
    exact ⟨⟨0, false, rfl, fun h => Bool.noConfusion h, fun _ => HN.out⟩, rfl⟩
  have main : ∀ q : Bool, ((s.size : Int) == 2) = q → (q = true → ((byt s 0) == 48) = false) → Calls Tryd.prog 98 #[.string s] w fun e w' => NumOut s e ∧ w = w' := by
    intro q hq hq2
    have HGB := Lib.hid hgb
    have HBAD := Lib.hid hbad
    have r0 := byt_le s 0
    have H01 := Lib.hid (show s.size = 1 ∨ s.size = 2 by omega)
    clear hgb hbad
    cases q
    all_goals
      try have hq3 := hq2 rfl
      clear hq2
      obtain ⟨X0, hX0⟩ : ∃ X : Int, byt s 0 = X := ⟨_, rfl⟩
      rw [hX0] at g0
      try rw [hX0] at hq3
      clear r0 hX0
      go_enter Tryd.func98, Tryd.ntmps98
      go_wp2
      go_loopw [4, 26] (fun n i wr => wr = w ∧ ∃ k : Nat, k ≤ s.size ∧ i = .int .i64 k ∧ n = .int .i64 (valTo s k) ∧ ∀ q, q < k → digB s q = true) (fun _ i _ => s.size - (intOf i).toNat)
      case atStart => exact ⟨rfl, 0, Nat.zero_le _, rfl, rfl, fun q h => absurd h (Nat.not_lt_zero _)⟩
      case round =>
        obtain ⟨rfl, k, hk, rfl, rfl, hd⟩ := hrel
        have HD := Lib.hid hd
        obtain ⟨hv0, hv1, hv2⟩ := valTo_le (s := s) (by omega) k hk hd
        clear hd
        by_cases hlt : k < s.size
        · have hv2 := hv2 hlt
          have hk0 : (0 : Int) ≤ (k : Int) := by omega
          have hk1 : (k : Int) < (s.size : Int) := by omega
          have HG := HGB.out k hlt
          have hb := byt_le s k
          have hw : IntKind.i64.wrap ((k : Int) + 1) = (k : Int) + 1 := IntWalk.i64_in _ (by omega)
          obtain ⟨X, hX⟩ : ∃ X : Int, byt s k = X := ⟨_, rfl⟩
          obtain ⟨V, hV⟩ : ∃ V : Int, valTo s k = V := ⟨_, rfl⟩
          have hnx : valTo s (k + 1) = 10 * V + (X - 48) := by rw [valTo, hX, hV]
          rw [hX] at HG hb
          rw [hV] at hv0 hv1 hv2 ⊢
          have HX := Lib.hid hX
          have HV := Lib.hid hV
          have HNX := Lib.hid hnx
          clear hX hV hnx
          by_cases h1 : X < 48
          · have HB := Lib.hid (numF_bad hlt (by unfold digB; rw [HX.out]; simp; omega))
            go_wp2
            go_ret2
            exact ⟨⟨0, false, rfl, fun h => Bool.noConfusion h, fun _ => HB.out⟩, rfl⟩
          by_cases h2 : X > 57
          · have HB := Lib.hid (numF_bad hlt (by unfold digB; rw [HX.out]; simp; omega))
            have h1' : (decide (X < 48)) = false := by simp; omega
            go_wp2
            go_ret2
            exact ⟨⟨0, false, rfl, fun h => Bool.noConfusion h, fun _ => HB.out⟩, rfl⟩
          have h1' : (decide (X < 48)) = false := by simp; omega
          have h2' : (decide (X > 57)) = false := by simp; omega
          have hw1 : IntKind.u8.wrap (X - 48) = X - 48 := by rw [IntKind.wrap_u8]; omega
          have hw2 : IntKind.i64.wrap (X - 48) = X - 48 := IntWalk.i64_in _ (by omega)
          have hw3 : IntKind.i64.wrap (10 * V) = 10 * V := IntWalk.i64_in _ (by omega)
          have hw4 : IntKind.i64.wrap (10 * V + (X - 48)) = 10 * V + (X - 48) := IntWalk.i64_in _ (by omega)
          go_wp2
          go_roundw
          case rel =>
            refine ⟨trivial, k + 1, by omega, by go_num, by rw [HNX.out], fun q hq => ?_⟩
            by_cases e : q = k
            · subst e; unfold digB; rw [HX.out]; simp; omega
            · exact HD.out q (by omega)
          case measure => simp [intOf]; omega
        · obtain rfl : k = s.size := by omega
          have HE := Lib.hid (num_end H01.out (fun h hz => HBAD.out ⟨h, hz⟩) HD.out)
          clear hv0 hv1 hv2
          go_wp2
          go_ret2
          exact ⟨⟨_, true, rfl, fun _ => HE.out, fun h => Bool.noConfusion h⟩, rfl⟩
  by_cases h2 : s.size = 2
  · exact main true (by rw [h2]; rfl) (fun _ => by rw [beq_eq_false_iff_ne]; exact fun h => hbad ⟨h2, h⟩)
  · exact main false (by rw [beq_eq_false_iff_ne]; omega) (fun h => Bool.noConfusion h)
end Go.Proofs.YtpajkejdfalkiaaDoor
