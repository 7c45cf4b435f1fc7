/-
  Walks: the program's list of a set of names. No condition.
-/
import Derived.Test.YtiemhadpepbcjaaImpl5
namespace Go.Proofs.Ytiemhadpepbcjaa
open Go.RowKit
set_option linter.unusedVariables false
theorem ix0 (f : Int → Bool) (w : World) : (Instr.index 77 (.agg #[.bool (f 0), .bool (f 1), .bool (f 2), .bool (f 3), .bool (f 4), .bool (f 5), .bool (f 6), .bool (f 7)]) (.int .i64 0)).run Try.prog w = .ok (.bool (f 0)) w := by kernel_rfl
theorem ix1 (f : Int → Bool) (w : World) : (Instr.index 77 (.agg #[.bool (f 0), .bool (f 1), .bool (f 2), .bool (f 3), .bool (f 4), .bool (f 5), .bool (f 6), .bool (f 7)]) (.int .i64 1)).run Try.prog w = .ok (.bool (f 1)) w := by kernel_rfl
theorem ix2 (f : Int → Bool) (w : World) : (Instr.index 77 (.agg #[.bool (f 0), .bool (f 1), .bool (f 2), .bool (f 3), .bool (f 4), .bool (f 5), .bool (f 6), .bool (f 7)]) (.int .i64 2)).run Try.prog w = .ok (.bool (f 2)) w := by kernel_rfl
theorem ix3 (f : Int → Bool) (w : World) : (Instr.index 77 (.agg #[.bool (f 0), .bool (f 1), .bool (f 2), .bool (f 3), .bool (f 4), .bool (f 5), .bool (f 6), .bool (f 7)]) (.int .i64 3)).run Try.prog w = .ok (.bool (f 3)) w := by kernel_rfl
theorem ix4 (f : Int → Bool) (w : World) : (Instr.index 77 (.agg #[.bool (f 0), .bool (f 1), .bool (f 2), .bool (f 3), .bool (f 4), .bool (f 5), .bool (f 6), .bool (f 7)]) (.int .i64 4)).run Try.prog w = .ok (.bool (f 4)) w := by kernel_rfl
theorem ix5 (f : Int → Bool) (w : World) : (Instr.index 77 (.agg #[.bool (f 0), .bool (f 1), .bool (f 2), .bool (f 3), .bool (f 4), .bool (f 5), .bool (f 6), .bool (f 7)]) (.int .i64 5)).run Try.prog w = .ok (.bool (f 5)) w := by kernel_rfl
theorem ix6 (f : Int → Bool) (w : World) : (Instr.index 77 (.agg #[.bool (f 0), .bool (f 1), .bool (f 2), .bool (f 3), .bool (f 4), .bool (f 5), .bool (f 6), .bool (f 7)]) (.int .i64 6)).run Try.prog w = .ok (.bool (f 6)) w := by kernel_rfl
theorem ix7 (f : Int → Bool) (w : World) : (Instr.index 77 (.agg #[.bool (f 0), .bool (f 1), .bool (f 2), .bool (f 3), .bool (f 4), .bool (f 5), .bool (f 6), .bool (f 7)]) (.int .i64 7)).run Try.prog w = .ok (.bool (f 7)) w := by kernel_rfl

theorem ix_set (f : Int → Bool) (k : Nat) (hk : k < 8) (w : World) : (Instr.index 77 (.agg #[.bool (f 0), .bool (f 1), .bool (f 2), .bool (f 3), .bool (f 4), .bool (f 5), .bool (f 6), .bool (f 7)]) (.int .i64 (k : Int))).run Try.prog w = .ok (.bool (f k)) w := by
  rcases (show k = 0 ∨ k = 1 ∨ k = 2 ∨ k = 3 ∨ k = 4 ∨ k = 5 ∨ k = 6 ∨ k = 7 by omega) with rfl | rfl | rfl | rfl | rfl | rfl | rfl | rfl
  · exact ix0 f w
  · exact ix1 f w
  · exact ix2 f w
  · exact ix3 f w
  · exact ix4 f w
  · exact ix5 f w
  · exact ix6 f w
  · exact ix7 f w

set_option maxRecDepth 100000 in
theorem I_list (f : Int → Bool) (w : World) :
    Calls Try.prog 50 #[setV f] w fun e w' => ∃ v', e = .returned v' ∧ Ints w' w.heap.size v' (nms f) ∧ Below w.heap.size w w' := by
  unfold setV
  have hix := fun (k : Nat) (hk : k < 8) => ix_set f k hk
  have HIX := Lib.hid hix
  clear hix
  go_enter Try.func50, Try.ntmps50
  go_wp2
  generalize hW : w.alloc (.cells #[.bool (f 0), .bool (f 1), .bool (f 2), .bool (f 3), .bool (f 4), .bool (f 5), .bool (f 6), .bool (f 7)] 77) = W
  have hb : Below w.heap.size w W := by rw [← hW]; exact al1
  clear hW
  go_loopw [3, 7] (fun o i wr => ∃ k : Nat, k ≤ 8 ∧ i = .int .i64 k ∧ Ints wr w.heap.size o (upto f k) ∧ Below w.heap.size w wr) (fun _ i _ => 8 - (intOf i).toNat)
  case atStart => exact ⟨0, Nat.zero_le _, rfl, Ints.nil _ _, hb⟩
  case round =>
    clear hb
    obtain ⟨k, hk, rfl, hown, hB⟩ := hrel
    have hz := hB.size
    have hlen := upto_len f k
    have HO := Lib.hid hown
    clear hown
    by_cases hlt : k < 8
    · have hix := HIX.out k hlt
      by_cases hfx : f k = true
      · have hs := upto_yes f k hfx
        have HS := Lib.hid hs
        rw [hfx] at hix
        clear hs hfx
        go_wp2_with (at_builtin; refine wpList_append_ints rfl _ _ rfl _ _ _ [(k : Int)] w.heap.size _ rfl rfl ((HO.out).keep al1) (Ints.one' _ _ (by first | rfl | simp only [World.size_alloc]) _ _ (Nat.le_refl _)) (by show _ + 1 ≤ _; omega) (by simp only [World.size_alloc]; omega) ?_; intro v' w9 hown9 hgrow9 hbel9 hfrom9)
        go_roundw
        case rel => exact ⟨k + 1, by omega, by go_num, by rw [HS.out]; exact hown9, (hB.alloc hz _).trans hbel9⟩
        case measure => simp [intOf]; omega
      · have hfx := Bool.eq_false_iff.2 hfx
        have hs := upto_no f k hfx
        have HS := Lib.hid hs
        rw [hfx] at hix
        clear hs hfx
        go_wp2
        go_roundw
        case rel => exact ⟨k + 1, by omega, by go_num, by rw [HS.out]; exact HO.out, hB⟩
        case measure => simp [intOf]; omega
    · obtain rfl : k = 8 := by omega
      go_wp2
      go_ret
      exact ⟨_, rfl, HO.out, hB⟩

end Go.Proofs.Ytiemhadpepbcjaa
