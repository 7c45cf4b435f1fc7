/-
  Walks: the program's placeOf, seenIn, SeenIn. Condition: the argument reads as a program.
-/
import Derived.Test.YtpajkejdfalkiaaDoorImpl13
import Derived.Test.YtpajkejdfalkiaaDoorSpec14
namespace Go.Proofs.YtpajkejdfalkiaaDoor
open Go.RowKit
set_option linter.unusedVariables false

theorem I_placeOf (v : Value) (l : List Int) (lo : Nat) (n : Int) (w : World) (hv : Ints w lo v l) :
    Calls Tryd.prog 90 #[v, .int .i64 n] w fun e w' => e = .returned (.int .i64 (plc l n)) ∧ w = w' := by
  obtain ⟨A, C, g, rfl, hn, hc, hA, hg, hcell, _⟩ := hv.rd
  clear hv
  unfold maxLen at hc
  generalize hR : plc l n = R
  have HR := Lib.hid hR
  clear hR
  go_enter Tryd.func90, Tryd.ntmps90
  go_wp2
  go_loop [9] (fun i => ∃ k : Nat, k ≤ l.length ∧ i = .int .i64 k ∧ ∀ j, j < k → l.getD j 0 ≠ n) (fun i => l.length - (intOf i).toNat)
  case atStart => exact ⟨0, Nat.zero_le _, rfl, fun j hj => absurd hj (Nat.not_lt_zero _)⟩
  case round =>
    obtain ⟨k, hk, rfl, hp⟩ := hrel
    have HP := Lib.hid hp
    clear hp
    by_cases hlt : k < l.length
    · have c1 := hcell k hlt
      obtain rfl := hA (by omega)
      clear hA hcell hg
      generalize hx : l.getD k 0 = x at c1
      have HX := Lib.hid hx
      clear hx
      by_cases hxy : x = n
      · have HE := Lib.hid hxy
        have hb1 : (x == n) = true := by simp [hxy]
        clear hxy
        go_wp2
        go_ret
        exact ⟨ret_int (by rw [← HR.out, plc_at hlt (by rw [HX.out]; exact HE.out) HP.out]), rfl⟩
      · have HE := Lib.hid hxy
        have hb1 : (x == n) = false := by simp [hxy]
        clear hxy
        go_wp2
        go_round
        case rel => exact ⟨k + 1, by omega, by go_num, fun j hj => by
          rcases Nat.lt_succ_iff_lt_or_eq.1 hj with h | rfl
          · exact HP.out j h
          · rw [HX.out]; exact HE.out⟩
        case measure => simp [intOf]; omega
    · go_wp2
      go_ret
      exact ⟨ret_int (by rw [← HR.out, plc_none (fun j hj => HP.out j (by omega))]), rfl⟩


theorem plc_ne (l : List Int) (n : Int) : (plc l n != -1) = hasF l n := by
  rw [← plc_ge]
  have := plc_lt l n
  rw [Bool.eq_iff_iff, decide_eq_true_iff, bne_iff_ne]
  omega
theorem World.ownsRow.setBelow_ {w : World} {lo : Nat} {v : Value} {l : List Int} (h : Ints w lo v l) {a : Addr} (ha : a.block < lo) (u : Value) : Ints (w.setCell a u) lo v l := ownsRow_setCell_below h ha u

end Go.Proofs.YtpajkejdfalkiaaDoor
