/-
  Walks: the program's reader of lines and words, codeOf, hasArg, smallNumber. Conditions: the table of words holds the words, internal/bytealg's variable holds a number, the texts are at most 2^20 bytes long.
-/
import Derived.Test.YtpajkejdfalkiaaDoorRcQ
import Derived.Test.YtpajkejdfalkiaaDoorShelf
import Derived.WalkSmall
import Derived.Deep.MidRow
namespace Go.Proofs.YtpajkejdfalkiaaDoor
open Go.RowKit
set_option linter.unusedVariables false

abbrev badX : Ending := .panicked [{ v := .iface 91 (.agg #[]), recovered := false }]
abbrev tabV : Value := .agg #[.string (opWd 0), .string (opWd 1), .string (opWd 2), .string (opWd 3), .string (opWd 4), .string (opWd 5), .string (opWd 6), .string (opWd 7), .string (opWd 8), .string (opWd 9), .string (opWd 10), .string (opWd 11), .string (opWd 12), .string (opWd 13), .string (opWd 14), .string (opWd 15), .string (opWd 16), .string (opWd 17), .string (opWd 18), .string (opWd 19), .string (opWd 20)]
def tabL : List Value := [.string (opWd 0), .string (opWd 1), .string (opWd 2), .string (opWd 3), .string (opWd 4), .string (opWd 5), .string (opWd 6), .string (opWd 7), .string (opWd 8), .string (opWd 9), .string (opWd 10), .string (opWd 11), .string (opWd 12), .string (opWd 13), .string (opWd 14), .string (opWd 15), .string (opWd 16), .string (opWd 17), .string (opWd 18), .string (opWd 19), .string (opWd 20)]
theorem tab_range (w : World) (hT : ∀ k, k < 21 → w.cell? ⟨2, k, none⟩ = some (.string (opWd k))) : w.rangeAt 2 0 tabL := by
  intro j v hv
  have hj : j < 21 := (List.getElem?_eq_some_iff.1 hv).1
  rw [Nat.zero_add, hT j hj, ← hv]
  match j, hj with
  | 0, _ => rfl
  | 1, _ => rfl
  | 2, _ => rfl
  | 3, _ => rfl
  | 4, _ => rfl
  | 5, _ => rfl
  | 6, _ => rfl
  | 7, _ => rfl
  | 8, _ => rfl
  | 9, _ => rfl
  | 10, _ => rfl
  | 11, _ => rfl
  | 12, _ => rfl
  | 13, _ => rfl
  | 14, _ => rfl
  | 15, _ => rfl
  | 16, _ => rfl
  | 17, _ => rfl
  | 18, _ => rfl
  | 19, _ => rfl
  | 20, _ => rfl
  | j + 21, h => exact absurd h (by omega)
theorem wpList_tab {w : World} {ops : Array Oper} {rest : List Oper} {o : Oper} {a : Act} {Q : Exit → Act → World → Prop} (hgd : o.guard = none) (ho : o.op = .load 112 (.global 2)) (T : Value) (hT : T = tabV) (hr : w.rangeAt 2 0 tabL)
    (h : wpList Tryd.prog ops Q rest (a.put o.dst T) w) : wpList Tryd.prog ops Q (o :: rest) a w := by
  subst hT
  exact wpList_load_mid hgd _ _ ho 2 0 rfl tabL (.array 21 9) hr (by kernel_rfl) rfl (by kernel_rfl) h
theorem tab_i0 (w : World) : (Instr.index 112 tabV (.int .i64 0)).run Tryd.prog w = .ok (.string (opWd 0)) w := by kernel_rfl
theorem tab_i1 (w : World) : (Instr.index 112 tabV (.int .i64 1)).run Tryd.prog w = .ok (.string (opWd 1)) w := by kernel_rfl
theorem tab_i2 (w : World) : (Instr.index 112 tabV (.int .i64 2)).run Tryd.prog w = .ok (.string (opWd 2)) w := by kernel_rfl
theorem tab_i3 (w : World) : (Instr.index 112 tabV (.int .i64 3)).run Tryd.prog w = .ok (.string (opWd 3)) w := by kernel_rfl
theorem tab_i4 (w : World) : (Instr.index 112 tabV (.int .i64 4)).run Tryd.prog w = .ok (.string (opWd 4)) w := by kernel_rfl
theorem tab_i5 (w : World) : (Instr.index 112 tabV (.int .i64 5)).run Tryd.prog w = .ok (.string (opWd 5)) w := by kernel_rfl
theorem tab_i6 (w : World) : (Instr.index 112 tabV (.int .i64 6)).run Tryd.prog w = .ok (.string (opWd 6)) w := by kernel_rfl
theorem tab_i7 (w : World) : (Instr.index 112 tabV (.int .i64 7)).run Tryd.prog w = .ok (.string (opWd 7)) w := by kernel_rfl
theorem tab_i8 (w : World) : (Instr.index 112 tabV (.int .i64 8)).run Tryd.prog w = .ok (.string (opWd 8)) w := by kernel_rfl
theorem tab_i9 (w : World) : (Instr.index 112 tabV (.int .i64 9)).run Tryd.prog w = .ok (.string (opWd 9)) w := by kernel_rfl
theorem tab_i10 (w : World) : (Instr.index 112 tabV (.int .i64 10)).run Tryd.prog w = .ok (.string (opWd 10)) w := by kernel_rfl
theorem tab_i11 (w : World) : (Instr.index 112 tabV (.int .i64 11)).run Tryd.prog w = .ok (.string (opWd 11)) w := by kernel_rfl
theorem tab_i12 (w : World) : (Instr.index 112 tabV (.int .i64 12)).run Tryd.prog w = .ok (.string (opWd 12)) w := by kernel_rfl
theorem tab_i13 (w : World) : (Instr.index 112 tabV (.int .i64 13)).run Tryd.prog w = .ok (.string (opWd 13)) w := by kernel_rfl
theorem tab_i14 (w : World) : (Instr.index 112 tabV (.int .i64 14)).run Tryd.prog w = .ok (.string (opWd 14)) w := by kernel_rfl
theorem tab_i15 (w : World) : (Instr.index 112 tabV (.int .i64 15)).run Tryd.prog w = .ok (.string (opWd 15)) w := by kernel_rfl
theorem tab_i16 (w : World) : (Instr.index 112 tabV (.int .i64 16)).run Tryd.prog w = .ok (.string (opWd 16)) w := by kernel_rfl
theorem tab_i17 (w : World) : (Instr.index 112 tabV (.int .i64 17)).run Tryd.prog w = .ok (.string (opWd 17)) w := by kernel_rfl
theorem tab_i18 (w : World) : (Instr.index 112 tabV (.int .i64 18)).run Tryd.prog w = .ok (.string (opWd 18)) w := by kernel_rfl
theorem tab_i19 (w : World) : (Instr.index 112 tabV (.int .i64 19)).run Tryd.prog w = .ok (.string (opWd 19)) w := by kernel_rfl
theorem tab_i20 (w : World) : (Instr.index 112 tabV (.int .i64 20)).run Tryd.prog w = .ok (.string (opWd 20)) w := by kernel_rfl
theorem tab_index (k : Nat) (hk : k < 21) (w : World) : (Instr.index 112 tabV (.int .i64 k)).run Tryd.prog w = .ok (.string (opWd k)) w := by
  match k, hk with
  | 0, _ => exact tab_i0 w
  | 1, _ => exact tab_i1 w
  | 2, _ => exact tab_i2 w
  | 3, _ => exact tab_i3 w
  | 4, _ => exact tab_i4 w
  | 5, _ => exact tab_i5 w
  | 6, _ => exact tab_i6 w
  | 7, _ => exact tab_i7 w
  | 8, _ => exact tab_i8 w
  | 9, _ => exact tab_i9 w
  | 10, _ => exact tab_i10 w
  | 11, _ => exact tab_i11 w
  | 12, _ => exact tab_i12 w
  | 13, _ => exact tab_i13 w
  | 14, _ => exact tab_i14 w
  | 15, _ => exact tab_i15 w
  | 16, _ => exact tab_i16 w
  | 17, _ => exact tab_i17 w
  | 18, _ => exact tab_i18 w
  | 19, _ => exact tab_i19 w
  | 20, _ => exact tab_i20 w
  | k + 21, h => exact absurd h (by omega)
set_option maxRecDepth 100000 in
theorem I_hasArg (c : Int) (w : World) :
    Calls Tryd.prog 65 #[.int .i64 c] w fun e w' => e = .returned (.bool (argB c)) ∧ w = w' := by
  by_cases h0 : c = 0
  · subst h0
    go_enter Tryd.func65, Tryd.ntmps65
    go_wp2
    go_ret
    exact ⟨rfl, rfl⟩
  by_cases h1 : c = 14
  · subst h1
    go_enter Tryd.func65, Tryd.ntmps65
    go_wp2
    go_ret
    exact ⟨rfl, rfl⟩
  by_cases h2 : c = 19
  · subst h2
    go_enter Tryd.func65, Tryd.ntmps65
    go_wp2
    go_ret
    exact ⟨rfl, rfl⟩
  have b0 : (c != 0) = true := by simp [h0]
  have b1 : (c != 14) = true := by simp [h1]
  have b2 : (c != 19) = true := by simp [h2]
  by_cases h3 : c = 20
  · subst h3
    go_enter Tryd.func65, Tryd.ntmps65
    go_wp2
    go_ret
    exact ⟨rfl, rfl⟩
  have b3 : (c != 20) = true := by simp [h3]
  have HB := Lib.hid (show true = argB c by unfold argB; simp [h0, h1, h2, h3])
  clear h0 h1 h2 h3
  go_enter Tryd.func65, Tryd.ntmps65
  go_wp2
  go_ret
  exact ⟨ret_bool HB.out, rfl⟩

set_option maxRecDepth 100000 in
set_option maxHeartbeats 1000000 in
theorem I_codeOf (s : ByteArray) (w : World) (hT : ∀ k, k < 21 → w.cell? ⟨2, k, none⟩ = some (.string (opWd k))) :
    Calls Tryd.prog 63 #[.string s] w fun e w' => e = .returned (.int .i64 (codeF s)) ∧ w = w' := by
  have hX := tab_index
  have HR := Lib.hid (tab_range w hT)
  obtain ⟨T, hTV⟩ : ∃ T, T = tabV := ⟨_, rfl⟩
  rw [← hTV] at hX
  have HTV := Lib.hid hTV
  have TX := Lib.hid hX
  clear hX hTV hT
  go_enter Tryd.func63, Tryd.ntmps63
  go_wp2_with (refine wpList_tab rfl rfl T HTV.out HR.out ?_)
  go_loopw [6] (fun i wr => wr = w ∧ ∃ k : Nat, k ≤ 21 ∧ i = .int .i64 k ∧ (∀ j, j < k → wdEq s j = false)) (fun i _ => 21 - (intOf i).toNat)
  case atStart => exact ⟨rfl, 0, Nat.zero_le _, rfl, fun j hj => absurd hj (Nat.not_lt_zero _)⟩
  case round =>
    obtain ⟨rfl, k, hk, rfl, hp⟩ := hrel
    have HP := Lib.hid hp
    clear hp
    by_cases hlt : k < 21
    · have xk := TX.out k hlt
      have hx : ((opWd k).toList == s.toList) = wdEq s k := rfl
      have hk0 : (0 : Int) ≤ (k : Int) := by omega
      have hk1 : (k : Int) < 21 := by omega
      have hw : IntKind.i64.wrap ((k : Int) + 1) = (k : Int) + 1 := IntWalk.i64_in _ (by omega)
      cases hq : wdEq s k
      · rw [hq] at hx
        have HQ := Lib.hid hq
        clear hq
        go_wp2
        go_roundw
        case rel =>
          refine ⟨trivial, k + 1, by omega, by go_num, ?_⟩
          intro j hj
          rcases Nat.lt_succ_iff_lt_or_eq.1 hj with h3 | rfl
          · exact HP.out j h3
          · exact HQ.out
        case measure => simp [intOf]; omega
      · rw [hq] at hx
        have HC := Lib.hid (codeF_first hq hlt HP.out)
        clear hq
        go_wp2
        go_ret
        exact ⟨ret_int HC.out.symm, rfl⟩
    · obtain rfl : k = 21 := by omega
      have HC := Lib.hid (codeF_none HP.out)
      go_wp2
      go_ret
      exact ⟨ret_int HC.out.symm, rfl⟩
end Go.Proofs.YtpajkejdfalkiaaDoor
