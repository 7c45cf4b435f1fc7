/-
  Walks: the program's scopes: isWithin. Condition: the scopes lie in memory as data.
-/
import Derived.Test.YtpajkejdfalkiaaDoorSc1
import Derived.Deep.LoopGhost
namespace Go.Proofs.YtpajkejdfalkiaaDoor
open Go.RowKit
set_option linter.unusedVariables false

theorem inside_step {p : Pr} {b m : Int} (hb : 0 ≤ b) (hm : 0 < m) (hne : m ≠ b) : inside p b (up p m) = inside p b m := by
  have hu := up_lt p m (by omega)
  by_cases h : b < m
  · rw [inside_up h (by omega)]
  · rw [inside_end h, inside_end (by omega), show (m == b) = false by simp [hne], beq_eq_false_iff_ne]
    omega

section
variable (A : Nat → Nat) (p : Pr) (lo : Nat) (i : Nat) (b : Int) (w : World)

theorem I_isWithin (hv : Scopes w lo A p) (hi : i < p.length) (hsh : shape p = true) (hb : 0 ≤ b) :
    Calls Tryd.prog 122 #[.pointer (some ⟨A i, 0, none⟩), .int .i64 b] w fun e w' => e = .returned (.bool (inside p b i)) ∧ w = w' := by
  have HV := Lib.hid hv
  have HSH := Lib.hid hsh
  generalize hR : inside p b i = R
  have HR := Lib.hid hR
  clear hv hsh hR
  go_enter Tryd.func122, Tryd.ntmps122
  go_wp2
  go_loopg [5] (i + 1) (fun k v wr => w = wr ∧ ((∃ m : Nat, k = m + 1 ∧ m ≤ i ∧ v = .pointer (some ⟨A m, 0, none⟩) ∧ inside p b m = R) ∨ (k = 0 ∧ v = .pointer none ∧ R = false)))
  case atStart => exact ⟨rfl, .inl ⟨i, rfl, Nat.le_refl _, rfl, HR.out⟩⟩
  case round =>
    obtain ⟨rfl, ⟨m, rfl, hm, rfl, hp⟩ | ⟨rfl, rfl, hp⟩⟩ := hrel
    · have HP := Lib.hid hp
      obtain ⟨_, hs⟩ := HV.out m (by omega)
      have c0 := hs.c0
      have c2 := hs.c2
      clear hs hp
      by_cases hmb : (m : Int) = b
      · have hb1 : ((m : Int) == b) = true := by simp [hmb]
        have hR2 : R = true := by rw [← HP.out, inside_end (by omega)]; exact hb1
        have HR2 := Lib.hid hR2
        clear hmb hR2
        go_wp2
        go_ret
        exact ⟨ret_bool HR2.out.symm, rfl⟩
      · have hb1 : ((m : Int) == b) = false := by simp [hmb]
        rcases Nat.eq_zero_or_pos m with h0 | h0
        · subst h0
          have hR2 : R = false := by rw [← HP.out, inside_end (by omega)]; exact hb1
          have HR2 := Lib.hid hR2
          have e : outV A p 0 = .pointer none := rfl
          rw [e] at c2
          clear hmb hR2 e
          go_wp2
          go_roundg 0
          case measure => omega
          case rel => exact ⟨rfl, .inr ⟨rfl, rfl, HR2.out⟩⟩
        · have hpar := shape_par HSH.out m (by omega) (by omega)
          have hst := inside_step (p := p) hb (show (0 : Int) < m by omega) hmb
          rw [up_eq HSH.out m (by omega) (by omega)] at hst
          have e : outV A p m = .pointer (some ⟨A (p.bk m).parent.toNat, 0, none⟩) := by unfold outV; rw [if_neg (by omega)]
          rw [e] at c2
          have HST := Lib.hid hst
          have hq : ((p.bk m).parent.toNat : Int) = (p.bk m).parent := Int.toNat_of_nonneg hpar.1
          generalize (p.bk m).parent.toNat = q at *
          generalize (p.bk m).parent = q1 at *
          have HQ := Lib.hid hq
          have hq2 : q < m := by omega
          clear hmb hst e hq hpar
          go_wp2
          go_roundg (q + 1)
          case measure => omega
          case rel => exact ⟨rfl, .inl ⟨q, rfl, by omega, rfl, by rw [HQ.out, HST.out]; exact HP.out⟩⟩
    · have HP := Lib.hid hp
      clear hp
      go_wp2
      go_ret
      exact ⟨ret_bool HP.out.symm, rfl⟩
end

end Go.Proofs.YtpajkejdfalkiaaDoor
