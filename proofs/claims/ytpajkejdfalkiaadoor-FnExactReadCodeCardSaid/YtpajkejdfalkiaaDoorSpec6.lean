/-
  Walks: the reference's ChildrenOf, inside, InsideOf, DepthOf, ReadIn, BoundIn, DeclaredIn. Condition: the argument reads as a program.
-/
import Derived.Test.YtpajkejdfalkiaaDoorSpec5
namespace Go.Proofs.YtpajkejdfalkiaaDoor
open Go.RowKit
set_option linter.unusedVariables false

/-- A box that lies below. -/
theorem boxAt {w w' : World} {o : Obj} {v : Value} (h : Below (w.alloc o).heap.size (w.alloc o) w') (hc : (w.alloc o).cell? ⟨w.heap.size, 0, none⟩ = some v) : w'.cell? ⟨w.heap.size, 0, none⟩ = some v :=
  (h.cell (p := ⟨w.heap.size, 0, none⟩) (by simp)).trans hc

theorem boxAt1 {w w' : World} {v : Value} {t : TypeId} (h : Below (w.alloc (.cells #[v] t)).heap.size (w.alloc (.cells #[v] t)) w') : w'.cell? ⟨w.heap.size, 0, none⟩ = some v :=
  boxAt h (by simp [go_sem])

theorem Ints.one' (w : World) (B : Nat) (hB : w.heap.size = B) (lo : Nat) (a : Int) (hl : lo ≤ B) : Ints (w.alloc (.cells #[.int .i64 a] 3)) lo (.slice (some ⟨B, 0, none⟩) 1 1) [a] := by
  subst hB
  exact Ints.one w lo a hl

theorem S_inside (sl : Value) (p : Pr) (lo : Nat) (b c : Int) (w : World) (hv : Blks w lo sl p) (hs : shape p = true) (hb : 0 ≤ b) (hc : c < p.length) :
    Calls Tryd.prog 106 #[.agg #[sl], .int .i64 c, .int .i64 b] w fun e w' => e = .returned (.bool (inside p b c)) ∧ Below w.heap.size w w' := by
  have hl := shape_len hs
  obtain ⟨g, C, rfl, hg⟩ := hv.formS (by omega)
  have HV := Lib.hid (hv.keep (al1 (o := .cells #[.slice (some ⟨g, 0, none⟩) p.length C] 35)))
  have HS := Lib.hid hs
  clear hv hs
  generalize hR : inside p b c = R
  have HR := Lib.hid hR
  clear hR
  go_enter Tryd.func106, Tryd.ntmps106
  go_wp2
  go_loop [1] (fun i => ∃ k : Int, k ≤ c ∧ i = .int .i64 k ∧ inside p b k = R) (fun i => (intOf i).toNat)
  case atStart => exact ⟨c, Int.le_refl _, rfl, HR.out⟩
  case round =>
    obtain ⟨k, hk, rfl, hp⟩ := hrel
    have HP := Lib.hid hp
    clear hp
    by_cases hlt : b < k
    · obtain ⟨hgr, A2, A3, C2, C3, c0, c1, c2, c3, hps, hbs⟩ := Prog.atg HV.out k (by omega) (by omega)
      have hpar := shape_par HS.out k (by omega) (by omega)
      have hup := up_eq HS.out k (by omega) (by omega)
      have hin := inside_up (p := p) hlt (by omega)
      rw [hup] at hin
      generalize hq : (p.bk k).parent = q at *
      have HIN := Lib.hid hin
      clear c0 c2 c3 hps hbs hin hup hq
      go_wp2
      go_round
      case rel => exact ⟨q, by omega, rfl, by rw [← HIN.out]; exact HP.out⟩
      case measure => simp [intOf]; omega
    · go_wp2
      go_ret
      exact ⟨ret_bool (by rw [← HP.out, inside_end (Int.not_lt.2 hlt)]), al1⟩

end Go.Proofs.YtpajkejdfalkiaaDoor
