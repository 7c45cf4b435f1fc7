/-
  Walks: the reference's functions of the first chapter, each by what it computes on programs as data. Condition: the arguments read as data, and a block's index is one.
-/
import Derived.Test.YtpajkejdfalkiaaDoorOld
import Derived.StillTailTactics
import Derived.BigQuiet
import Derived.Deep.QuietTactic
namespace Go.Proofs.YtpajkejdfalkiaaDoor
open Go.RowKit

theorem S_inRange (n lo hi : Int) (w : World) :
    Calls Tryd.prog 99 #[.int .i64 n, .int .i64 lo, .int .i64 hi] w fun e w' => e = .returned (.bool (inR n lo hi)) ∧ w = w' := by
  go_enter Tryd.func99, Tryd.ntmps99
  go_wp2
  all_goals
    go_ret
    exact ⟨ret_bool (by simp [inR]; omega), rfl⟩

theorem S_isName (n : Int) (w : World) :
    Calls Tryd.prog 73 #[.int .i64 n] w fun e w' => e = .returned (.bool (isNm n)) ∧ w = w' := by
  go_enter Tryd.func73, Tryd.ntmps73
  go_wp2_with (go_at_call 99; refine (S_inRange _ _ _ _).mono ?_; rintro e w' ⟨rfl, rfl⟩)
  go_ret
  exact ⟨rfl, rfl⟩

theorem S_sets (s : St) (w : World) :
    Calls Tryd.prog 105 #[s.val] w fun e w' => e = .returned (.bool s.sets) ∧ Below w.heap.size w w' := by
  go_enter Tryd.func105, Tryd.ntmps105
  go_wp2_with (go_at_call 99; refine (S_inRange _ _ _ _).mono ?_; rintro e w' ⟨rfl, rfl⟩)
  go_ret
  exact ⟨rfl, al1⟩

theorem S_readsOf (s : St) (w : World) :
    Calls Tryd.prog 103 #[s.val] w fun e w' => ∃ v, e = .returned v ∧ Ints w' w.heap.size v s.reads ∧ Below w.heap.size w w' := by
  go_enter Tryd.func103, Tryd.ntmps103
  go_wp2
  all_goals go_ret
  all_goals refine ⟨_, rfl, ?_, al2⟩
  iterate 4 (rw [show s.reads = [s.a] by simp_all [St.reads]]; exact Ints.lit1 _ _ _)
  · rw [show s.reads = [s.a, s.b] by simp_all [St.reads]]; exact Ints.lit2 _ _ _ _
  · rw [show s.reads = [s.a] by simp_all [St.reads]]; exact Ints.lit1 _ _ _
  · rw [show s.reads = [s.a, s.b] by simp_all [St.reads]]; exact Ints.lit2 _ _ _ _
  · rw [show s.reads = [] by unfold St.reads; simp_all]; exact Ints.lit0 _ _

/-- What the walk knows of block b of a program, in the world w: its cells, and its rows. -/
theorem Prog.at_ {w : World} {lo : Nat} {sl : Value} {p : Pr} (h : Blks w lo sl p) (b : Int) (h0 : 0 ≤ b) (h1 : b < p.length) :
    ∃ (C g : Nat) (A2 A3 : Option Addr) (C2 C3 : Nat), sl = .slice (some ⟨g, 0, none⟩) p.length C ∧ g < w.heap.size ∧ w.cell? ⟨g, b.toNat * 4, none⟩ = some (.int .i64 (p.bk b).kind) ∧ w.cell? ⟨g, b.toNat * 4 + 1, none⟩ = some (.int .i64 (p.bk b).parent) ∧
      w.cell? ⟨g, b.toNat * 4 + 2, none⟩ = some (.slice A2 (p.bk b).params.length C2) ∧ w.cell? ⟨g, b.toNat * 4 + 3, none⟩ = some (.slice A3 (p.bk b).body.length C3) ∧
      Ints w lo (.slice A2 (p.bk b).params.length C2) (p.bk b).params ∧ Stmts w lo (.slice A3 (p.bk b).body.length C3) (p.bk b).body := by
  obtain ⟨A, C, g, hv, hn, hc, hA, hg, hcell, hf⟩ := h.rd
  obtain ⟨pv, bv, c0, c1, c2, c3, hp, hb⟩ := hcell b.toNat (by omega)
  obtain ⟨A2, C2, rfl⟩ := hp.form
  obtain ⟨A3, C3, rfl⟩ := hb.form
  exact ⟨C, g, A2, A3, C2, C3, by rw [hv, hA (by omega)], (hg (by omega)).2, c0, c1, c2, c3, hp, hb⟩

theorem S_madeAs (sl : Value) (p : Pr) (lo : Nat) (b k d : Int) (w : World) (hv : Blks w lo sl p) (hb : 0 ≤ b) (hb1 : b < 1000) (hl : p.length < 1000) :
    Calls Tryd.prog 120 #[.agg #[sl], .int .i64 b, .int .i64 k, .int .i64 d] w fun e w' => e = .returned (.bool (madeS p b k d)) ∧ Below w.heap.size w w' := by
  by_cases h : inR k (b + 1) (p.length - 1) = true
  · obtain ⟨h0, h1⟩ := inR_iff.1 h
    obtain ⟨C, g, _, _, _, _, rfl, hg, c0, c1, _, _, _, _⟩ := Prog.at_ hv k (by omega) (by omega)
    have hm : madeS p b k d = ((p.bk k).kind == d && (p.bk k).parent == b) := by rw [madeS, h, Bool.true_and]
    have HM := Lib.hid hm
    clear hm hv
    go_enter Tryd.func120, Tryd.ntmps120
    go_wp2_with (go_at_call 99; refine (S_inRange _ _ _ _).mono ?_; rintro e w' ⟨rfl, rfl⟩)
    all_goals
      go_ret
      refine ⟨ret_bool ?_, al1⟩
      rw [HM.out]
      simp_all
  · have hm : madeS p b k d = false := by rw [madeS, Bool.not_eq_true] at *; rw [h, Bool.false_and]
    have HM := Lib.hid hm
    obtain ⟨A, C, rfl⟩ := hv.form
    clear hm hv
    go_enter Tryd.func120, Tryd.ntmps120
    go_wp2_with (go_at_call 99; refine (S_inRange _ _ _ _).mono ?_; rintro e w' ⟨rfl, rfl⟩)
    go_ret
    exact ⟨ret_bool HM.out.symm, al1⟩

theorem madeBy_succ (l : List St) (k : Nat) (b : Int) (h : k < l.length) : madeBy (l.take (k + 1)) b = madeBy (l.take k) b + (if ((l.getD k default).makes && (l.getD k default).a == b) = true then 1 else 0) := by
  unfold madeBy
  rw [List.take_succ_eq_append_getElem h, List.countP_append]
  simp [List.getD, h, List.countP_cons]

theorem S_madeIn (sl : Value) (p : Pr) (lo : Nat) (b : Int) (w : World) (hv : Blks w lo sl p) (h0 : 0 ≤ b) (h1 : b < p.length) (h2 : 0 ≤ (p.bk b).parent) (h3 : (p.bk b).parent < p.length) (hl : (p.bk (p.bk b).parent).body.length ≤ 1000) :
    Calls Tryd.prog 102 #[.agg #[sl], .int .i64 b] w fun e w' => e = .returned (.int .i64 (madeIn p b)) ∧ Below w.heap.size w w' := by
  obtain ⟨C, g, _, _, _, _, rfl, hg, _, c1, _, _, _, _⟩ := Prog.at_ hv b h0 h1
  obtain ⟨C', g', _, _, _, _, e, hg', _, _, _, d3, _, hb⟩ := Prog.at_ hv (p.bk b).parent h2 h3
  obtain ⟨rfl, rfl⟩ : g = g' ∧ C = C' := by simpa using e
  obtain ⟨A, D, r, eb, hn, hD, hA, hr, hcell, _⟩ := hb.rd
  rw [eb] at d3
  clear eb
  have hm : madeIn p b = madeBy (p.bk (p.bk b).parent).body b := rfl
  have HM := Lib.hid hm
  generalize (p.bk (p.bk b).parent).body = l at *
  generalize (p.bk b).parent = q at *
  clear hm e hv hb
  go_enter Tryd.func102, Tryd.ntmps102
  go_wp2
  go_quiet (fail)
  go_wp2
  go_loopw [5, 7] (fun t i wr => ∃ k : Nat, k ≤ l.length ∧ i = .int .i64 k ∧ t = .int .i64 (madeBy (l.take k) b) ∧ madeBy (l.take k) b ≤ k ∧ Below w.heap.size w wr) (fun _ i _ => l.length - (intOf i).toNat)
  case atStart => exact ⟨0, Nat.zero_le _, rfl, rfl, Nat.le_refl _, below_drewN al1 _⟩
  case round =>
    obtain ⟨k, hk, rfl, rfl, hle, hB⟩ := hrel
    by_cases hlt : k < l.length
    · obtain ⟨d0, d1, d2, d4⟩ := hcell k hlt
      have hrl := (hr (by omega)).2
      rw [← hB.cell (p := ⟨r, _, none⟩) hrl] at d0 d1 d2 d4
      obtain rfl := hA (by omega)
      have hs := madeBy_succ l k b hlt
      clear hA hcell hr
      generalize l.getD k default = x at *
      have HS := Lib.hid hs
      clear hs
      go_wp2
      all_goals
        go_roundw
        case rel => exact ⟨k + 1, by omega, by go_num, by rw [HS.out]; first | rw [if_pos (by simp_all [St.makes])]; go_num | rw [if_neg (by simp_all [St.makes])]; go_num, by rw [HS.out]; split <;> omega, hB⟩
        case measure => simp [intOf]; omega
    · obtain rfl : k = l.length := by omega
      go_wp2
      go_ret
      exact ⟨ret_int (by rw [HM.out, List.take_length]), hB⟩

theorem S_validBlock (sl : Value) (p : Pr) (lo : Nat) (b : Int) (w : World) (hv : Blks w lo sl p) (h0 : 0 ≤ b) (h1 : b < p.length) (hl : p.length < 1000) :
    Calls Tryd.prog 100 #[.agg #[sl], .int .i64 b] w fun e w' => e = .returned (.bool (headOk b (p.bk b))) ∧ Below w.heap.size w w' := by
  obtain ⟨C, g, A2, A3, C2, C3, rfl, hg, c0, c1, c2, c3, hp, _⟩ := Prog.at_ hv b h0 h1
  obtain ⟨A, D, r, eb, hn, hD, hA, hr, hcell, _⟩ := hp.rd
  rw [eb] at c2
  generalize hk : p.bk b = k at *
  obtain ⟨K, Pa, ps, bs⟩ := k
  simp only at c0 c1 c2 c3 hn hA hr hcell
  clear hv hp hk eb
  unfold maxLen at hD
  have e : headOk b ⟨K, Pa, ps, bs⟩ = if b = 0 then (K == 0 && (Pa == -1 && (ps.length : Int) == 0)) else (inR Pa 0 (b - 1) && (inR K 1 2 && ((ps.length : Int) == 0 || (ps.length : Int) == 1 && (K == 1 && isNm (ps.getD 0 0))))) := rfl
  have hx : 0 < ps.length → A = some ⟨r, 0, none⟩ ∧ w.cell? ⟨r, 0, none⟩ = some (.int .i64 (ps.getD 0 0)) ∧ r < w.heap.size := fun h => ⟨hA h, hcell 0 h, (hr h).2⟩
  generalize ps.getD 0 0 = x at *
  generalize headOk b ⟨K, Pa, ps, bs⟩ = R at *
  have E := Lib.hid e
  clear e hA hcell hr
  by_cases hb : b = 0
  · have hb0 : (b == 0) = true := by simp [hb]
    have HB := Lib.hid hb
    clear hb hx
    go_enter Tryd.func100, Tryd.ntmps100
    go_wp2
    all_goals
      go_ret
      refine ⟨ret_bool ?_, al2⟩
      rw [E.out, if_pos HB.out]
      simp_all
  · have hb0 : (b == 0) = false := by simp [hb]
    have HB := Lib.hid hb
    clear hb
    rcases Nat.lt_or_ge 0 ps.length with hps | hps
    · obtain ⟨rfl, c5, hr⟩ := hx hps
      clear hx
      go_enter Tryd.func100, Tryd.ntmps100
      go_wp2_with (first | (go_at_call 99; refine (S_inRange _ _ _ _).mono ?_; rintro e w' ⟨rfl, rfl⟩) | (go_at_call 73; refine (S_isName _ _).mono ?_; rintro e w' ⟨rfl, rfl⟩))
      all_goals
        go_ret
        refine ⟨ret_bool ?_, al2⟩
        rw [E.out, if_neg HB.out]
        simp_all
    · clear hx
      go_enter Tryd.func100, Tryd.ntmps100
      go_wp2_with (first | (go_at_call 99; refine (S_inRange _ _ _ _).mono ?_; rintro e w' ⟨rfl, rfl⟩) | (go_at_call 73; refine (S_isName _ _).mono ?_; rintro e w' ⟨rfl, rfl⟩))
      all_goals
        go_ret
        refine ⟨ret_bool ?_, al2⟩
        rw [E.out, if_neg HB.out]
        simp_all

end Go.Proofs.YtpajkejdfalkiaaDoor
