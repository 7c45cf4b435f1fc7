/-
  Walks: the reference's functions of the first chapter, second part: statements, and whole programs. Condition: the arguments read as data.
-/
import Derived.Test.YtpajkejdfalkiaaDoorSpec1
namespace Go.Proofs.YtpajkejdfalkiaaDoor
open Go.RowKit

theorem all_getD (l : List Int) : l.all isNm = decide (∀ j, j < l.length → isNm (l.getD j 0) = true) := by
  rw [Bool.eq_iff_iff, List.all_eq_true, decide_eq_true_iff]
  constructor
  · intro h j hj
    have : l.getD j 0 = l[j] := by simp [List.getD, hj]
    rw [this]
    exact h _ (List.getElem_mem hj)
  · intro h x hx
    obtain ⟨j, hj, rfl⟩ := List.getElem_of_mem hx
    have : l.getD j 0 = l[j] := by simp [List.getD, hj]
    rw [← this]
    exact h j hj

set_option maxHeartbeats 2000000 in
theorem S_validStmt (sl : Value) (p : Pr) (lo : Nat) (b : Int) (s : St) (w : World) (hv : Blks w lo sl p) (h0 : 0 ≤ b) (h1 : b < p.length) (hl : p.length < 1000) :
    Calls Tryd.prog 101 #[.agg #[sl], .int .i64 b, s.val] w fun e w' => e = .returned (.bool (stmtS p b s)) ∧ Below w.heap.size w w' := by
  have e : stmtS p b s = (isNm s.to && (s.reads.all isNm && restG (madeS p b) ((p.bk b).kind != 0) ((p.bk b).kind == 1) s)) := stmtG_eq _ _ _ _
  generalize stmtS p b s = R at *
  have hv0 := hv
  obtain ⟨C, g, A2, A3, C2, C3, rfl, hg, c0, c1, c2, c3, hpp, hbb⟩ := Prog.at_ hv b h0 h1
  clear hpp hbb
  have HV := Lib.hid hv0
  have E := Lib.hid e
  clear e hv hv0
  by_cases hto : isNm s.to = true
  · have HTO := Lib.hid hto
    go_enter Tryd.func101, Tryd.ntmps101
    go_wp2_with (go_at_call 73; refine (S_isName _ _).mono ?_; rintro e w' ⟨rfl, rfl⟩; rw [HTO.out])
    refine (S_readsOf s _).mono ?_
    rintro e w1 ⟨rv, rfl, hi1, hb1⟩
    obtain ⟨A, C4, r, rfl, hn, hC4, hA, hr, hcell, _⟩ := hi1.rd
    obtain ⟨hc, _⟩ := bcell hb1
    simp only [World.size_alloc] at hc
    have r0 := fun o => hc w.heap.size o (by omega)
    have r1 := fun o => hc (w.heap.size + 1) o (by omega)
    have r2 := fun o => hc g o (by omega)
    have hB1 := bthen (al2 (w := w)) hb1
    unfold maxLen at hC4
    have hx : ∀ k, k < s.reads.length → A = some ⟨r, 0, none⟩ ∧ w1.cell? ⟨r, k, none⟩ = some (.int .i64 (s.reads.getD k 0)) := fun k hk => ⟨hA (by omega), hcell k hk⟩
    clear hc hi1 hA hcell hr
    have hall : s.reads.all isNm = decide (∀ j, j < s.reads.length → isNm (s.reads.getD j 0) = true) := all_getD _
    generalize s.reads = l at *
    have HX := Lib.hid hx
    have HALL := Lib.hid hall
    clear hx hall
    go_wp2
    go_loop [8] (fun i => ∃ k : Nat, k ≤ l.length ∧ i = .int .i64 k ∧ ∀ j, j < k → isNm (l.getD j 0) = true) (fun i => l.length - (intOf i).toNat)
    case atStart => exact ⟨0, Nat.zero_le _, rfl, fun j hj => absurd hj (Nat.not_lt_zero _)⟩
    case round =>
      obtain ⟨k, hk, rfl, hp⟩ := hrel
      have HP := Lib.hid hp
      clear hp
      by_cases hlt : k < l.length
      · obtain ⟨rfl, c5⟩ := HX.out k hlt
        generalize hxx : l.getD k 0 = x at c5
        have HXX := Lib.hid hxx
        clear hxx
        by_cases hnm : isNm x = true
        · have HN := Lib.hid hnm
          clear hnm
          go_wp2_with (go_at_call 73; refine (S_isName _ _).mono ?_; rintro e w' ⟨rfl, rfl⟩; rw [HN.out])
          go_round
          case rel => exact ⟨k + 1, by omega, by go_num, fun j hj => by
            rcases Nat.lt_succ_iff_lt_or_eq.1 hj with h | rfl
            · exact HP.out j h
            · rw [HXX.out]; exact HN.out⟩
          case measure => simp [intOf]; omega
        · have HN := Lib.hid (Bool.eq_false_iff.2 hnm)
          clear hnm
          go_wp2_with (go_at_call 73; refine (S_isName _ _).mono ?_; rintro e w' ⟨rfl, rfl⟩; rw [HN.out])
          go_ret
          refine ⟨ret_bool ?_, hB1⟩
          rw [E.out, HALL.out, decide_eq_false (fun h => ?_)]
          · simp
          · have h2 := h k hlt
            rw [HXX.out, HN.out] at h2
            cases h2
      · have ha : l.all isNm = true := by
          rw [HALL.out]
          exact decide_eq_true fun j hj => HP.out j (by omega)
        have HA := Lib.hid ha
        have hE : R = restG (madeS p b) ((p.bk b).kind != 0) ((p.bk b).kind == 1) s := by rw [E.out, HTO.out, ha]; rfl
        have HE := Lib.hid hE
        clear ha hE
        have hvw := Lib.hid (HV.out.keep hB1)
        go_wp2_with (first
          | (go_at_call 99; refine (S_inRange _ _ _ _).mono ?_; rintro e w' ⟨rfl, rfl⟩)
          | (go_at_call 73; refine (S_isName _ _).mono ?_; rintro e w' ⟨rfl, rfl⟩)
          | (go_at_call 120; refine (S_madeAs _ p lo b _ _ _ hvw.out h0 (by omega) hl).mono ?_; rintro e w5 ⟨rfl, hb5⟩))
        all_goals
          go_ret
          refine ⟨ret_bool ?_, by first | exact hB1 | exact bthen hB1 (by assumption)⟩
          rw [HE.out]
          clear HE HV HX HALL HP HA hvw hB1 E HTO c0 c1 c2 c3 r0 r1 r2
          simp_all [restG]
  · have HTO := Lib.hid (Bool.eq_false_iff.2 hto)
    go_enter Tryd.func101, Tryd.ntmps101
    go_wp2_with (go_at_call 73; refine (S_isName _ _).mono ?_; rintro e w' ⟨rfl, rfl⟩; rw [HTO.out])
    go_ret
    exact ⟨ret_bool (by rw [E.out, HTO.out]; rfl), al2⟩

end Go.Proofs.YtpajkejdfalkiaaDoor
