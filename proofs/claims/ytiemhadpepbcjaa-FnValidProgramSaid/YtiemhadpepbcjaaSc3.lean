/-
  Walks: the program's iterator over the functions outside of a block. Condition: the scopes lie in memory as data.
-/
import Derived.Test.YtiemhadpepbcjaaSc2
import Derived.RangeFuncNested
import Derived.RangeFuncBound
import Derived.RangeFuncCalls
import Derived.RangeFuncLeaves
import Derived.RangeFuncFrom
import Derived.Shelf.Abstract
import Derived.Shelf.RegionOpen
import Derived.WalkKit
import Derived.OwnWalkIn
import Derived.TacticsInMore
import Derived.LoopNIn
import Derived.LoopIn
import Derived.Sort.LoopGhostIn
import Derived.Sort.QuietIn
namespace Go.Proofs.Ytiemhadpepbcjaa
open Go.RowKit
set_option linter.unusedVariables false

open Go.Shelf
attribute [local go_sem] Oper.semAt_some

/-- The functions from k outward, the nearest first. -/
def funs (p : Pr) (k : Int) : List Nat := if 0 ≤ k then (if (p.bk k).kind = 1 then k.toNat :: funs p (up p k) else funs p (up p k)) else []
termination_by (k + 1).toNat
decreasing_by
  all_goals
    rename_i h
    have h1 := up_lt p k (by omega)
    have h2 := up_ge p k
    omega
theorem funs_neg {p : Pr} {k : Int} (h : ¬ 0 ≤ k) : funs p k = [] := by rw [funs, if_neg h]
theorem funs_yes {p : Pr} {k : Int} (h : 0 ≤ k) (hk : (p.bk k).kind = 1) : funs p k = k.toNat :: funs p (up p k) := by rw [funs, if_pos h, if_pos hk]
theorem funs_no {p : Pr} {k : Int} (h : 0 ≤ k) (hk : (p.bk k).kind ≠ 1) : funs p k = funs p (up p k) := by rw [funs, if_pos h, if_neg hk]

/-- The first of a list that tells of a name: -1 if it declares it global, itself if it is a local one. -/
def firstOwn (p : Pr) (x : Int) : List Nat → Int
  | [] => -1
  | k :: l => if (p.bk k).declB 9 x then -1 else if locP p k x then k else firstOwn p x l

theorem outerK_funs {p : Pr} (hs : shape p = true) (x : Int) (n : Nat) : ∀ k : Int, k ≤ n → outerK p x k = firstOwn p x (funs p k) := by
  have zero : ∀ k : Int, k ≤ 0 → outerK p x k = firstOwn p x (funs p k) := fun k hk => by
    rw [outerK_end (by omega)]
    by_cases h : 0 ≤ k
    · obtain rfl : k = 0 := by omega
      have h1 := up_lt p 0 (by omega)
      rw [funs_no (by omega) (by rw [(shape_par0 hs).2.1]; omega), funs_neg (by omega)]
      rfl
    · rw [funs_neg h]
      rfl
  induction n with
  | zero => exact fun k hk => zero k (by omega)
  | succ n ih =>
    intro k hk
    by_cases h : 0 < k
    · have hu := up_lt p k (by omega)
      have ihk := ih (up p k) (by omega)
      by_cases h1 : (p.bk k).kind = 1
      · rw [funs_yes (by omega) h1]
        unfold firstOwn
        have ek : ((k.toNat : Nat) : Int) = k := Int.toNat_of_nonneg (by omega)
        rw [ek]
        have hl : locP p k x = (p.bk k).locB x := by unfold locP; rw [decide_eq_true h, Bool.true_and]
        rw [hl]
        cases h2 : (p.bk k).declB 9 x with
        | true => rw [outerK_glob h h1 h2, if_pos rfl]
        | false =>
          rw [if_neg (by simp)]
          cases h3 : (p.bk k).locB x with
          | true => rw [outerK_loc h h1 h2 h3, if_pos rfl]
          | false => rw [outerK_up h h1 h2 h3, if_neg (by simp), ihk]
      · rw [outerK_skip h h1, funs_no (by omega) h1, ihk]
    · exact zero k (by omega)

theorem firstOwn_skip (p : Pr) (x : Int) : ∀ (l m : List Nat), (∀ k ∈ l, (p.bk k).declB 9 x = false ∧ locP p k x = false) → firstOwn p x (l ++ m) = firstOwn p x m
  | [], m, _ => rfl
  | k :: l, m, h => by
    obtain ⟨h1, h2⟩ := h k (by simp)
    rw [List.cons_append, firstOwn, h1, h2]
    simp only [Bool.false_eq_true, if_false]
    exact firstOwn_skip p x l m fun y hy => h y (by simp [hy])

/-- The scopes lie below a block. -/
def ScopesIn (n₀ : Nat) (w : World) (A : Nat → Nat) (p : Pr) : Prop := ∀ i : Nat, i < p.length → A i < n₀ ∧ ScopeAt w (A i) (p.bk i) i (outV A p i) (p.bk i).params.contains
theorem ScopesIn.below {n₀ : Nat} {w w' : World} {A : Nat → Nat} {p : Pr} (h : ScopesIn n₀ w A p) (hb : Below n₀ w w') : ScopesIn n₀ w' A p :=
  fun i hi => ⟨(h i hi).1, (h i hi).2.below hb (h i hi).1⟩
theorem Scopes.inn {w : World} {lo : Nat} {A : Nat → Nat} {p : Pr} (h : Scopes w lo A p) : ScopesIn w.heap.size w A p := fun i hi => ⟨World.rowIs.lt (h i hi).2, (h i hi).2⟩
theorem ScopesIn.out {n₀ : Nat} {w : World} {A : Nat → Nat} {p : Pr} (h : ScopesIn n₀ w A p) : Scopes w 0 A p := fun i hi => ⟨Nat.zero_le _, (h i hi).2⟩

set_option maxRecDepth 100000 in
set_option maxHeartbeats 1000000 in
theorem it_in (F : Fence) (n : Nat) (hF : F.fn 116) (hro : F.round = none) (hn : 1 ≤ n) (l Bn n₀ : Nat) (A : Nat → Nat) (p : Pr) (i : Nat) (hi : i < p.length) (hsh : shape p = true) (J Jx : List (Fin p.length) → World → Prop)
    (hY : ∀ (pre : List (Fin p.length)) (x : Fin p.length) W, J pre W → pre.length < (funs p (up p i)).length → YieldAt F (n - 1) Try.prog l #[.pointer (some ⟨A x.val, 0, none⟩)] W fun e W' =>
      (e = .returned (.bool true) ∧ J (pre ++ [x]) W' ∧ Below n₀ W W') ∨ (e = .returned (.bool false) ∧ Jx (pre ++ [x]) W'))
    (W : World) (hBn : W.cell? ⟨Bn, 0, none⟩ = some (.pointer (some ⟨A i, 0, none⟩))) (hS : ScopesIn n₀ W A p) (h0 : J [] W) :
    CallsIn F n Try.prog 116 #[.func (.yield l) #[] #[], .pointer (some ⟨Bn, 0, none⟩)] W fun e W' => (∃ v, e = .returned v) ∧
      ((∃ ys : List (Fin p.length), ys.map Fin.val = funs p (up p i) ∧ J ys W') ∨ (∃ pre : List (Fin p.length), pre.map Fin.val <+: funs p (up p i) ∧ Jx pre W')) := by
  have hl := shape_len hsh
  have HSH := Lib.hid hsh
  have HS := Lib.hid hS
  have c2 := (hS i hi).2.c2
  have hux : up p i = if i = 0 then -1 else (p.bk i).parent := by
    rw [up_eq hsh i (by omega) (by omega)]
    split
    · rename_i e; subst e; exact (shape_par0 hsh).1
    · rfl
  generalize hxs : funs p (up p i) = xs at *
  have HXS := Lib.hid hxs
  have HUX := Lib.hid hux
  clear hsh hS hxs hux
  have key : ∀ (v0 : Value) (n0 : Nat), outV A p i = v0 → ((∃ m : Nat, n0 = m + 1 ∧ m < p.length ∧ v0 = .pointer (some ⟨A m, 0, none⟩) ∧ xs = funs p m) ∨ (n0 = 0 ∧ v0 = .pointer none ∧ xs = [])) →
      CallsIn F n Try.prog 116 #[.func (.yield l) #[] #[], .pointer (some ⟨Bn, 0, none⟩)] W fun e W' => (∃ v, e = .returned v) ∧ ((∃ ys : List (Fin p.length), ys.map Fin.val = xs ∧ J ys W') ∨ (∃ pre : List (Fin p.length), pre.map Fin.val <+: xs ∧ Jx pre W')) := fun v0 n0 hv0 hstart => by
    rw [hv0] at c2
    have HST := Lib.hid hstart
    have hcases : (∃ a, v0 = .pointer a) := by
      rcases hstart with ⟨m, _, _, rfl, _⟩ | ⟨_, rfl, _⟩
      · exact ⟨_, rfl⟩
      · exact ⟨_, rfl⟩
    obtain ⟨a0, rfl⟩ := hcases
    clear hstart hv0
    refine callsIn_of_wp Try.func116 rfl hF ?_ hro
    simp only [Try.ntmps116, List.size_toArray, List.length_cons, List.length_nil, Nat.reduceAdd, Nat.reduceSub, Array.replicate_succ, Array.replicate_zero, List.push_toArray, List.append_toArray, List.nil_append, List.cons_append]
    gi_wp2
    gi_loopg [3] n0 (fun k v wr => ScopesIn n₀ wr A p ∧ ∃ pre : List (Fin p.length), J pre wr ∧ ((∃ m : Nat, k = m + 1 ∧ m < p.length ∧ v = .pointer (some ⟨A m, 0, none⟩) ∧ xs = pre.map Fin.val ++ funs p m) ∨ (k = 0 ∧ v = .pointer none ∧ xs = pre.map Fin.val)))
    case atStart => exact ⟨HS.out, [], h0, by simpa using HST.out⟩
    case round =>
      obtain ⟨hSr, pre, hJ, ⟨m, rfl, hm, rfl, hx⟩ | ⟨rfl, rfl, hx⟩⟩ := hrel
      · have HX := Lib.hid hx
        have HSR := Lib.hid hSr
        have c1 := (hSr m hm).2.c1
        have d2 := (hSr m hm).2.c2
        have hgl := World.rowIs.lt (hSr m hm).2
        clear hx hSr c2
        by_cases hk : (p.bk m).kind = 1
        · have hb1 : ((p.bk m).kind == 1) = true := by simp [hk]
          have hf := funs_yes (p := p) (k := (m : Int)) (by omega) hk
          rw [Int.toNat_natCast] at hf
          have hx2 : xs = (pre ++ [(⟨m, hm⟩ : Fin p.length)]).map Fin.val ++ funs p (up p m) := by rw [HX.out, hf]; simp
          have hlen : pre.length < xs.length := by have := congrArg List.length hx2; simp at this; omega
          have HX2 := Lib.hid hx2
          obtain ⟨fn, tmps, assign, body, hy, hR⟩ := hY pre ⟨m, hm⟩ wr hJ hlen
          clear hk hf hx2 hlen
          gi_wp2
          refine hR.mono ?_
          rintro e W3 (⟨rfl, hJ3, hk3⟩ | ⟨rfl, hJx3⟩)
          · have hS3 := HSR.out.below hk3
            have d3 := (hS3 m hm).2.c2
            have hgl3 := World.rowIs.lt (hS3 m hm).2
            have HS3 := Lib.hid hS3
            clear hS3 d2 c1 hgl
            rcases Nat.eq_zero_or_pos m with hz | hz
            · have e : outV A p m = .pointer none := by unfold outV; rw [if_pos hz]
              rw [e] at d3
              have h1 := up_lt p (m : Int) (by omega)
              have hx3 : xs = (pre ++ [(⟨m, hm⟩ : Fin p.length)]).map Fin.val := by rw [HX2.out, funs_neg (by omega)]; simp
              have HX3 := Lib.hid hx3
              clear e hx3 hz h1
              gi_wp2
              gi_roundg 0
              case measure => omega
              case rel => exact ⟨HS3.out, pre ++ [⟨m, hm⟩], hJ3, .inr ⟨rfl, rfl, HX3.out⟩⟩
            · have hpar := shape_par HSH.out m (by omega) (by omega)
              have e : outV A p m = .pointer (some ⟨A (p.bk m).parent.toNat, 0, none⟩) := by unfold outV; rw [if_neg (by omega)]
              rw [e] at d3
              have hq : ((p.bk m).parent.toNat : Int) = (p.bk m).parent := Int.toNat_of_nonneg hpar.1
              have hup := up_eq HSH.out m (by omega) (by omega)
              generalize (p.bk m).parent.toNat = q at *
              have hx3 : xs = (pre ++ [(⟨m, hm⟩ : Fin p.length)]).map Fin.val ++ funs p q := by rw [HX2.out, hup, hq]
              have HX3 := Lib.hid hx3
              have hq2 : q < m := by omega
              clear e hx3 hq hup hpar
              gi_wp2
              gi_roundg (q + 1)
              case measure => omega
              case rel => exact ⟨HS3.out, pre ++ [⟨m, hm⟩], hJ3, .inl ⟨q, rfl, by omega, rfl, HX3.out⟩⟩
          · have hpf : (pre ++ [(⟨m, hm⟩ : Fin p.length)]).map Fin.val <+: xs := ⟨funs p (up p m), HX2.out.symm⟩
            have HPF := Lib.hid hpf
            clear hpf
            gi_wp2
            refine bodyPost_ret (results_none rfl _ _ _) rfl ?_
            exact ⟨⟨_, rfl⟩, .inr ⟨pre ++ [⟨m, hm⟩], HPF.out, hJx3⟩⟩
        · have hb1 : ((p.bk m).kind == 1) = false := by simp [hk]
          have hf := funs_no (p := p) (k := (m : Int)) (by omega) hk
          have hx2 : xs = pre.map Fin.val ++ funs p (up p m) := by rw [HX.out, hf]
          have HX2 := Lib.hid hx2
          clear hk hf hx2
          rcases Nat.eq_zero_or_pos m with hz | hz
          · have e : outV A p m = .pointer none := by unfold outV; rw [if_pos hz]
            rw [e] at d2
            have h1 := up_lt p (m : Int) (by omega)
            have hx3 : xs = pre.map Fin.val := by rw [HX2.out, funs_neg (by omega)]; simp
            have HX3 := Lib.hid hx3
            clear e hx3 hz h1
            gi_wp2
            refine ⟨fun _ h => (by cases h), ?_⟩
            gi_wp2
            gi_roundg 0
            case measure => omega
            case rel => exact ⟨HSR.out, pre, hJ, .inr ⟨rfl, rfl, HX3.out⟩⟩
          · have hpar := shape_par HSH.out m (by omega) (by omega)
            have e : outV A p m = .pointer (some ⟨A (p.bk m).parent.toNat, 0, none⟩) := by unfold outV; rw [if_neg (by omega)]
            rw [e] at d2
            have hq : ((p.bk m).parent.toNat : Int) = (p.bk m).parent := Int.toNat_of_nonneg hpar.1
            have hup := up_eq HSH.out m (by omega) (by omega)
            generalize (p.bk m).parent.toNat = q at *
            have hx3 : xs = pre.map Fin.val ++ funs p q := by rw [HX2.out, hup, hq]
            have HX3 := Lib.hid hx3
            have hq2 : q < m := by omega
            clear e hx3 hq hup hpar
            gi_wp2
            refine ⟨fun _ h => (by cases h), ?_⟩
            gi_wp2
            gi_roundg (q + 1)
            case measure => omega
            case rel => exact ⟨HSR.out, pre, hJ, .inl ⟨q, rfl, by omega, rfl, HX3.out⟩⟩
      · have HX := Lib.hid hx
        clear hx c2
        gi_wp2
        go_end0
        exact ⟨⟨_, rfl⟩, .inl ⟨pre, HX.out.symm, hJ⟩⟩
  rcases Nat.eq_zero_or_pos i with hz | hz
  · subst hz
    refine key (.pointer none) 0 rfl (.inr ⟨rfl, rfl, ?_⟩)
    rw [← HXS.out, HUX.out, if_pos rfl, funs_neg (by omega)]
  · have hpar := shape_par HSH.out i (by omega) (by omega)
    refine key (.pointer (some ⟨A (p.bk i).parent.toNat, 0, none⟩)) ((p.bk i).parent.toNat + 1) (by unfold outV; rw [if_neg (by omega)]) (.inl ⟨_, rfl, by omega, rfl, ?_⟩)
    rw [← HXS.out, HUX.out, if_neg (by omega), Int.toNat_of_nonneg hpar.1]

end Go.Proofs.Ytiemhadpepbcjaa
