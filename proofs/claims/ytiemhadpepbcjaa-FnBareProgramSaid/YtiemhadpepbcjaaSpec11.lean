/-
  Walks: the reference's cellNames, fasts, symbol, frees, and what is exported of them. Condition: the argument reads as a program.
-/
import Derived.Test.YtiemhadpepbcjaaSpec10
namespace Go.Proofs.Ytiemhadpepbcjaa
open Go.RowKit
set_option linter.unusedVariables false

/-- Lists gathered from a on, below n. -/
def gath (f : Nat → List Int) (a : Nat) : Nat → List Int
  | 0 => []
  | n + 1 => gath f a n ++ (if a ≤ n then f n else [])
theorem gath_start (f : Nat → List Int) (a : Nat) : ∀ n, n ≤ a → gath f a n = []
  | 0, _ => rfl
  | n + 1, h => by rw [gath, gath_start f a n (by omega), if_neg (by omega)]; rfl
theorem gath_succ (f : Nat → List Int) (a n : Nat) (h : a ≤ n) : gath f a (n + 1) = gath f a n ++ f n := by rw [gath, if_pos h]
theorem gath_len (f : Nat → List Int) (a : Nat) (hf : ∀ n, (f n).length ≤ 8) : ∀ n, (gath f a n).length ≤ 8 * n
  | 0 => Nat.le_refl _
  | n + 1 => by
    have := gath_len f a hf n
    have := hf n
    rw [gath, List.length_append]
    split <;> simp <;> omega
theorem mem_gath {f : Nat → List Int} {a : Nat} {x : Int} : ∀ {n : Nat}, x ∈ gath f a n ↔ ∃ c, a ≤ c ∧ c < n ∧ x ∈ f c
  | 0 => by simp [gath]
  | n + 1 => by
    rw [gath, List.mem_append, mem_gath]
    constructor
    · rintro (⟨c, h1, h2, h3⟩ | h)
      · exact ⟨c, h1, by omega, h3⟩
      · split at h
        · exact ⟨n, by assumption, by omega, h⟩
        · simp at h
    · rintro ⟨c, h1, h2, h3⟩
      by_cases e : c = n
      · subst e
        right
        rw [if_pos h1]
        exact h3
      · exact .inl ⟨c, h1, by omega, h3⟩

/-- Those of the first i of a list for which f holds. -/
def pickTo (f : Int → Bool) (l : List Int) (i : Nat) : List Int := (l.take i).filter f
theorem pickTo_zero (f : Int → Bool) (l : List Int) : pickTo f l 0 = [] := rfl
theorem pickTo_yes (f : Int → Bool) (l : List Int) (i : Nat) (h : i < l.length) (hf : f (l.getD i 0) = true) : pickTo f l (i + 1) = pickTo f l i ++ [l.getD i 0] := by
  unfold pickTo
  rw [List.take_succ_eq_append_getElem h, List.filter_append]
  have e : l.getD i 0 = l[i] := by simp [List.getD, h]
  rw [e] at hf ⊢
  simp [hf]
theorem pickTo_no (f : Int → Bool) (l : List Int) (i : Nat) (h : i < l.length) (hf : f (l.getD i 0) = false) : pickTo f l (i + 1) = pickTo f l i := by
  unfold pickTo
  rw [List.take_succ_eq_append_getElem h, List.filter_append]
  have e : l.getD i 0 = l[i] := by simp [List.getD, h]
  rw [e] at hf
  simp [hf]
theorem pickTo_all (f : Int → Bool) (l : List Int) : pickTo f l l.length = l.filter f := by unfold pickTo; rw [List.take_length]
theorem pickTo_len (f : Int → Bool) (l : List Int) (i : Nat) : (pickTo f l i).length ≤ l.length := by
  unfold pickTo
  have h1 := List.length_filter_le f (l.take i)
  have h2 := List.length_take_le' i l
  omega

/-- Two rows in different blocks. -/
def Apart (v v' : Value) : Prop := ∀ k, v.ownBlock = some k → v'.ownBlock ≠ some k
theorem Apart.from {o o' V : Value} {n : Nat} (h : Apart o V) (hf : RowFrom o o' n) (hV : ∀ k, V.ownBlock = some k → k < n) : Apart o' V := by
  intro k hk hc
  rcases hf with hf | ⟨g, hf, hg⟩
  · exact h k (hf.symm.trans hk) hc
  · have := hV k hc
    rw [hf] at hk
    have : g = k := Option.some.inj hk
    omega
theorem Apart.kept {o V : Value} (h : Apart o V) : V.ownBlock = none ∨ V.ownBlock ≠ o.ownBlock := by
  rcases hq : V.ownBlock with _ | k
  · exact .inl rfl
  · right
    intro hc
    exact h k hc.symm hq
theorem Apart.mk_ {w w' : World} {lo lo' : Nat} {o V : Value} {l l' : List Int} (h : Ints w lo o l) (h' : Ints w' lo' V l') (hl : w.heap.size ≤ lo') : Apart o V := by
  intro k hk hc
  have h1 := own_block_lt h k hk
  have h2 := own_block_ge h' k hc
  omega

def cellG (p : Pr) (b : Int) (c : Nat) : List Int := (usedF p c).filter fun x => ownerF p c x == b
def freeG (p : Pr) (b : Int) (c : Nat) : List Int := if inside p b c then (usedF p c).filter (fun x => decide (0 < ownerF p c x) && decide (ownerF p c x < b)) else []
theorem usedF_len (p : Pr) (c : Int) : (usedF p c).length ≤ 8 := nms_len _
theorem cellG_len (p : Pr) (b : Int) (c : Nat) : (cellG p b c).length ≤ 8 := Nat.le_trans (List.length_filter_le _ _) (usedF_len p c)
theorem freeG_len (p : Pr) (b : Int) (c : Nat) : (freeG p b c).length ≤ 8 := by
  unfold freeG
  split
  · exact Nat.le_trans (List.length_filter_le _ _) (usedF_len p c)
  · simp
theorem usedF_names (p : Pr) (c : Int) : ∀ x ∈ usedF p c, 0 ≤ x ∧ x ≤ 7 := fun x hx => (mem_nms.1 hx).1

theorem cells_eq {p : Pr} {b : Int} (hb : 0 ≤ b) (hk : (p.bk b).kind = 1) : nms (hasF (gath (cellG p b) (b.toNat + 1) p.length)) = cellsF p b := by
  refine nms_congr fun x h0 h1 => ?_
  rw [Bool.eq_iff_iff, hasF_iff, mem_gath, cellB_iff]
  unfold cellG
  constructor
  · rintro ⟨c, h2, h3, h4⟩
    rw [List.mem_filter, beq_iff_eq] at h4
    exact ⟨hk, c, by omega, by omega, by omega, (mem_nms.1 h4.1).2, h4.2⟩
  · rintro ⟨_, c, h2, h3, h4, h5, h6⟩
    have hc : b ≤ c := by
      rcases ownerF_cases p c x h2 with e | ⟨a1, a2, _, _⟩
      · omega
      · omega
    refine ⟨c.toNat, by omega, by omega, ?_⟩
    rw [Int.toNat_of_nonneg h2, List.mem_filter, beq_iff_eq]
    exact ⟨mem_nms.2 ⟨⟨h0, h1⟩, h5⟩, h6⟩
theorem cells_none {p : Pr} {b : Int} (hk : (p.bk b).kind ≠ 1) : nms (hasF []) = cellsF p b := by
  refine nms_congr fun x h0 h1 => ?_
  rw [Bool.eq_iff_iff, hasF_iff, cellB_iff]
  simp [hk]
theorem frees_eq {p : Pr} {b : Int} (hb : 0 ≤ b) : nms (hasF (gath (freeG p b) b.toNat p.length)) = freesF p b := by
  refine nms_congr fun x h0 h1 => ?_
  rw [Bool.eq_iff_iff, hasF_iff, mem_gath, freeB_iff]
  unfold freeG
  constructor
  · rintro ⟨c, h2, h3, h4⟩
    split at h4
    · rename_i hin
      rw [List.mem_filter, Bool.and_eq_true, decide_eq_true_iff, decide_eq_true_iff] at h4
      exact ⟨c, by omega, by omega, hin, (mem_nms.1 h4.1).2, h4.2.1, h4.2.2⟩
    · simp at h4
  · rintro ⟨c, h2, h3, h4, h5, h6, h7⟩
    have hc := inside_le p c.toNat c b (by omega) hb h4
    refine ⟨c.toNat, by omega, by omega, ?_⟩
    rw [Int.toNat_of_nonneg h2, if_pos h4, List.mem_filter, Bool.and_eq_true, decide_eq_true_iff, decide_eq_true_iff]
    exact ⟨mem_nms.2 ⟨⟨h0, h1⟩, h5⟩, h6, h7⟩

end Go.Proofs.Ytiemhadpepbcjaa
