/-
  Plain Lean: the program's own order of checks on a program's shape comes to what the reference's comes to. No condition.
-/
import Derived.Test.YtpajkejdfalkiaaDoorPlain
namespace Go.Proofs.YtpajkejdfalkiaaDoor

/-- All statements of the first k blocks. -/
def allTo (p : Pr) (k : Nat) : List St := (p.take k).flatMap (·.body)

def headsOk (p : Pr) : Bool := (List.range p.length).all fun i => headOk i (p.bk i) && decide ((p.bk i).body.length ≤ 12)
def stmtsOk (p : Pr) : Bool := (List.range p.length).all fun i => (p.bk i).body.all (stmtI p i)
def madeOk (p : Pr) : Bool := (List.range p.length).all fun i => i == 0 || madeBy (allTo p p.length) i == 1
/-- The program's own order. -/
def shapeI (p : Pr) : Bool := inR p.length 1 7 && (headsOk p && (stmtsOk p && madeOk p))

theorem bk_nat (p : Pr) (i : Nat) : p.bk i = p.getD i default := by simp [Pr.bk]

theorem heads_iff {p : Pr} : headsOk p = true ↔ ∀ i : Nat, i < p.length → headOk i (p.bk i) = true ∧ (p.bk i).body.length ≤ 12 := by
  unfold headsOk
  rw [List.all_eq_true]
  constructor
  · intro h i hi
    have := h i (by simpa using hi)
    simpa using this
  · intro h i hi
    have := h i (by simpa using hi)
    simpa using this

theorem head_zero {k : Bk} (h : headOk 0 k = true) : k.kind = 0 := by
  unfold headOk at h
  simp at h
  exact h.1
theorem head_pos {i : Int} {k : Bk} (hi : i ≠ 0) (h : headOk i k = true) : (k.kind = 1 ∨ k.kind = 2) ∧ 0 ≤ k.parent ∧ k.parent < i := by
  unfold headOk at h
  rw [if_neg hi, Bool.and_eq_true, Bool.and_eq_true, inR_iff, inR_iff] at h
  omega

theorem made_eq {p : Pr} (hh : ∀ i : Nat, i < p.length → headOk i (p.bk i) = true) (b : Nat) (k d : Int) (hd : d = 1 ∨ d = 2) : madeS p b k d = madeI p b k d := by
  rw [Bool.eq_iff_iff]
  unfold madeS madeI
  simp only [Bool.and_eq_true, inR_iff, beq_iff_eq]
  constructor
  · rintro ⟨⟨h1, h2⟩, h3⟩
    exact ⟨⟨by omega, h2⟩, h3⟩
  · rintro ⟨⟨h1, h2⟩, h3, h4⟩
    refine ⟨⟨?_, h2⟩, h3, h4⟩
    have h := hh k.toNat (by omega)
    rw [Int.toNat_of_nonneg h1] at h
    by_cases e : k = 0
    · subst e
      have := head_zero h
      omega
    · have := (head_pos e h).2.2
      omega

theorem stmt_eq {p : Pr} (hh : ∀ i : Nat, i < p.length → headOk i (p.bk i) = true) (b : Nat) (hb : b < p.length) (s : St) : stmtS p b s = stmtI p b s := by
  unfold stmtS stmtI
  have hdc : ((p.bk b).kind != 0) = ((b : Int) != 0) := by
    have h := hh b hb
    by_cases e : b = 0
    · subst e
      have := head_zero h
      rw [this]
      rfl
    · have := (head_pos (by omega) h).1
      rw [Bool.eq_iff_iff, bne_iff_ne, bne_iff_ne]
      omega
  rw [hdc]
  unfold stmtG
  rw [made_eq hh b s.a 1 (.inl rfl), made_eq hh b s.a 2 (.inr rfl)]

theorem madeBy_append (l m : List St) (k : Int) : madeBy (l ++ m) k = madeBy l k + madeBy m k := by simp [madeBy]

theorem allTo_succ (p : Pr) (k : Nat) (h : k < p.length) : allTo p (k + 1) = allTo p k ++ (p.bk k).body := by
  unfold allTo
  rw [List.take_succ_eq_append_getElem h, List.flatMap_append, bk_nat]
  simp [List.getD, h]

/-- Only in one block is k made. -/
theorem madeBy_allTo (p : Pr) (k : Int) (q : Nat) (hz : ∀ j : Nat, j < p.length → j ≠ q → madeBy (p.bk j).body k = 0) : ∀ n, n ≤ p.length → madeBy (allTo p n) k = if q < n then madeBy (p.bk q).body k else 0
  | 0, _ => by simp [allTo, madeBy]
  | n + 1, h => by
    rw [allTo_succ p n h, madeBy_append, madeBy_allTo p k q hz n (by omega)]
    by_cases e : n = q
    · subst e
      simp
    · rw [hz n h e]
      by_cases h1 : q < n
      · rw [if_pos h1, if_pos (by omega)]
        rfl
      · rw [if_neg h1, if_neg (by omega)]

theorem made_parent {p : Pr} {j : Nat} {s : St} {k : Int} (h : stmtI p j s = true) (hm : s.makes = true) (hk : s.a = k) : (p.bk k).parent = j := by
  unfold stmtI at h
  unfold St.makes at hm
  rw [decide_eq_true_iff] at hm
  unfold stmtG at h
  rcases hm with e | e <;> simp [e, madeI] at h <;> rw [← hk] <;> exact h.2.2.2.2

theorem shapeI_eq (p : Pr) : shapeI p = shape p := by
  unfold shapeI shape
  by_cases hl : inR p.length 1 7 = true
  · rw [hl, Bool.true_and, Bool.true_and]
    by_cases hh : headsOk p = true
    · rw [hh, Bool.true_and]
      have h1 := heads_iff.1 hh
      have h2 : ∀ i : Nat, i < p.length → headOk i (p.bk i) = true := fun i hi => (h1 i hi).1
      have e1 : stmtsOk p = (List.range p.length).all (fun i => blockS p i) := by
        unfold stmtsOk
        rw [Bool.eq_iff_iff, List.all_eq_true, List.all_eq_true]
        constructor
        · intro h i hi
          have hi' : i < p.length := by simpa using hi
          unfold blockS
          rw [h2 i hi', decide_eq_true (h1 i hi').2, Bool.true_and, Bool.true_and]
          have := h i hi
          rw [List.all_eq_true] at this ⊢
          intro s hs
          rw [stmt_eq h2 i hi']
          exact this s hs
        · intro h i hi
          have hi' : i < p.length := by simpa using hi
          have := h i hi
          unfold blockS at this
          rw [Bool.and_eq_true, Bool.and_eq_true, List.all_eq_true] at this
          rw [List.all_eq_true]
          intro s hs
          rw [← stmt_eq h2 i hi']
          exact this.2.2 s hs
      rw [← e1]
      by_cases hs : stmtsOk p = true
      · rw [hs, Bool.true_and, Bool.true_and]
        unfold madeOk
        have hs' : ∀ i : Nat, i < p.length → ∀ s ∈ (p.bk i).body, stmtI p i s = true := by
          unfold stmtsOk at hs
          rw [List.all_eq_true] at hs
          intro i hi
          have := hs i (by simpa using hi)
          rwa [List.all_eq_true] at this
        rw [Bool.eq_iff_iff, List.all_eq_true, List.all_eq_true]
        have key : ∀ i : Nat, i < p.length → i ≠ 0 → madeBy (allTo p p.length) i = madeIn p i := by
          intro i hi h0
          have hp := head_pos (by omega) (h2 i hi)
          have := madeBy_allTo p i (p.bk i).parent.toNat (fun j hj hne => by
            unfold madeBy
            rw [List.countP_eq_zero]
            intro s hs2 hc
            rw [Bool.and_eq_true, beq_iff_eq] at hc
            have := made_parent (hs' j hj s hs2) hc.1 hc.2
            omega) p.length (Nat.le_refl _)
          rw [this, if_pos (by omega), Int.toNat_of_nonneg hp.2.1]
          rfl
        constructor
        · intro h i hi
          have := h i hi
          rcases Nat.eq_zero_or_pos i with e | e
          · simp [e]
          · rw [key i (by simpa using hi) (by omega)] at this
            exact this
        · intro h i hi
          have := h i hi
          rcases Nat.eq_zero_or_pos i with e | e
          · simp [e]
          · rw [key i (by simpa using hi) (by omega)]
            exact this
      · rw [Bool.eq_false_iff.2 hs]
        rfl
    · have : (List.range p.length).all (fun i => blockS p i) = false := by
        rw [Bool.eq_false_iff]
        intro h
        apply hh
        rw [heads_iff]
        rw [List.all_eq_true] at h
        intro i hi
        have := h i (by simpa using hi)
        unfold blockS at this
        rw [Bool.and_eq_true, Bool.and_eq_true, decide_eq_true_iff] at this
        exact ⟨this.1, this.2.1⟩
      rw [Bool.eq_false_iff.2 hh, this]
      rfl
  · rw [Bool.eq_false_iff.2 hl]
    rfl

end Go.Proofs.YtpajkejdfalkiaaDoor
