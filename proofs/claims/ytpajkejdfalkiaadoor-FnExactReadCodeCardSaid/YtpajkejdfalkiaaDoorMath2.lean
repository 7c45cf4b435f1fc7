/-
  Plain Lean: what the laws of the second chapter say of what is computed: owners, free names, cells. No condition.
-/
import Derived.Test.YtpajkejdfalkiaaDoorMath1
namespace Go.Proofs.YtpajkejdfalkiaaDoor
set_option linter.unusedVariables false

theorem validB_iff {p : Pr} {b : Int} : validB p b = true ↔ validP p = true ∧ 0 ≤ b ∧ b < p.length := by
  unfold validB
  rw [Bool.and_eq_true, inR_iff]
  constructor
  · rintro ⟨h1, h2, h3⟩; exact ⟨h1, h2, by omega⟩
  · rintro ⟨h1, h2, h3⟩; exact ⟨h1, h2, by omega⟩
theorem validP_shape {p : Pr} (h : validP p = true) : shape p = true := by
  unfold validP at h
  rw [Bool.and_eq_true] at h
  exact h.1
theorem validB_shape {p : Pr} {b : Int} (h : validB p b = true) : shapeAt p b = true := by
  obtain ⟨h1, h2, h3⟩ := validB_iff.1 h
  exact shapeAt_iff.2 ⟨validP_shape h1, h2, h3⟩

theorem locB_bound {k : Bk} {x : Int} (h : k.locB x = true) : k.boundB x = true ∧ k.declB 9 x = false ∧ k.declB 10 x = false := by
  unfold Bk.locB Bk.declsB at h
  simp only [Bool.and_eq_true, Bool.not_eq_true', Bool.or_eq_false_iff] at h
  exact ⟨h.1, h.2.1, h.2.2⟩
theorem locB_uses {k : Bk} {x : Int} (h : k.locB x = true) : k.usesB x = true := by
  unfold Bk.usesB
  rw [(locB_bound h).1]
  simp

/-- A block owns a name there exactly if it is a local one. -/
theorem owner_self {p : Pr} {b x : Int} (hb : 0 ≤ b) : ownerF p b x = b ↔ 0 < b ∧ (p.bk b).locB x = true := by
  constructor
  · intro h
    rcases ownerF_cases p b x hb with h1 | ⟨h1, h2, h3, h4⟩
    · omega
    · rw [h] at h1 h3
      exact ⟨h1, h3⟩
  · rintro ⟨h1, h2⟩
    unfold ownerF
    rw [if_neg (by omega), if_neg (by simp [(locB_bound h2).2.1]), if_pos h2]

theorem owner_far {p : Pr} {b x : Int} (hb : 0 ≤ b) (h0 : 0 ≤ ownerF p b x) (h : ownerF p b x ≠ b) : ownerF p b x = outerF p b x ∧ 0 < outerF p b x ∧ outerF p b x < b ∧ (p.bk (outerF p b x)).kind = 1 ∧ (p.bk (outerF p b x)).locB x = true ∧ inside p (outerF p b x) b = true := by
  have e : ownerF p b x = outerF p b x := by
    unfold ownerF at h h0 ⊢
    by_cases e : b = 0
    · rw [if_pos e] at h0; omega
    rw [if_neg e] at h h0 ⊢
    cases h1 : (p.bk b).declB 9 x with
    | true => rw [h1, if_pos rfl] at h0; omega
    | false =>
      rw [h1, if_neg (by simp)] at h h0
      rw [if_neg (by simp)]
      cases h2 : (p.bk b).locB x with
      | true => rw [h2, if_pos rfl] at h; exact absurd rfl h
      | false => rw [if_neg (by simp)]
  rw [e] at h0
  rcases outerF_cases p b x hb with h1 | h1
  · omega
  · exact ⟨e, h1⟩

/-- What lies strictly inside of a block lies inside of one of its children. -/
theorem inside_kid {p : Pr} (hs : shape p = true) (b : Int) (hb : 0 ≤ b) (n : Nat) : ∀ c : Int, c ≤ n → c < p.length → inside p b c = true → c ≠ b → ∃ k ∈ kidsF p b, inside p k c = true ∧ b < k := by
  induction n with
  | zero =>
    intro c hc hl hi hne
    rw [inside_end (by omega), beq_iff_eq] at hi
    exact absurd hi hne
  | succ n ih =>
    intro c hc hl hi hne
    have hlt : b < c := by have := inside_le p (n + 1) c b hc hb hi; omega
    have hu := up_lt p c (by omega)
    rw [inside_up hlt (by omega)] at hi
    by_cases e : up p c = b
    · refine ⟨c, mem_kids.2 ⟨by omega, hl, ?_⟩, by rw [inside_end (by omega)]; simp, hlt⟩
      rw [← up_eq hs c (by omega) hl, e]
    · obtain ⟨k, hk, h1, h2⟩ := ih (up p c) (by omega) (by omega) hi e
      refine ⟨k, hk, ?_, h2⟩
      have hkc : k ≤ up p c := inside_le p n (up p c) k (by omega) (by omega) h1
      rw [inside_up (by omega) (by omega)]
      exact h1

theorem inside_self (p : Pr) (b : Int) : inside p b b = true := by rw [inside_end (by omega)]; simp

theorem freeB_iff {p : Pr} {b x : Int} : freeB p b x = true ↔ ∃ c : Int, 0 ≤ c ∧ c < p.length ∧ inside p b c = true ∧ (p.bk c).usesB x = true ∧ 0 < ownerF p c x ∧ ownerF p c x < b := by
  unfold freeB
  rw [anyTo_iff]
  constructor
  · rintro ⟨i, h0, h1, h2⟩
    unfold freeBy at h2
    simp only [Bool.and_eq_true, decide_eq_true_eq] at h2
    exact ⟨i, h0, h1, h2⟩
  · rintro ⟨i, h0, h1, h2⟩
    refine ⟨i, h0, h1, ?_⟩
    unfold freeBy
    simp only [Bool.and_eq_true, decide_eq_true_eq]
    exact h2

theorem cellB_iff {p : Pr} {b x : Int} : cellB p b x = true ↔ (p.bk b).kind = 1 ∧ ∃ c : Int, 0 ≤ c ∧ c < p.length ∧ c ≠ b ∧ (p.bk c).usesB x = true ∧ ownerF p c x = b := by
  unfold cellB
  rw [Bool.and_eq_true, anyTo_iff, decide_eq_true_iff]
  constructor
  · rintro ⟨h, i, h0, h1, h2⟩
    unfold cellBy at h2
    simp only [Bool.and_eq_true, bne_iff_ne, beq_iff_eq] at h2
    exact ⟨h, i, h0, h1, h2⟩
  · rintro ⟨h, i, h0, h1, h2⟩
    refine ⟨h, i, h0, h1, ?_⟩
    unfold cellBy
    simp only [Bool.and_eq_true, bne_iff_ne, beq_iff_eq]
    exact h2

theorem cellB_loc {p : Pr} {b x : Int} (hb : 0 ≤ b) (h : cellB p b x = true) : 0 < b ∧ (p.bk b).locB x = true := by
  obtain ⟨_, c, h0, h1, h2, h3, h4⟩ := cellB_iff.1 h
  rcases ownerF_cases p c x h0 with e | ⟨a1, a2, a3, a4⟩
  · omega
  · rw [h4] at a1 a3
    exact ⟨a1, a3⟩

/-- A free name of a block is, in the block outside, free or in a cell. -/
theorem free_up {p : Pr} (hs : shape p = true) {b x : Int} (hb : 0 ≤ b) (hl : b < p.length) (h : freeB p b x = true) :
    0 < b ∧ 0 ≤ (p.bk b).parent ∧ (p.bk b).parent < p.length ∧ (cellB p (p.bk b).parent x = true ∨ freeB p (p.bk b).parent x = true) := by
  obtain ⟨c, h0, h1, h2, h3, h4, h5⟩ := freeB_iff.1 h
  have hb0 : 0 < b := by omega
  have hp := shape_par hs b hb0 hl
  have hbc : b ≤ c := inside_le p c.toNat c b (by omega) hb h2
  obtain ⟨e, a1, a2, a3, a4, a5⟩ := owner_far h0 (by omega) (by omega : ownerF p c x ≠ c)
  rw [e] at h4 h5
  -- b lies inside of the owner, and so does the block outside of it
  have h6 := inside_both p c.toNat c b (outerF p c x) (by omega) (by omega) (by omega) h2 a5
  rw [inside_up h5 hb, up_eq hs b hb hl] at h6
  have h7 := inside_le p (p.bk b).parent.toNat (p.bk b).parent _ (by omega) (by omega) h6
  refine ⟨hb0, hp.1, by omega, ?_⟩
  by_cases he : outerF p c x = (p.bk b).parent
  · left
    rw [cellB_iff, ← he]
    exact ⟨a3, c, h0, h1, by omega, h3, e⟩
  · right
    rw [freeB_iff]
    refine ⟨c, h0, h1, ?_, h3, by omega, by omega⟩
    have hin : inside p (p.bk b).parent b = true := by
      rw [inside_up hp.2 hb, up_eq hs b hb hl]
      exact inside_self _ _
    exact inside_trans p c.toNat c b _ (by omega) hp.1 h2 hin hb

/-- A name of a block that is in a cell is free in one of its children. -/
theorem cell_kid {p : Pr} (hs : shape p = true) {b x : Int} (hb : 0 ≤ b) (h : cellB p b x = true) : ∃ k ∈ kidsF p b, freeB p k x = true := by
  obtain ⟨hk, c, h0, h1, h2, h3, h4⟩ := cellB_iff.1 h
  have hb0 := (cellB_loc hb h).1
  rcases ownerF_cases p c x h0 with e | ⟨a1, a2, a3, a4⟩
  · omega
  · rw [h4] at a4
    obtain ⟨k, hk1, hk2, hk3⟩ := inside_kid hs b hb c.toNat c (by omega) h1 a4 h2
    exact ⟨k, hk1, freeB_iff.2 ⟨c, h0, h1, hk2, h3, by omega, by omega⟩⟩

/-- What a function owns its functions find. -/
theorem owner_kid {p : Pr} (hs : shape p = true) {b c x : Int} (hb : 0 ≤ b) (hk : (p.bk b).kind = 1) (hc : c ∈ kidsF p b) (h1 : (p.bk c).boundB x = false) (h2 : (p.bk c).declB 9 x = false) (hb1 : b < p.length) : ownerF p c x = ownerF p b x := by
  obtain ⟨c0, c1, c2⟩ := kid_up hs hb hc
  have hb0 : b ≠ 0 := by
    rintro rfl
    rw [(shape_par0 hs).2.1] at hk
    omega
  have hl : (p.bk c).locB x = false := by unfold Bk.locB; rw [h1]; rfl
  have e1 : ownerF p c x = outerK p x b := by
    unfold ownerF outerF
    rw [if_neg (by omega), h2, hl, c2]
    simp
  rw [e1]
  unfold ownerF
  rw [if_neg hb0]
  cases h3 : (p.bk b).declB 9 x with
  | true => rw [outerK_glob (by omega) hk h3]; simp
  | false =>
    cases h4 : (p.bk b).locB x with
    | true => rw [outerK_loc (by omega) hk h3 h4]; simp
    | false => rw [outerK_up (by omega) hk h3 h4]; simp [outerF]

end Go.Proofs.YtpajkejdfalkiaaDoor
