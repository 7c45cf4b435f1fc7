/-
  Plain Lean: what the functions of the first two chapters compute on programs as data: blocks inside of blocks, depths, names that are read, bound, declared, owned. No condition.
-/
import Derived.Test.YtpajkejdfalkiaaDoorPlain2
namespace Go.Proofs.YtpajkejdfalkiaaDoor
set_option linter.unusedVariables false

/-! ### what a valid shape gives -/
theorem shape_heads {p : Pr} (h : shape p = true) : (1 ≤ p.length ∧ p.length ≤ 7) ∧ ∀ i : Nat, i < p.length → headOk i (p.bk i) = true ∧ (p.bk i).body.length ≤ 12 := by
  rw [← shapeI_eq] at h
  unfold shapeI at h
  rw [Bool.and_eq_true, Bool.and_eq_true, inR_iff] at h
  exact ⟨by omega, heads_iff.1 h.2.1⟩

theorem shape_len {p : Pr} (h : shape p = true) : 1 ≤ p.length ∧ p.length ≤ 7 := (shape_heads h).1

theorem shape_body {p : Pr} (h : shape p = true) (b : Int) (h0 : 0 ≤ b) (h1 : b < p.length) : (p.bk b).body.length ≤ 12 := by
  have h2 := ((shape_heads h).2 b.toNat (by omega)).2
  rwa [Int.toNat_of_nonneg (by omega)] at h2

theorem shape_par {p : Pr} (h : shape p = true) (b : Int) (h0 : 0 < b) (h1 : b < p.length) : 0 ≤ (p.bk b).parent ∧ (p.bk b).parent < b := by
  have h2 := ((shape_heads h).2 b.toNat (by omega)).1
  rw [Int.toNat_of_nonneg (by omega)] at h2
  exact (head_pos (by omega) h2).2

theorem shape_par0 {p : Pr} (h : shape p = true) : (p.bk 0).parent = -1 ∧ (p.bk 0).kind = 0 ∧ (p.bk 0).params = [] := by
  have h2 := ((shape_heads h).2 0 (by have := shape_len h; omega)).1
  unfold headOk at h2
  simp at h2
  simpa using And.intro h2.2.1 (And.intro h2.1 h2.2.2)

theorem shape_kind {p : Pr} (h : shape p = true) (b : Int) (h0 : 0 < b) (h1 : b < p.length) : (p.bk b).kind = 1 ∨ (p.bk b).kind = 2 := by
  have h2 := ((shape_heads h).2 b.toNat (by omega)).1
  rw [Int.toNat_of_nonneg (by omega)] at h2
  exact (head_pos (by omega) h2).1

theorem shape_kind0 {p : Pr} (h : shape p = true) (b : Int) (h0 : 0 ≤ b) (h1 : b < p.length) : (p.bk b).kind = 0 ↔ b = 0 := by
  constructor
  · intro hk
    by_cases e : b = 0
    · exact e
    · have := shape_kind h b (by omega) h1
      omega
  · rintro rfl
    exact (shape_par0 h).2.1

theorem shape_params {p : Pr} (h : shape p = true) (b : Int) (h0 : 0 ≤ b) (h1 : b < p.length) : (p.bk b).params.length ≤ 1 ∧ ∀ x ∈ (p.bk b).params, 0 ≤ x ∧ x ≤ 7 := by
  by_cases e : b = 0
  · subst e
    rw [(shape_par0 h).2.2]
    simp
  · have h2 := ((shape_heads h).2 b.toNat (by omega)).1
    rw [Int.toNat_of_nonneg (by omega)] at h2
    unfold headOk at h2
    rw [if_neg e] at h2
    simp only [Bool.and_eq_true, Bool.or_eq_true, beq_iff_eq, isNm_iff] at h2
    rcases h2.2.2 with h3 | h3
    · have : (p.bk b).params = [] := List.eq_nil_of_length_eq_zero (by omega)
      rw [this]
      simp
    · obtain ⟨x, hx⟩ := List.length_eq_one_iff.1 (show (p.bk b).params.length = 1 by omega)
      rw [hx] at h3 ⊢
      simpa using h3.2.2

theorem shape_stmt {p : Pr} (h : shape p = true) (b : Int) (h0 : 0 ≤ b) (h1 : b < p.length) (s : St) (hs : s ∈ (p.bk b).body) : stmtS p b s = true := by
  unfold shape at h
  rw [Bool.and_eq_true, Bool.and_eq_true, List.all_eq_true] at h
  have h2 := h.2.1 b.toNat (by simp; omega)
  rw [Int.toNat_of_nonneg h0] at h2
  unfold blockS at h2
  rw [Bool.and_eq_true, Bool.and_eq_true, List.all_eq_true] at h2
  exact h2.2.2 s hs

theorem stmtS_to {p : Pr} {b : Int} {s : St} (h : stmtS p b s = true) : 0 ≤ s.to ∧ s.to ≤ 7 := by
  unfold stmtS stmtG at h
  rw [Bool.and_eq_true, isNm_iff] at h
  exact h.1
theorem stmtS_reads {p : Pr} {b : Int} {s : St} (h : stmtS p b s = true) : ∀ x ∈ s.reads, 0 ≤ x ∧ x ≤ 7 := by
  unfold stmtS at h
  rw [stmtG_eq, Bool.and_eq_true, Bool.and_eq_true, List.all_eq_true] at h
  exact fun x hx => isNm_iff.1 (h.2.1 x hx)
theorem stmtS_kind {p : Pr} {b : Int} {s : St} (h : stmtS p b s = true) : 0 ≤ s.kind ∧ s.kind ≤ 11 := by
  by_cases hk : 0 ≤ s.kind ∧ s.kind ≤ 11
  · exact hk
  · exfalso
    unfold stmtS stmtG at h
    rw [if_neg (by omega), if_neg (by omega), if_neg (by omega), if_neg (by omega), if_neg (by omega), if_neg (by omega), if_neg (by omega), if_neg (by omega), if_neg (by omega), if_neg (by omega), if_neg (by omega)] at h
    simp at h
/-- No declaration stands in the block 0. -/
theorem stmtS_decl {p : Pr} {b : Int} {s : St} (h : stmtS p b s = true) (hk : s.kind = 9 ∨ s.kind = 10) : (p.bk b).kind ≠ 0 := by
  unfold stmtS stmtG at h
  rw [if_neg (by omega), if_neg (by omega), if_neg (by omega), if_neg (by omega), if_neg (by omega), if_neg (by omega), if_neg (by omega), if_neg (by omega), if_neg (by omega), if_pos hk] at h
  simp at h
  exact h.2.2.2

/-! ### indices for which something holds -/
/-- The numbers below n for which f holds, ascending. -/
def upto (f : Int → Bool) : Nat → List Int
  | 0 => []
  | n + 1 => upto f n ++ (if f n then [(n : Int)] else [])

theorem upto_succ (f : Int → Bool) (n : Nat) : upto f (n + 1) = upto f n ++ (if f n then [(n : Int)] else []) := rfl
theorem upto_yes (f : Int → Bool) (n : Nat) (h : f n = true) : upto f (n + 1) = upto f n ++ [(n : Int)] := by rw [upto_succ, if_pos h]
theorem upto_no (f : Int → Bool) (n : Nat) (h : f n = false) : upto f (n + 1) = upto f n := by rw [upto_succ, if_neg (by simp [h]), List.append_nil]
theorem upto_len (f : Int → Bool) : ∀ n, (upto f n).length ≤ n
  | 0 => Nat.le_refl _
  | n + 1 => by
    have := upto_len f n
    rw [upto_succ, List.length_append]
    split <;> simp <;> omega
theorem mem_upto {f : Int → Bool} {x : Int} : ∀ {n : Nat}, x ∈ upto f n ↔ 0 ≤ x ∧ x < n ∧ f x = true
  | 0 => by simp [upto]; omega
  | n + 1 => by
    rw [upto_succ, List.mem_append, mem_upto]
    by_cases h : f n = true
    · rw [if_pos h]
      simp only [List.mem_singleton]
      constructor
      · rintro (h1 | rfl)
        · exact ⟨h1.1, by omega, h1.2.2⟩
        · exact ⟨by omega, by omega, h⟩
      · rintro ⟨h1, h2, h3⟩
        by_cases e : x = n
        · exact .inr e
        · exact .inl ⟨h1, by omega, h3⟩
    · rw [if_neg h]
      simp only [List.not_mem_nil, or_false]
      constructor
      · rintro ⟨h1, h2, h3⟩
        exact ⟨h1, by omega, h3⟩
      · rintro ⟨h1, h2, h3⟩
        refine ⟨h1, ?_, h3⟩
        by_cases e : x = n
        · subst e
          exact absurd h3 h
        · omega
theorem upto_nil {f : Int → Bool} : ∀ {n : Nat}, (∀ i : Nat, i < n → f i = false) → upto f n = []
  | 0, _ => rfl
  | n + 1, h => by rw [upto_no _ _ (h n (by omega)), upto_nil fun i hi => h i (by omega)]
theorem upto_congr {f g : Int → Bool} : ∀ {n : Nat}, (∀ i : Nat, i < n → f i = g i) → upto f n = upto g n
  | 0, _ => rfl
  | n + 1, h => by rw [upto_succ, upto_succ, h n (by omega), upto_congr fun i hi => h i (by omega)]

/-- The names for which f holds, ascending. -/
abbrev nms (f : Int → Bool) : List Int := upto f 8
theorem nms_len (f : Int → Bool) : (nms f).length ≤ 8 := upto_len f 8
theorem mem_nms {f : Int → Bool} {x : Int} : x ∈ nms f ↔ (0 ≤ x ∧ x ≤ 7) ∧ f x = true := by
  rw [mem_upto]
  constructor
  · rintro ⟨h1, h2, h3⟩; exact ⟨⟨h1, by omega⟩, h3⟩
  · rintro ⟨⟨h1, h2⟩, h3⟩; exact ⟨h1, by omega, h3⟩
theorem nms_has {f : Int → Bool} {x : Int} (h0 : 0 ≤ x) (h1 : x ≤ 7) : (nms f).contains x = f x := by
  rw [Bool.eq_iff_iff, List.contains_iff_mem, mem_nms]
  exact ⟨fun h => h.2, fun h => ⟨⟨h0, h1⟩, h⟩⟩
theorem nms_congr {f g : Int → Bool} (h : ∀ x : Int, 0 ≤ x → x ≤ 7 → f x = g x) : nms f = nms g := upto_congr fun i hi => h i (by omega) (by omega)

/-! ### the block outside -/
/-- The block outside of a block, below it; -1 if there is none. -/
def up (p : Pr) (c : Int) : Int := if 0 ≤ (p.bk c).parent ∧ (p.bk c).parent < c then (p.bk c).parent else -1
theorem up_lt (p : Pr) (c : Int) (h : 0 ≤ c) : up p c < c := by unfold up; split <;> omega
theorem up_ge (p : Pr) (c : Int) : -1 ≤ up p c := by unfold up; split <;> omega
theorem up_eq {p : Pr} (h : shape p = true) (c : Int) (h0 : 0 ≤ c) (h1 : c < p.length) : up p c = (p.bk c).parent := by
  unfold up
  by_cases e : c = 0
  · subst e
    rw [(shape_par0 h).1]
    rfl
  · have := shape_par h c (by omega) h1
    rw [if_pos this]

/-- Is c the block b, or inside of it? -/
def inside (p : Pr) (b c : Int) : Bool := if b < c ∧ 0 ≤ c then inside p b (up p c) else c == b
termination_by (c + 1).toNat
decreasing_by
  rename_i h
  have h1 := up_lt p c h.2
  have h2 := up_ge p c
  omega
theorem inside_up {p : Pr} {b c : Int} (h : b < c) (h0 : 0 ≤ c) : inside p b c = inside p b (up p c) := by rw [inside, if_pos ⟨h, h0⟩]
theorem inside_end {p : Pr} {b c : Int} (h : ¬ b < c) : inside p b c = (c == b) := by rw [inside, if_neg fun h' => h h'.1]

/-- How many steps lead from a block to the block 0. -/
def depth (p : Pr) (b : Int) : Int := if 0 < b then 1 + depth p (up p b) else 0
termination_by b.toNat
decreasing_by
  rename_i h
  have h1 := up_lt p b (by omega)
  omega
theorem depth_up {p : Pr} {b : Int} (h : 0 < b) : depth p b = 1 + depth p (up p b) := by rw [depth, if_pos h]
theorem depth_end {p : Pr} {b : Int} (h : ¬ 0 < b) : depth p b = 0 := by rw [depth, if_neg h]
theorem depth_le (p : Pr) (n : Nat) : ∀ b : Int, b ≤ n → 0 ≤ depth p b ∧ depth p b ≤ n := by
  induction n with
  | zero => intro b hb; rw [depth_end (by omega)]; omega
  | succ n ih =>
    intro b hb
    by_cases h : 0 < b
    · rw [depth_up h]
      have := ih (up p b) (by have := up_lt p b (by omega); omega)
      omega
    · rw [depth_end h]; omega

/-- The function from k outward that owns a name; -1 if there is none. -/
def outerK (p : Pr) (x k : Int) : Int :=
  if 0 < k then (if (p.bk k).kind = 1 then (if (p.bk k).declB 9 x then -1 else if (p.bk k).locB x then k else outerK p x (up p k)) else outerK p x (up p k)) else -1
termination_by k.toNat
decreasing_by
  all_goals
    rename_i h
    have h1 := up_lt p k (by omega)
    omega
theorem outerK_end {p : Pr} {x k : Int} (h : ¬ 0 < k) : outerK p x k = -1 := by rw [outerK, if_neg h]
theorem outerK_skip {p : Pr} {x k : Int} (h : 0 < k) (hk : (p.bk k).kind ≠ 1) : outerK p x k = outerK p x (up p k) := by rw [outerK, if_pos h, if_neg hk]
theorem outerK_glob {p : Pr} {x k : Int} (h : 0 < k) (hk : (p.bk k).kind = 1) (hd : (p.bk k).declB 9 x = true) : outerK p x k = -1 := by rw [outerK, if_pos h, if_pos hk, if_pos hd]
theorem outerK_loc {p : Pr} {x k : Int} (h : 0 < k) (hk : (p.bk k).kind = 1) (hd : (p.bk k).declB 9 x = false) (hl : (p.bk k).locB x = true) : outerK p x k = k := by rw [outerK, if_pos h, if_pos hk, if_neg (by simp [hd]), if_pos hl]
theorem outerK_up {p : Pr} {x k : Int} (h : 0 < k) (hk : (p.bk k).kind = 1) (hd : (p.bk k).declB 9 x = false) (hl : (p.bk k).locB x = false) : outerK p x k = outerK p x (up p k) := by rw [outerK, if_pos h, if_pos hk, if_neg (by simp [hd]), if_neg (by simp [hl])]

def outerF (p : Pr) (b x : Int) : Int := outerK p x (up p b)

/-- The owner is -1, or a function from k outward. -/
theorem outerK_cases (p : Pr) (x : Int) (n : Nat) : ∀ k : Int, k ≤ n → outerK p x k = -1 ∨ (0 < outerK p x k ∧ outerK p x k ≤ k ∧ (p.bk (outerK p x k)).kind = 1 ∧ (p.bk (outerK p x k)).locB x = true ∧ inside p (outerK p x k) k = true) := by
  induction n with
  | zero => intro k hk; left; exact outerK_end (by omega)
  | succ n ih =>
    intro k hk
    by_cases h : 0 < k
    · have hu := up_lt p k (by omega)
      have step : outerK p x k = outerK p x (up p k) → (outerK p x k = -1 ∨ (0 < outerK p x k ∧ outerK p x k ≤ k ∧ (p.bk (outerK p x k)).kind = 1 ∧ (p.bk (outerK p x k)).locB x = true ∧ inside p (outerK p x k) k = true)) := fun e => by
        rcases ih (up p k) (by omega) with h1 | ⟨h1, h2, h3, h4, h5⟩
        · left; rw [e, h1]
        · right
          rw [e]
          exact ⟨h1, by omega, h3, h4, by rw [inside_up (by omega) (by omega)]; exact h5⟩
      by_cases h1 : (p.bk k).kind = 1
      · cases h2 : (p.bk k).declB 9 x with
        | true => left; exact outerK_glob h h1 h2
        | false =>
          cases h3 : (p.bk k).locB x with
          | true =>
            right
            rw [outerK_loc h h1 h2 h3]
            exact ⟨h, Int.le_refl _, h1, h3, by rw [inside_end (by omega)]; simp⟩
          | false => exact step (outerK_up h h1 h2 h3)
      · exact step (outerK_skip h h1)
    · left; exact outerK_end h

/-- The block that owns a name in a block; -1 for a global one. -/
def ownerF (p : Pr) (b x : Int) : Int := if b = 0 then -1 else if (p.bk b).declB 9 x then -1 else if (p.bk b).locB x then b else outerF p b x

theorem outerF_cases (p : Pr) (b x : Int) (h0 : 0 ≤ b) : outerF p b x = -1 ∨ (0 < outerF p b x ∧ outerF p b x < b ∧ (p.bk (outerF p b x)).kind = 1 ∧ (p.bk (outerF p b x)).locB x = true ∧ inside p (outerF p b x) b = true) := by
  have hu := up_lt p b h0
  rcases outerK_cases p x (up p b).toNat (up p b) (by omega) with h | ⟨h1, h2, h3, h4, h5⟩
  · exact .inl h
  · exact .inr ⟨h1, by unfold outerF; omega, h3, h4, by rw [inside_up (by unfold outerF; omega) h0]; exact h5⟩

theorem ownerF_cases (p : Pr) (b x : Int) (h0 : 0 ≤ b) : ownerF p b x = -1 ∨ (0 < ownerF p b x ∧ ownerF p b x ≤ b ∧ (p.bk (ownerF p b x)).locB x = true ∧ inside p (ownerF p b x) b = true) := by
  unfold ownerF
  by_cases e : b = 0
  · rw [if_pos e]; exact .inl rfl
  rw [if_neg e]
  cases h1 : (p.bk b).declB 9 x with
  | true => rw [if_pos rfl]; exact .inl rfl
  | false =>
    rw [if_neg (by simp)]
    cases h2 : (p.bk b).locB x with
    | true => rw [if_pos rfl]; exact .inr ⟨by omega, Int.le_refl _, h2, by rw [inside_end (by omega)]; simp⟩
    | false =>
      rw [if_neg (by simp)]
      rcases outerF_cases p b x h0 with h | ⟨a1, a2, a3, a4, a5⟩
      · exact .inl h
      · exact .inr ⟨a1, by omega, a4, a5⟩

/-- What lies inside of two blocks: the greater of the two lies inside of the lesser one. -/
theorem inside_both (p : Pr) (n : Nat) : ∀ c a b : Int, c ≤ n → 0 ≤ b → b ≤ a → inside p a c = true → inside p b c = true → inside p b a = true := by
  induction n with
  | zero =>
    intro c a b hc hb hba h1 h2
    rw [inside_end (by omega)] at h1 h2
    rw [beq_iff_eq] at h1 h2
    subst h1
    rw [inside_end (by omega), beq_iff_eq]
    exact h2
  | succ n ih =>
    intro c a b hc hb hba h1 h2
    by_cases ha : a < c
    · rw [inside_up ha (by omega)] at h1
      rw [inside_up (by omega) (by omega)] at h2
      have := up_lt p c (by omega)
      exact ih (up p c) a b (by omega) hb hba h1 h2
    · rw [inside_end ha, beq_iff_eq] at h1
      subst h1
      exact h2
theorem inside_le (p : Pr) (n : Nat) : ∀ c b : Int, c ≤ n → 0 ≤ b → inside p b c = true → b ≤ c := by
  induction n with
  | zero =>
    intro c b hc hb h
    rw [inside_end (by omega), beq_iff_eq] at h
    omega
  | succ n ih =>
    intro c b hc hb h
    by_cases hlt : b < c
    · omega
    · rw [inside_end hlt, beq_iff_eq] at h
      omega
theorem inside_trans (p : Pr) (n : Nat) : ∀ c a b : Int, c ≤ n → 0 ≤ b → inside p a c = true → inside p b a = true → 0 ≤ a → inside p b c = true := by
  induction n with
  | zero =>
    intro c a b hc hb h1 h2 ha
    by_cases hlt : a < c
    · omega
    · rw [inside_end hlt, beq_iff_eq] at h1
      subst h1
      exact h2
  | succ n ih =>
    intro c a b hc hb h1 h2 ha
    have hab := inside_le p a.toNat a b (by omega) hb h2
    by_cases hlt : a < c
    · rw [inside_up hlt (by omega)] at h1
      rw [inside_up (by omega) (by omega)]
      have := up_lt p c (by omega)
      exact ih (up p c) a b (by omega) hb h1 h2 ha
    · rw [inside_end hlt, beq_iff_eq] at h1
      subst h1
      exact h2

/-! ### whole programs -/
/-- Are the declarations of a block all right at a name? -/
def declOk (p : Pr) (b x : Int) : Bool :=
  !(((p.bk b).declB 9 x && ((p.bk b).declB 10 x || (p.bk b).params.contains x)) || ((p.bk b).declB 10 x && ((p.bk b).params.contains x || decide (outerF p b x < 0))))
def validP (p : Pr) : Bool := shape p && ((List.range p.length).all fun b => b == 0 || (List.range 8).all fun x => declOk p b x)
def shapeAt (p : Pr) (b : Int) : Bool := shape p && inR b 0 (p.length - 1)
def validB (p : Pr) (b : Int) : Bool := validP p && inR b 0 (p.length - 1)

/-! ### what the exported functions return -/
def kidsF (p : Pr) (b : Int) : List Int := upto (fun i => (p.bk i).parent == b) p.length
def insidesF (p : Pr) (b : Int) : List Int := upto (fun i => inside p b i) p.length
def readF (p : Pr) (b : Int) : List Int := nms (p.bk b).readB
def boundF (p : Pr) (b : Int) : List Int := nms (p.bk b).boundB
def declF (p : Pr) (b d : Int) : List Int := nms ((p.bk b).declB d)
def usedF (p : Pr) (b : Int) : List Int := nms (p.bk b).usesB

def rKids (p : Pr) (b : Int) : List Int := if shapeAt p b then kidsF p b else []
def rInsides (p : Pr) (b : Int) : List Int := if shapeAt p b then insidesF p b else []
def rDepth (p : Pr) (b : Int) : Int := if shapeAt p b then depth p b else -1
def rRead (p : Pr) (b : Int) : List Int := if shapeAt p b then readF p b else []
def rBound (p : Pr) (b : Int) : List Int := if shapeAt p b then boundF p b else []
def rDecl (p : Pr) (b d : Int) : List Int := if shapeAt p b && inR d 9 10 then declF p b d else []
def rLocal (p : Pr) (b x : Int) : Bool := (shapeAt p b && isNm x) && (decide (0 < b) && (p.bk b).locB x)
def rOuter (p : Pr) (b x : Int) : Int := if shapeAt p b && isNm x then outerF p b x else -1
def rOwner (p : Pr) (b x : Int) : Int := if validB p b && isNm x then ownerF p b x else -2
def rUsed (p : Pr) (b : Int) : List Int := if validB p b then usedF p b else []

/-- Is a name free in b by what the block c uses? -/
def freeBy (p : Pr) (b x c : Int) : Bool := inside p b c && ((p.bk c).usesB x && (decide (0 < ownerF p c x) && decide (ownerF p c x < b)))
/-- Some block below n. -/
def anyTo (f : Int → Bool) : Nat → Bool
  | 0 => false
  | n + 1 => anyTo f n || f n
theorem anyTo_iff {f : Int → Bool} : ∀ {n : Nat}, anyTo f n = true ↔ ∃ i : Int, 0 ≤ i ∧ i < n ∧ f i = true
  | 0 => by
    constructor
    · intro h; cases h
    · rintro ⟨i, h1, h2, _⟩; omega
  | n + 1 => by
    rw [anyTo, Bool.or_eq_true, anyTo_iff]
    constructor
    · rintro (⟨i, h1, h2, h3⟩ | h)
      · exact ⟨i, h1, by omega, h3⟩
      · exact ⟨n, by omega, by omega, h⟩
    · rintro ⟨i, h1, h2, h3⟩
      by_cases e : i = n
      · subst e; exact .inr h3
      · exact .inl ⟨i, h1, by omega, h3⟩
theorem anyTo_congr {f g : Int → Bool} : ∀ {n : Nat}, (∀ i : Nat, i < n → f i = g i) → anyTo f n = anyTo g n
  | 0, _ => rfl
  | n + 1, h => by rw [anyTo, anyTo, h n (by omega), anyTo_congr fun i hi => h i (by omega)]
theorem anyTo_skip {f : Int → Bool} : ∀ {n : Nat}, (∀ i : Nat, i < n → f i = false) → anyTo f n = false
  | 0, _ => rfl
  | n + 1, h => by rw [anyTo, h n (by omega), anyTo_skip fun i hi => h i (by omega)]; rfl

def freeB (p : Pr) (b x : Int) : Bool := anyTo (freeBy p b x) p.length
def freesF (p : Pr) (b : Int) : List Int := nms (freeB p b)
/-- Is a name of b kept in a cell, by what the block c uses? -/
def cellBy (p : Pr) (b x c : Int) : Bool := (c != b) && ((p.bk c).usesB x && ownerF p c x == b)
def cellB (p : Pr) (b x : Int) : Bool := decide ((p.bk b).kind = 1) && anyTo (cellBy p b x) p.length
def cellsF (p : Pr) (b : Int) : List Int := nms (cellB p b)
def fastB (p : Pr) (b x : Int) : Bool := decide ((p.bk b).kind = 1) && ((p.bk b).locB x && !cellB p b x)
def fastsF (p : Pr) (b : Int) : List Int := nms (fastB p b)
def symF (p : Pr) (b x : Int) : Int := if ownerF p b x < 0 then 0 else if ownerF p b x ≠ b then 1 else if (p.bk b).kind = 2 then 2 else if cellB p b x then 3 else 4
def touchF (p : Pr) (b x : Int) : List Int := upto (fun c => (p.bk c).usesB x && ownerF p c x == b) p.length

def rFrees (p : Pr) (b : Int) : List Int := if validB p b then freesF p b else []
def rCells (p : Pr) (b : Int) : List Int := if validB p b then cellsF p b else []
def rFasts (p : Pr) (b : Int) : List Int := if validB p b then fastsF p b else []
def rSym (p : Pr) (b x : Int) : Int := if validB p b && isNm x then symF p b x else -1
def rTouch (p : Pr) (b x : Int) : List Int := if validB p b && isNm x then touchF p b x else []

end Go.Proofs.YtpajkejdfalkiaaDoor
