/-
  Plain Lean: what the laws of the first chapter say of what is computed: depths of children, names that are read and bound, programs whose bodies have been turned or shortened. No condition.
-/
import Derived.Test.YtpajkejdfalkiaaDoorPlain3
namespace Go.Proofs.YtpajkejdfalkiaaDoor
set_option linter.unusedVariables false

theorem shapeAt_iff {p : Pr} {b : Int} : shapeAt p b = true ↔ shape p = true ∧ 0 ≤ b ∧ b < p.length := by
  unfold shapeAt
  rw [Bool.and_eq_true, inR_iff]
  constructor
  · rintro ⟨h1, h2, h3⟩; exact ⟨h1, h2, by omega⟩
  · rintro ⟨h1, h2, h3⟩; exact ⟨h1, h2, by omega⟩

theorem mem_kids {p : Pr} {b c : Int} : c ∈ kidsF p b ↔ 0 ≤ c ∧ c < p.length ∧ (p.bk c).parent = b := by
  unfold kidsF
  rw [mem_upto, beq_iff_eq]

/-- A child: its block outside is the block. -/
theorem kid_up {p : Pr} (h : shape p = true) {b c : Int} (hb : 0 ≤ b) (hc : c ∈ kidsF p b) : 0 < c ∧ c < p.length ∧ up p c = b := by
  obtain ⟨h0, h1, h2⟩ := mem_kids.1 hc
  have h3 : c ≠ 0 := by
    rintro rfl
    rw [(shape_par0 h).1] at h2
    omega
  exact ⟨by omega, h1, by rw [up_eq h c h0 h1, h2]⟩

/-- A child is one deeper. -/
theorem kid_depth {p : Pr} (h : shape p = true) {b c : Int} (hb : 0 ≤ b) (hc : c ∈ kidsF p b) : depth p c = 1 + depth p b := by
  obtain ⟨h0, _, h2⟩ := kid_up h hb hc
  rw [depth_up h0, h2]

theorem depth_zero {p : Pr} {b : Int} (hb : 0 ≤ b) : depth p b = 0 ↔ b = 0 := by
  constructor
  · intro h
    by_cases e : 0 < b
    · rw [depth_up e] at h
      have := depth_le p (up p b).toNat (up p b) (by omega)
      omega
    · omega
  · rintro rfl
    exact depth_end (by omega)

/-! ### lists that ascend -/
def ascB (l : List Int) : Bool := decide (List.Pairwise (· < ·) l)
theorem upto_asc (f : Int → Bool) : ∀ n, List.Pairwise (· < ·) (upto f n)
  | 0 => List.Pairwise.nil
  | n + 1 => by
    rw [upto_succ, List.pairwise_append]
    refine ⟨upto_asc f n, by split <;> simp, ?_⟩
    intro a ha b hb
    have := (mem_upto.1 ha).2.1
    split at hb
    · simp at hb; omega
    · simp at hb

/-! ### what a body reads and binds -/
theorem readB_of {k : Bk} {s : St} {x : Int} (hs : s ∈ k.body) (hx : x ∈ s.reads) : k.readB x = true := by
  unfold Bk.readB
  rw [List.any_eq_true]
  exact ⟨s, hs, by simpa using hx⟩

theorem boundB_iff {k : Bk} {x : Int} : k.boundB x = true ↔ x ∈ k.params ∨ ∃ s ∈ k.body, s.binds = true ∧ s.to = x := by
  unfold Bk.boundB
  rw [Bool.or_eq_true, List.any_eq_true]
  simp

theorem declB_iff {k : Bk} {d x : Int} : k.declB d x = true ↔ ∃ s ∈ k.body, s.kind = d ∧ s.to = x := by
  unfold Bk.declB
  rw [List.any_eq_true]
  simp

/-! ### bodies turned -/
/-- The same blocks but for their bodies; each statement is one of the block's before; what is made is made as often. -/
structure Turned (p q : Pr) : Prop where
  len : q.length = p.length
  kind : ∀ b, (q.bk b).kind = (p.bk b).kind
  parent : ∀ b, (q.bk b).parent = (p.bk b).parent
  params : ∀ b, (q.bk b).params = (p.bk b).params
  blen : ∀ b, (q.bk b).body.length ≤ (p.bk b).body.length
  sub : ∀ b, ∀ s ∈ (q.bk b).body, s ∈ (p.bk b).body
  made : ∀ b k, madeBy (q.bk b).body k = madeBy (p.bk b).body k

theorem madeS_turned {p q : Pr} (h : Turned p q) (b k d : Int) : madeS q b k d = madeS p b k d := by
  unfold madeS
  rw [h.len, h.kind, h.parent]
theorem stmtS_turned {p q : Pr} (h : Turned p q) (b : Int) (s : St) : stmtS q b s = stmtS p b s := by
  unfold stmtS
  rw [h.kind, show madeS q b = madeS p b from funext fun k => funext fun d => madeS_turned h b k d]
theorem headOk_turned {p q : Pr} (h : Turned p q) (i b : Int) : headOk i (q.bk b) = headOk i (p.bk b) := by
  unfold headOk
  rw [h.kind, h.parent, h.params]

theorem shape_turned {p q : Pr} (h : Turned p q) (hp : shape p = true) : shape q = true := by
  unfold shape at hp ⊢
  rw [Bool.and_eq_true, Bool.and_eq_true, List.all_eq_true, List.all_eq_true] at hp
  rw [Bool.and_eq_true, Bool.and_eq_true, List.all_eq_true, List.all_eq_true, h.len]
  refine ⟨hp.1, fun i hi => ?_, fun i hi => ?_⟩
  · have h1 := hp.2.1 i hi
    unfold blockS at h1 ⊢
    rw [Bool.and_eq_true, Bool.and_eq_true, List.all_eq_true, decide_eq_true_iff] at h1
    rw [Bool.and_eq_true, Bool.and_eq_true, List.all_eq_true, decide_eq_true_iff, headOk_turned h]
    exact ⟨h1.1, Nat.le_trans (h.blen _) h1.2.1, fun s hs => by rw [stmtS_turned h]; exact h1.2.2 s (h.sub _ s hs)⟩
  · have h1 := hp.2.2 i hi
    unfold madeIn at h1 ⊢
    rw [h.parent, h.made]
    exact h1

/-- Another body for one block. -/
def withBody (p : Pr) (b : Nat) (l : List St) : Pr := p.set b { p.bk b with body := l }

theorem withBody_bk {p : Pr} {b : Nat} {l : List St} (hb : b < p.length) (c : Int) : (withBody p b l).bk c = if c.toNat = b then { p.bk b with body := l } else p.bk c := by
  unfold withBody Pr.bk
  simp only [List.getD, List.getElem?_set]
  by_cases e : b = c.toNat
  · rw [if_pos e, if_pos e.symm, if_pos hb]
    rfl
  · rw [if_neg e, if_neg (fun h => e h.symm)]

theorem turned_body {p : Pr} {b : Nat} {l : List St} (hb : b < p.length) (hl : l.length ≤ (p.bk b).body.length) (hs : ∀ s ∈ l, s ∈ (p.bk b).body) (hm : ∀ k, madeBy l k = madeBy (p.bk b).body k) : Turned p (withBody p b l) := by
  have key : ∀ c : Int, c.toNat = b → p.bk c = p.bk b := fun c hc => by unfold Pr.bk; rw [hc]; simp
  refine ⟨by simp [withBody], fun c => ?_, fun c => ?_, fun c => ?_, fun c => ?_, fun c => ?_, fun c k => ?_⟩
  all_goals
    rw [withBody_bk hb]
    by_cases e : c.toNat = b
    · (rw [if_pos e, key c e]) <;> first | rfl | exact hl | exact hs | exact hm k
    · (rw [if_neg e]) <;> first | rfl | exact Nat.le_refl _ | exact fun _ h => h

/-- The body of a block in reverse order. -/
theorem turned_reverse {p : Pr} {b : Nat} (hb : b < p.length) : Turned p (withBody p b (p.bk b).body.reverse) :=
  turned_body hb (by simp) (fun s hs => by simpa using hs) (fun k => by simp [madeBy])

/-- The body of a block without one statement that makes nothing. -/
theorem turned_erase {p : Pr} {b i : Nat} (hb : b < p.length) (hi : i < (p.bk b).body.length) (hm : ((p.bk b).body.getD i default).makes = false) : Turned p (withBody p b ((p.bk b).body.take i ++ (p.bk b).body.drop (i + 1))) := by
  have e : (p.bk b).body = (p.bk b).body.take i ++ ((p.bk b).body.getD i default :: (p.bk b).body.drop (i + 1)) := by
    have : (p.bk b).body.getD i default = (p.bk b).body[i] := by simp [List.getD, hi]
    rw [this, List.getElem_cons_drop, List.take_append_drop]
  refine turned_body hb (by simp; omega) (fun s hs => ?_) (fun k => ?_)
  · rw [List.mem_append] at hs
    exact hs.elim (fun h => List.mem_of_mem_take h) (fun h => List.mem_of_mem_drop h)
  · conv => rhs; rw [e]
    rw [madeBy_append, madeBy_append]
    congr 1
    unfold madeBy
    rw [List.countP_cons_of_neg]
    rw [hm]
    simp

/-! ### how long the lists are -/
theorem upto_len7 {p : Pr} (hs : shape p = true) (f : Int → Bool) : (upto f p.length).length ≤ 1000000 := by
  have h1 := upto_len f p.length
  have h2 := shape_len hs
  omega
theorem nms_lenB (f : Int → Bool) : (nms f).length ≤ 1000000 := by have := nms_len f; omega
theorem rKids_len (p : Pr) (b : Int) : (rKids p b).length ≤ 1000000 := by
  unfold rKids
  cases h : shapeAt p b with
  | true => exact upto_len7 (shapeAt_iff.1 h).1 _
  | false => simp
theorem rInsides_len (p : Pr) (b : Int) : (rInsides p b).length ≤ 1000000 := by
  unfold rInsides
  cases h : shapeAt p b with
  | true => exact upto_len7 (shapeAt_iff.1 h).1 _
  | false => simp
theorem rRead_len (p : Pr) (b : Int) : (rRead p b).length ≤ 1000000 := by unfold rRead; split; exact nms_lenB _; simp
theorem rBound_len (p : Pr) (b : Int) : (rBound p b).length ≤ 1000000 := by unfold rBound; split; exact nms_lenB _; simp
theorem rDecl_len (p : Pr) (b d : Int) : (rDecl p b d).length ≤ 1000000 := by unfold rDecl; split; exact nms_lenB _; simp
theorem rUsed_len (p : Pr) (b : Int) : (rUsed p b).length ≤ 1000000 := by unfold rUsed; split; exact nms_lenB _; simp
theorem rFrees_len (p : Pr) (b : Int) : (rFrees p b).length ≤ 1000000 := by unfold rFrees; split; exact nms_lenB _; simp
theorem rCells_len (p : Pr) (b : Int) : (rCells p b).length ≤ 1000000 := by unfold rCells; split; exact nms_lenB _; simp
theorem rFasts_len (p : Pr) (b : Int) : (rFasts p b).length ≤ 1000000 := by unfold rFasts; split; exact nms_lenB _; simp
theorem rTouch_len (p : Pr) (b x : Int) : (rTouch p b x).length ≤ 1000000 := by
  unfold rTouch
  split
  · rename_i h
    rw [Bool.and_eq_true] at h
    unfold validB validP at h
    simp only [Bool.and_eq_true] at h
    exact upto_len7 h.1.1.1 _
  · simp

end Go.Proofs.YtpajkejdfalkiaaDoor
