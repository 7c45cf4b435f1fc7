/-
  Walks: the reference's allNames, seen, SeenIn. Condition: the argument reads as a program.
-/
import Derived.Test.YtiemhadpepbcjaaSpec13
namespace Go.Proofs.Ytiemhadpepbcjaa
open Go.RowKit
set_option linter.unusedVariables false

/-- What a block sees: P41. -/
def seenB (p : Pr) (b x : Int) : Bool := !decide ((p.bk b).kind = 1) || (locP p b x || freeB p b x)
def seenF (p : Pr) (b : Int) : List Int := nms (seenB p b)
def rSeen (p : Pr) (b : Int) : List Int := if validB p b then seenF p b else []
theorem rSeen_len (p : Pr) (b : Int) : (rSeen p b).length ≤ 1000000 := by unfold rSeen; split; exact nms_lenB _; simp
theorem seen_all {p : Pr} {b : Int} (hk : (p.bk b).kind ≠ 1) : nms (fun _ => true) = seenF p b := nms_congr fun x _ _ => by unfold seenB; rw [decide_eq_false hk]; rfl
theorem cell_loc {p : Pr} {b x : Int} (hb : 0 ≤ b) (h : cellB p b x = true) : locP p b x = true := by
  obtain ⟨_, c, h0, h1, h2, h3, h4⟩ := cellB_iff.1 h
  unfold locP
  rcases ownerF_cases p c x h0 with e | ⟨a1, _, a3, _⟩
  · rw [h4] at e
    omega
  · rw [h4] at a1 a3
    rw [decide_eq_true a1, Bool.true_and]
    exact a3
theorem seen_eq {p : Pr} {b : Int} (hs : shape p = true) (hb : 0 ≤ b) (hk : (p.bk b).kind = 1) : nms (hasF ((fastsF p b ++ cellsF p b) ++ freesF p b)) = seenF p b := by
  refine nms_congr fun x h0 h1 => ?_
  have e : ∀ l : List Int, hasF l x = l.contains x := fun _ => rfl
  rw [e, List.contains_append, List.contains_append, ← e, ← e, ← e]
  unfold fastsF cellsF freesF seenB
  rw [hasF_nms _ x h0 h1, hasF_nms _ x h0 h1, hasF_nms _ x h0 h1, decide_eq_true hk, fastB_yes hs hb hk]
  cases hc : cellB p b x
  · simp
  · rw [cell_loc hb hc]
    simp

end Go.Proofs.Ytiemhadpepbcjaa
