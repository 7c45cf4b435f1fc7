/-
  Closed facts on the translated program's head, by way of its text as a list of letters' numbers: a direct run of the kernel over the text wants too much memory. No condition.
-/
import Derived.Test.YtiemhadpepbcjaaRows
import Derived.JoinedOf
import Derived.KernelRfl
namespace Go.Proofs.Ytiemhadpepbcjaa
open Go

def headCodes : List Nat := [
    104, 97, 114, 110, 101, 115, 115, 32, 51, 57, 48, 98, 102, 102, 55, 49, 100, 52, 49, 101, 101, 55, 101, 97, 97, 51, 49, 48, 52, 49, 100, 48, 56, 55, 98, 99, 52, 53, 52, 48, 99, 52, 102, 55, 56, 50,
    97, 57, 99, 53, 49, 97, 52, 51, 50, 97, 56, 99, 50, 102, 97, 56, 48, 49, 48, 51, 50, 50, 52, 100, 49, 54, 32, 99, 117, 116, 32, 97, 116, 32, 108, 111, 111, 112, 46, 101, 120, 97, 109, 112, 108, 101,
    47, 99, 108, 111, 115, 117, 114, 101, 99, 101, 108, 108, 115, 47, 108, 97, 119, 115, 46, 70, 110, 86, 97, 108, 105, 100, 80, 114, 111, 103, 114, 97, 109, 32, 108, 111, 111, 112, 46, 101, 120, 97, 109,
    112, 108, 101, 47, 99, 108, 111, 115, 117, 114, 101, 99, 101, 108, 108, 115, 47, 108, 97, 119, 115, 46, 70, 110, 66, 97, 114, 101, 80, 114, 111, 103, 114, 97, 109, 32, 108, 111, 111, 112, 46, 101, 120,
    97, 109, 112, 108, 101, 47, 99, 108, 111, 115, 117, 114, 101, 99, 101, 108, 108, 115, 47, 108, 97, 119, 115, 46, 70, 110, 69, 120, 97, 99, 116, 73, 100, 108, 101, 68, 101, 99, 108, 97, 114, 97, 116,
    105, 111, 110, 115, 32, 108, 111, 111, 112, 46, 101, 120, 97, 109, 112, 108, 101, 47, 99, 108, 111, 115, 117, 114, 101, 99, 101, 108, 108, 115, 47, 108, 97, 119, 115, 46, 70, 110, 69, 120, 97, 99, 116,
    83, 97, 109, 101, 77, 101, 97, 110, 105, 110, 103]

set_option maxRecDepth 100000 in
theorem head_eq : Try.prog.initOrder = String.ofList (headCodes.map Char.ofNat) := by kernel_rfl
theorem head_list : Try.prog.initOrder.toList = headCodes.map Char.ofNat := by rw [head_eq, String.toList_ofList]

set_option maxRecDepth 100000 in
theorem words3 : ∃ rest, behindMainWord (wordsSigns Try.prog.initOrder.toList) = "cut".toList :: rest := by
  rw [head_list]
  exact ⟨(behindMainWord (wordsSigns (headCodes.map Char.ofNat))).tail, by kernel_rfl⟩

theorem strip_cut : ∀ (ws : List String) (r : List (List Char)), (∀ o ∈ ws, ("cut".toList == o.toList) = false) → stripLifts ws ("cut".toList :: r) = ([], "cut".toList :: r)
  | [], _, _ => rfl
  | o :: os, r, h => by
    rw [stripLifts, h o (by simp)]
    exact strip_cut os r (fun x hx => h x (by simp [hx]))

theorem lifts_none : ∀ o ∈ liftWords, ("cut".toList == o.toList) = false := by
  have h : (liftWords.all fun o => !("cut".toList == o.toList)) = true := by kernel_rfl
  intro o ho
  have := List.all_eq_true.1 h o ho
  simpa using this

theorem may_of (P : Program) (rest : List (List Char)) (h : behindMainWord (wordsSigns P.initOrder.toList) = "cut".toList :: rest) (h1 : P.laysLater = false) (h2 : P.bearsReflect = false) (h3 : P.doorFits [] = true) : P.mayEnter = true := by
  unfold Program.mayEnter
  rw [h]
  have e := strip_cut liftWords rest lifts_none
  have a1 : ("cut".toList == "gc".toList) = false := by kernel_rfl
  have a2 : ("cut".toList == "spec".toList) = false := by kernel_rfl
  have a3 : ("cut".toList == "carried".toList) = false := by kernel_rfl
  simp only [e, a1, a2, a3, h1, h2, h3]
  simp

theorem lifts_of (P : Program) (rest : List (List Char)) (h : behindMainWord (wordsSigns P.initOrder.toList) = "cut".toList :: rest) : P.liftsFinal = false := by
  have e := strip_cut liftWords rest lifts_none
  unfold Program.liftsFinal Program.headLifts
  rw [h]
  simp only [e]
  simp

theorem make_of (P : Program) (rest : List (List Char)) (h : behindMainWord (wordsSigns P.initOrder.toList) = "cut".toList :: rest) : P.make = some .cut := by
  have a1 : ("cut".toList == "gc".toList) = false := by kernel_rfl
  have a2 : ("cut".toList == "spec".toList) = false := by kernel_rfl
  have a4 : ("cut".toList == "cut".toList) = true := by kernel_rfl
  unfold Program.make
  rw [h]
  simp only [a1, a2, a4]
  simp

theorem lays_not : Try.prog.laysLater = false := by kernel_rfl
theorem reflect_not : Try.prog.bearsReflect = false := by kernel_rfl
theorem door_fits : Try.prog.doorFits [] = true := by kernel_rfl

theorem may_enter : Try.prog.mayEnter = true := by
  obtain ⟨rest, h⟩ := words3
  exact may_of _ rest h lays_not reflect_not door_fits
theorem lifts_not : Try.prog.liftsFinal = false := by
  obtain ⟨rest, h⟩ := words3
  exact lifts_of _ rest h
theorem make_cut : Try.prog.make = some .cut := by
  obtain ⟨rest, h⟩ := words3
  exact make_of _ rest h
end Go.Proofs.Ytiemhadpepbcjaa
