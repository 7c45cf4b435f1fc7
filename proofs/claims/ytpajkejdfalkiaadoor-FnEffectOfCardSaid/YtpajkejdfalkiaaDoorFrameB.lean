/-
  From the row's reading of its argument to the words of the walks: bytes. No condition.
-/
import Derived.Test.YtpajkejdfalkiaaDoorFrame
import Derived.Test.YtpajkejdfalkiaaDoorDraw1
namespace Go.Proofs.YtpajkejdfalkiaaDoor
open Go.ChangeShapes Go.WideShapes Go.ChangeAt Go.RowKit Go.Deep
set_option linter.unusedVariables false


set_option maxRecDepth 100000 in
theorem open_obytes {H : Type} {enc : TypeId × Value → H} {w : World} {base : Nat} {spare : Nat → Bool} {held : Bool} {v : Value} {d : DataW H} {ps : List MemPlace} {r : Reach} {b0 : Nat} (hv : Value.okWide Tryd.prog w r b0 22 v) (h : DataW.Trod enc Tryd.prog w base spare held 22 v d ps) : ∃ l, OBytes w v l := by
  obtain ⟨fuel, hf⟩ := h
  obtain ⟨v', n, f, hcs, ho, hel⟩ := old_slice Tryd.underlying22 (show Tryd.prog.cellsOf 5 = 1 by kernel_rfl) (by omega) hf
  obtain ⟨a0, l0, c0, rfl⟩ := okWide_slice Tryd.underlying22 hv
  have hvv : Value.slice a0 l0 c0 = v' := by simpa [Value.cells] using hcs
  subst hvv
  have hw : ∀ j, j < n → ∃ q : Int, f j = .int .u8 q ∧ 0 ≤ q ∧ q ≤ 255 := fun j hj => by
    obtain ⟨m, y, ht⟩ := hel j hj
    obtain ⟨q, hq, _, hwf⟩ := DataW.trod_int Tryd.underlying5 ht
    simp only [Nat.mul_one, List.range_one, List.map_cons, List.map_nil, Nat.add_zero, List.cons.injEq, and_true] at hq
    have := bounds_u8 hwf
    exact ⟨q, hq, this.1, this.2⟩
  refine ⟨(List.range n).map fun i => intOf (f i), ?_, ?_⟩
  · obtain ⟨A, C, b, o, h1, h2, h3, h4, h5⟩ := ho
    refine ⟨A, C, b, o, by simpa using h1, by simpa using h2, h3, by simpa using h4, fun j hj => ?_⟩
    have hj' : j < n := by simpa using hj
    obtain ⟨q, hq, _⟩ := hw j hj'
    rw [h5 j (by omega)]
    simp [List.getD, hj', hq, intOf]
  · intro x hx
    obtain ⟨i, hi, rfl⟩ := List.mem_map.1 hx
    obtain ⟨q, hq, h0, h1⟩ := hw i (by simpa using hi)
    rw [hq]
    exact ⟨h0, h1⟩

end Go.Proofs.YtpajkejdfalkiaaDoor
