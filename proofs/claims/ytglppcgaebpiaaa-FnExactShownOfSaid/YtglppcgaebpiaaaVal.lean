/-
  The law ShownOf: its argument, and the walks. No condition.
-/
import Derived.Test.YtglppcgaebpiaaaFacts
import Derived.Test.YtglppcgaebpiaaaEq
import Derived.Test.YtglppcgaebpiaaaFrame
import Derived.Test.YtglppcgaebpiaaaSpec6
namespace Go.Proofs.Ytglppcgaebpiaaa
open Go.ChangeShapes Go.WideShapes Go.ChangeAt Go.RowKit
set_option linter.unusedVariables false

def OVal (v : Value) (a b : Int) : Prop := v = .agg #[.int .i64 a, .int .i64 b]
def shownF (a b : Int) : Int := if a = 1 then b else if a = 2 then -2 else if a = 3 then -3 else -1

section
variable {H : Type} {enc : TypeId × Value → H} {w : World} {base : Nat} {spare : Nat → Bool} {held : Bool}
set_option maxRecDepth 100000 in
theorem open_ovalue {v : Value} {d : DataW H} {ps : List MemPlace} {r : Reach} {b0 : Nat} (hv : Value.okWide Try.prog w r b0 24 v) (h : DataW.Trod enc Try.prog w base spare held 24 v d ps) : ∃ a b, OVal v a b := by
  obtain ⟨cs, rfl, hsz⟩ := okWide_struct Try.underlying24 hv
  obtain ⟨l⟩ := cs
  obtain ⟨fuel, hf⟩ := h
  have hl1 : l.length = 2 := hsz.trans (by kernel_rfl)
  obtain ⟨c0, c1, rfl⟩ : ∃ c0 c1, l = [c0, c1] := by
    match l, hl1 with
    | [c0, c1], _ => exact ⟨c0, c1, rfl⟩
  obtain ⟨m, y, ht⟩ := field_of Try.underlying24 (by kernel_rfl) (by simpa [Value.cells] using hf) 0 _ c0 rfl rfl
  obtain ⟨m', y', ht'⟩ := field_of Try.underlying24 (by kernel_rfl) (by simpa [Value.cells] using hf) 1 _ c1 rfl rfl
  obtain ⟨q, hq, _⟩ := DataW.trod_int Try.underlying3 ht
  obtain ⟨q', hq', _⟩ := DataW.trod_int Try.underlying3 ht'
  simp only [List.cons.injEq, and_true] at hq hq'
  subst hq hq'
  exact ⟨q, q', rfl⟩
end

set_option maxRecDepth 100000 in
theorem S_shown (a b : Int) (w : World) :
    Calls Try.prog 91 #[.agg #[.int .i64 a, .int .i64 b]] w fun e w' => e = .returned (.int .i64 (shownF a b)) ∧ Below w.heap.size w w' := by
  generalize hR : shownF a b = R
  unfold shownF at hR
  by_cases h1 : a = 1
  · have b1 : (a == 1) = true := by simp [h1]
    rw [if_pos h1] at hR
    have HR := Lib.hid hR
    clear hR h1
    go_enter Try.func91, Try.ntmps91
    go_wp2
    go_ret
    exact ⟨ret_int HR.out, al1⟩
  · have b1 : (a == 1) = false := by simp [h1]
    rw [if_neg h1] at hR
    by_cases h2 : a = 2
    · have b2 : (a == 2) = true := by simp [h2]
      rw [if_pos h2] at hR
      have HR := Lib.hid hR
      clear hR h1 h2
      go_enter Try.func91, Try.ntmps91
      go_wp2
      go_ret
      exact ⟨ret_int HR.out, al1⟩
    · have b2 : (a == 2) = false := by simp [h2]
      rw [if_neg h2] at hR
      by_cases h3 : a = 3
      · have b3 : (a == 3) = true := by simp [h3]
        rw [if_pos h3] at hR
        have HR := Lib.hid hR
        clear hR h1 h2 h3
        go_enter Try.func91, Try.ntmps91
        go_wp2
        go_ret
        exact ⟨ret_int HR.out, al1⟩
      · have b3 : (a == 3) = false := by simp [h3]
        rw [if_neg h3] at hR
        have HR := Lib.hid hR
        clear hR h1 h2 h3
        go_enter Try.func91, Try.ntmps91
        go_wp2
        go_ret
        exact ⟨ret_int HR.out, al1⟩

set_option maxRecDepth 100000 in
theorem I_ShownOf (a b : Int) (w : World) :
    Calls Try.prog 31 #[.agg #[.int .i64 a, .int .i64 b]] w fun e w' => e = .returned (.int .i64 (shownF a b)) ∧ Below w.heap.size w w' := by
  generalize hR : shownF a b = R
  unfold shownF at hR
  by_cases h1 : a = 1
  · have b1 : (a == 1) = true := by simp [h1]
    rw [if_pos h1] at hR
    have HR := Lib.hid hR
    clear hR h1
    go_enter Try.func31, Try.ntmps31
    go_wp2
    go_ret
    exact ⟨ret_int HR.out, al1⟩
  · have b1 : (a == 1) = false := by simp [h1]
    rw [if_neg h1] at hR
    by_cases h2 : a = 2
    · have b2 : (a == 2) = true := by simp [h2]
      rw [if_pos h2] at hR
      have HR := Lib.hid hR
      clear hR h1 h2
      go_enter Try.func31, Try.ntmps31
      go_wp2
      go_ret
      exact ⟨ret_int HR.out, al1⟩
    · have b2 : (a == 2) = false := by simp [h2]
      rw [if_neg h2] at hR
      by_cases h3 : a = 3
      · have b3 : (a == 3) = true := by simp [h3]
        rw [if_pos h3] at hR
        have HR := Lib.hid hR
        clear hR h1 h2 h3
        go_enter Try.func31, Try.ntmps31
        go_wp2
        go_ret
        exact ⟨ret_int HR.out, al1⟩
      · have b3 : (a == 3) = false := by simp [h3]
        rw [if_neg h3] at hR
        have HR := Lib.hid hR
        clear hR h1 h2 h3
        go_enter Try.func31, Try.ntmps31
        go_wp2
        go_ret
        exact ⟨ret_int HR.out, al1⟩

set_option maxRecDepth 100000 in
theorem S_ShownOf (a b : Int) (w : World) :
    Calls Try.prog 29 #[.agg #[.int .i64 a, .int .i64 b]] w fun e w' => e = .returned (.int .i64 (shownF a b)) ∧ Below w.heap.size w w' := by
  go_enter Try.func29, Try.ntmps29
  go_wp2_with (go_at_call 91; refine (S_shown a b _).mono ?_; rintro e w1 ⟨rfl, hb1⟩)
  go_ret
  exact ⟨rfl, bthen al1 hb1⟩

set_option maxRecDepth 100000 in
theorem toValue_any (a b : Int) (w : World) :
    Calls Try.prog 30 #[.agg #[.int .i64 a, .int .i64 b]] w fun e w' => e = .returned (.agg #[.int .i64 a, .int .i64 b]) ∧ Below w.heap.size w w' := by
  go_enter Try.func30, Try.ntmps30
  go_wp2
  exact bodyPost_ret (v := .agg #[.int .i64 a, .int .i64 b]) (by simp [results, Try.results30, go_sem]) rfl ⟨rfl, al3⟩

theorem valCell (w : World) (vs : Array Value) (t : TypeId) (v : Value) (i : Nat) (h : vs[i]? = some v) : (w.alloc (.cells vs t)).cell? ⟨w.heap.size, i, none⟩ = some v := by
  simp [go_sem, h]

end Go.Proofs.Ytglppcgaebpiaaa
