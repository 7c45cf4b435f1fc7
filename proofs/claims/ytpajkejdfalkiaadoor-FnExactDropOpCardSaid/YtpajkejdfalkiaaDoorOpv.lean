/-
  The argument of the laws on EffectOf, the table that they read, and the walks. Condition: the listed table stands in memory.
-/
import Derived.Test.YtpajkejdfalkiaaDoorRows
import Derived.Test.YtpajkejdfalkiaaDoorTie
import Derived.Test.YtpajkejdfalkiaaDoorCards
import Derived.Test.YtpajkejdfalkiaaDoorFrame
import Derived.Test.YtpajkejdfalkiaaDoorSpec6
import Derived.LaidMore
import Derived.OpenShut
import Derived.ChangeVars
import Derived.WalkSmall
namespace Go.Proofs.YtpajkejdfalkiaaDoor
open Go.ChangeShapes Go.WideShapes Go.ChangeAt Go.RowKit
set_option linter.unusedVariables false

def OOp (v : Value) (a b : Int) : Prop := v = .agg #[.int .i64 a, .int .i64 b]
section
variable {H : Type} {enc : TypeId × Value → H} {w : World} {base : Nat} {spare : Nat → Bool} {held : Bool}
end

/-- The cells of an array of numbers that reads as a list. -/
theorem arr_cells {t : TypeId} {n : Nat} {W : World} {g : Nat} {nm : String} {cs : Array Value} {fuel : Nat} {ps : List MemPlace} {l : List Int} {enc : TypeId × Value → Unit} {sp : Nat → Bool} {hd : Bool} (ht : Tryd.prog.underlying t = some (.array n 3)) (hn : l.length = n)
    (hg : Tryd.prog.globalNamed nm = some g) (hv : W.var? Tryd.prog nm = some cs) (h : DataW.trod enc Tryd.prog W 0 sp hd fuel t cs.toList = some (.agg (l.map fun k => .lit (.int .i64 k)), ps)) :
    ∀ i, i < n → W.cell? ⟨g, i, none⟩ = some (.int .i64 (l.getD i 0)) := by
  obtain ⟨xs, m1, rfl, hx1, hlen, hn3, hel⟩ := DataW.trod_array ht h
  have c3 : Tryd.prog.cellsOf 3 = 1 := Tryd.cells3
  simp only [Prod.mk.injEq, DataW.agg.injEq] at hx1
  intro i hi
  have h0 := hel i hi
  rw [c3, Nat.mul_one] at h0
  have h1 := congrArg (fun l => l[i]?) hx1.1
  simp only [List.getElem?_map] at h1
  have hl : l[i]? = some (l.getD i 0) := by simp [List.getD, show i < l.length by omega]
  rw [hl] at h1
  rcases hx : xs[i]? with _ | x
  · rw [hx] at h1; simp at h1
  · rw [hx] at h0 h1
    obtain ⟨k, e1, e2, _⟩ := DataW.trod_int Tryd.underlying3 h0
    rw [e2] at h1
    simp only [Option.map_some, Option.some.injEq, DataW.lit.injEq, Lit.int.injEq, true_and] at h1
    rw [World.var?_cell hg hv i, h1]
    have := congrArg (fun l => l[0]?) e1
    simpa using this

def effL : List Int := [0, 1, 1, -1, 0, 1, -1, 0, 1, -1, 0, 1, -1, 0, -1, 1, 1, 0, 0, -1, -1]
theorem of_effects {W : World} (h : laidMetH Tryd.prog [("loop.example/closurecells/impl.effects", Rows.laid_loop_example_closurecells_impl_effects)] W) : ∀ i, i < 21 → W.cell? ⟨0, i, none⟩ = some (.int .i64 (effL.getD i 0)) := by
  rw [MakeChecks.laidMetH_plain _ _ _ (by kernel_rfl)] at h
  obtain ⟨ps, ⟨g0, t0, cs0, f0, p0, q0, hg0, ht0, hv0, hd0, _, _⟩, _, _⟩ := h
  obtain rfl := Option.some.inj ((show Tryd.prog.globalNamed "loop.example/closurecells/impl.effects" = some 0 by kernel_rfl).symm.trans hg0)
  obtain rfl := Option.some.inj ((show (Tryd.prog.globals[0]?).map (·.type) = some 51 by kernel_rfl).symm.trans ht0)
  exact arr_cells Tryd.underlying51 rfl hg0 hv0 hd0

def neg64 (b : Int) : Int := wrap64 (-b)
def effF (a b : Int) : Int := if a = 17 then neg64 b else if a = 1 ∨ a = 2 ∨ a = 5 ∨ a = 8 ∨ a = 11 ∨ a = 15 ∨ a = 16 then 1 else if a = 3 ∨ a = 6 ∨ a = 9 ∨ a = 12 ∨ a = 14 ∨ a = 19 ∨ a = 20 then -1 else 0
theorem effF_tab (k : Nat) (b : Int) (h : k < 21) (h17 : k ≠ 17) : effF k b = effL.getD k 0 := by
  have : k = 0 ∨ k = 1 ∨ k = 2 ∨ k = 3 ∨ k = 4 ∨ k = 5 ∨ k = 6 ∨ k = 7 ∨ k = 8 ∨ k = 9 ∨ k = 10 ∨ k = 11 ∨ k = 12 ∨ k = 13 ∨ k = 14 ∨ k = 15 ∨ k = 16 ∨ k = 18 ∨ k = 19 ∨ k = 20 := by omega
  rcases this with rfl | rfl | rfl | rfl | rfl | rfl | rfl | rfl | rfl | rfl | rfl | rfl | rfl | rfl | rfl | rfl | rfl | rfl | rfl | rfl <;> simp [effF, effL]
theorem effF_out (a b : Int) (h : a < 0 ∨ 21 ≤ a) : effF a b = 0 := by
  unfold effF
  rw [if_neg (by omega), if_neg (by omega), if_neg (by omega)]

set_option maxRecDepth 100000 in
theorem I_EffectOf (a b : Int) (w : World) (hT : ∀ i, i < 21 → w.cell? ⟨0, i, none⟩ = some (.int .i64 (effL.getD i 0))) :
    Calls Tryd.prog 9 #[.agg #[.int .i64 a, .int .i64 b]] w fun e w' => e = .returned (.int .i64 (effF a b)) ∧ Below w.heap.size w w' := by
  have HT := Lib.hid hT
  clear hT
  by_cases h17 : a = 17
  · subst h17
    go_enter Tryd.func9, Tryd.ntmps9
    go_wp2
    go_ret
    exact ⟨ret_int (by unfold effF neg64; simp), al1⟩
  · have b17 : (a == 17) = false := by simp [h17]
    by_cases hr : 0 ≤ a ∧ a < 21
    · obtain ⟨k, rfl⟩ : ∃ k : Nat, a = k := ⟨a.toNat, by omega⟩
      have hk : k < 21 := by omega
      have hc := HT.out k hk
      have he := effF_tab k b hk (by omega)
      rw [← he] at hc
      generalize effF k b = R at *
      have hl : ¬ ((k : Int) < 0) := by omega
      have hg : ¬ ((k : Int) ≥ 21) := by omega
      have hi : (k : Int) < 21 := by omega
      have h0 : (0 : Int) ≤ (k : Int) := by omega
      have h0b : 0 < w.heap.size := World.block_lt_of_cell? _ _ hc
      clear he h17 hr
      go_enter Tryd.func9, Tryd.ntmps9
      go_wp2
      go_ret
      exact ⟨rfl, al1⟩
    · have he := effF_out a b (by omega)
      rw [he]
      clear he h17
      by_cases hl : a < 0
      · go_enter Tryd.func9, Tryd.ntmps9
        go_wp2
        go_ret
        exact ⟨rfl, al1⟩
      · have hg : a ≥ 21 := by omega
        go_enter Tryd.func9, Tryd.ntmps9
        go_wp2
        go_ret
        exact ⟨rfl, al1⟩

set_option maxRecDepth 100000 in
set_option maxHeartbeats 2000000 in
theorem S_effect (a b : Int) (w : World) :
    Calls Tryd.prog 29 #[.agg #[.int .i64 a, .int .i64 b]] w fun e w' => e = .returned (.int .i64 (effF a b)) ∧ Below w.heap.size w w' := by
  by_cases h : a = 17 ∨ a = 1 ∨ a = 2 ∨ a = 5 ∨ a = 8 ∨ a = 11 ∨ a = 15 ∨ a = 16 ∨ a = 3 ∨ a = 6 ∨ a = 9 ∨ a = 12 ∨ a = 14 ∨ a = 19 ∨ a = 20
  · rcases h with rfl | rfl | rfl | rfl | rfl | rfl | rfl | rfl | rfl | rfl | rfl | rfl | rfl | rfl | rfl
    · go_enter Tryd.func29, Tryd.ntmps29
      go_wp2
      go_ret
      exact ⟨ret_int (by unfold effF neg64; simp), al1⟩
    all_goals
      go_enter Tryd.func29, Tryd.ntmps29
      go_wp2
      go_ret
      exact ⟨ret_int (by unfold effF; simp), al1⟩
  · have he : effF a b = 0 := by
      unfold effF
      rw [if_neg (by omega), if_neg (by omega), if_neg (by omega)]
    rw [he]
    have b17 : (a == 17) = false := by rw [beq_eq_false_iff_ne]; omega
    have b1 : (a == 1) = false := by rw [beq_eq_false_iff_ne]; omega
    have b2 : (a == 2) = false := by rw [beq_eq_false_iff_ne]; omega
    have b5 : (a == 5) = false := by rw [beq_eq_false_iff_ne]; omega
    have b8 : (a == 8) = false := by rw [beq_eq_false_iff_ne]; omega
    have b11 : (a == 11) = false := by rw [beq_eq_false_iff_ne]; omega
    have b15 : (a == 15) = false := by rw [beq_eq_false_iff_ne]; omega
    have b16 : (a == 16) = false := by rw [beq_eq_false_iff_ne]; omega
    have b3 : (a == 3) = false := by rw [beq_eq_false_iff_ne]; omega
    have b6 : (a == 6) = false := by rw [beq_eq_false_iff_ne]; omega
    have b9 : (a == 9) = false := by rw [beq_eq_false_iff_ne]; omega
    have b12 : (a == 12) = false := by rw [beq_eq_false_iff_ne]; omega
    have b14 : (a == 14) = false := by rw [beq_eq_false_iff_ne]; omega
    have b19 : (a == 19) = false := by rw [beq_eq_false_iff_ne]; omega
    have b20 : (a == 20) = false := by rw [beq_eq_false_iff_ne]; omega
    clear he h
    go_enter Tryd.func29, Tryd.ntmps29
    go_wp2
    go_ret
    exact ⟨rfl, al1⟩

set_option maxRecDepth 100000 in
theorem S_EffectOf (a b : Int) (w : World) :
    Calls Tryd.prog 10 #[.agg #[.int .i64 a, .int .i64 b]] w fun e w' => e = .returned (.int .i64 (effF a b)) ∧ Below w.heap.size w w' := by
  go_enter Tryd.func10, Tryd.ntmps10
  go_wp2_with (go_at_call 29; refine (S_effect a b _).mono ?_; rintro e w1 ⟨rfl, hb1⟩)
  go_ret
  exact ⟨rfl, bthen al1 hb1⟩

theorem opCell (w : World) (vs : Array Value) (t : TypeId) (v : Value) (i : Nat) (h : vs[i]? = some v) : (w.alloc (.cells vs t)).cell? ⟨w.heap.size, i, none⟩ = some v := by
  simp [go_sem, h]

end Go.Proofs.YtpajkejdfalkiaaDoor
