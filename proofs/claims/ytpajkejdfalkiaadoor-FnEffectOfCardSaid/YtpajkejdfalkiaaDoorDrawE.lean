/-
  Walks: the reference's draw of an order. Condition: the argument reads as bytes.
-/
import Derived.Test.YtpajkejdfalkiaaDoorOpv
import Derived.Test.YtpajkejdfalkiaaDoorDraw2
import Derived.Test.YtpajkejdfalkiaaDoorFrameB
namespace Go.Proofs.YtpajkejdfalkiaaDoor
open Go.RowKit
set_option linter.unusedVariables false

set_option maxRecDepth 100000 in
set_option maxHeartbeats 2000000 in
theorem S_DrawEffectOf (v : Value) (l : List Int) (w : World) (hv : OBytes w v l) (hl : l.length ≤ 1048576) :
    Calls Tryd.prog 8 #[v] w fun e w' => ∃ a b : Int, e = .returned (.agg #[.int .i64 a, .int .i64 b]) ∧ (b = 0 ∨ b = 1 ∨ b = 5) ∧ Below w.heap.size w w' := by
  have hv1 := hv.keep (al1 (o := (.cells #[.int .i64 0, .int .i64 0] 24)))
  go_enter Tryd.func8, Tryd.ntmps8
  go_wp2_with fail
  refine (S_newReader v l _ hv1 hl).mono ?_
  rintro e w1 ⟨rfl, hr, hb, hz⟩
  have HR := Lib.hid hr
  rw [World.size_alloc] at hr
  have hb1 := bthen al1 hb
  have r1 := fun o => (bcell hb).1 w.heap.size o (by simp)
  have m1 := fun o => (bcell hb).2 w.heap.size o (by simp)
  have hcur := Only.refl (w.heap.size + 1) (w.heap.size + 1 + 1) w1
  clear hz HR
  go_wp2_with fail
  refine (S_pick (w.heap.size + 1) 0 21 _ hr (by omega)).mono ?_
  rintro e w2 ⟨y, rfl, hy0, hy1, hr, ho, hsz⟩
  clear hsz hy0 hy1
  have hcur := hcur.trans ho
  go_wp2_with fail
  refine (S_oneL (w.heap.size + 1) _ [y, 17, 21, -1] _ _ rfl hr (by omega) (by simp) (by simp)).mono ?_
  rintro e w3 ⟨a, rfl, ha, hr, ho⟩
  have hcur := hcur.trans ho
  go_wp2_with fail
  refine (S_oneL (w.heap.size + 1) _ [0, 1, 5] _ _ rfl hr (by omega) (by simp) (by simp)).mono ?_
  rintro e w4 ⟨b, rfl, hbm, hr, ho2⟩
  have hcur := hcur.trans ho2
  have hz1 : w.heap.size < w1.heap.size := by have := hb.size; simp at this; omega
  have r3 := fun o => ((ocell hcur).1 w.heap.size o (by omega) hz1).trans (r1 o)
  have m3 := fun o => ((ocell hcur).2 w.heap.size o (by omega) hz1).trans (m1 o)
  clear r1 m1
  go_wp2
  exact bodyPost_ret (v := .agg #[.int .i64 a, .int .i64 b]) (by simp [results, Tryd.results8, go_sem, r3]) rfl
    ⟨a, b, rfl, by simpa using hbm, ((hb1.trans ((hcur.below (by have := hb.size; simp at this; omega)).mono (by omega))).setCell (Nat.le_refl _) _).setCell (Nat.le_refl _) _⟩

theorem neg64_small (b : Int) (h : b = 0 ∨ b = 1 ∨ b = 5) : neg64 b = -b := by
  rcases h with rfl | rfl | rfl <;> kernel_rfl
theorem effF_small (a b : Int) (h : a ≠ 17) : effF a b = 1 ∨ effF a b = -1 ∨ effF a b = 0 := by
  unfold effF
  rw [if_neg h]
  split
  · exact .inl rfl
  · split
    · exact .inr (.inl rfl)
    · exact .inr (.inr rfl)

end Go.Proofs.YtpajkejdfalkiaaDoor
