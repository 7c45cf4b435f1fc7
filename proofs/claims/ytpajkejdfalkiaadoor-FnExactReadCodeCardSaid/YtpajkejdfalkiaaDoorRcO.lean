/-
  Walks: the program's ReadCode: its deferred closure's two contracts, the two ways. Conditions: the table of words holds the words, internal/bytealg's variable holds a number; the text is at most 2^20 bytes long.
-/
import Derived.Test.YtpajkejdfalkiaaDoorRcN
import Derived.Defers
import Derived.Recover
namespace Go.Proofs.YtpajkejdfalkiaaDoor
open Go.RowKit
set_option linter.unusedVariables false

theorem I_catch (p q : Addr) (x y : Value) (v : Value) (older : List PanicEntry) (w : World) (hx : w.cell? p = some x) (hxf : w.frozen? p = false) (hy : ∀ u, (w.setCell p u).cell? q = some y) (hyf : ∀ u, (w.setCell p u).frozen? q = false) (u : TypeId) (pv : Value) :
    CallsD Tryd.prog 38 #[.pointer (some p), .pointer (some q)] (.panicking ({ v := .iface u pv, recovered := false } :: older)) w fun e u' w' =>
      e = .returned (.tuple #[]) ∧ u' = .panicking ({ v := .iface u pv, recovered := true } :: older) ∧ w' = (w.setCell p (.slice none 0 0)).setCell q (.bool false) := by
  refine callsD_of_wpS Tryd.func38 rfl fun c₀ cs hu => ?_
  apply wpS_seq
  apply wpS_region
  simp [wpOpsS, go_sem, recoverD, hu, Tryd.ntmps38, Exit.thenS]
  refine wpS_cond (t := true) (by simp [Act.eval, Array.replicate]) ?_
  simp only [if_true]
  apply wpS_region
  simp [wpOpsS, go_sem, hx, hxf, hy, hyf, bodyPostS, results, Tryd.results38]

theorem I_idle (p q : Addr) (w : World) :
    CallsD Tryd.prog 38 #[.pointer (some p), .pointer (some q)] .returning w fun e u' w' => e = .returned (.tuple #[]) ∧ u' = .returning ∧ w' = w := by
  refine callsD_of_wpS Tryd.func38 rfl fun c₀ cs hu => ?_
  apply wpS_seq
  apply wpS_region
  simp [wpOpsS, go_sem, recoverD, hu, Tryd.ntmps38, Exit.thenS]
  refine wpS_cond (t := false) (by simp [Act.eval, Array.replicate]) ?_
  simp only [Bool.false_eq_true, if_false]
  refine wpS_of_wp (wp_skip ?_)
  cases c₀
  simp_all [bodyPostS, results, Tryd.results38]

set_option maxRecDepth 100000 in
set_option maxHeartbeats 2000000 in
theorem I_ReadCode (s : ByteArray) (m : Int) (w : World) (hs : s.size ≤ 1048576) (hT : ∀ k, k < 21 → w.cell? ⟨2, k, none⟩ = some (.string (opWd k))) (hm : w.cell? ⟨3, 0, none⟩ = some (.int .i64 m)) :
    Calls Tryd.prog 18 #[.string s] w fun e w' => ∃ v', e = .returned (.tuple #[v', .bool (rCodeB s)]) ∧ Ops w' w.heap.size v' (rCodeL s) ∧ Below w.heap.size w w' := by
  have hmf : ∀ (fn : Fn) (first cap : Array Value) (w : World), (Instr.makeFunc fn first cap).run Tryd.prog w = .ok (.func fn first cap) w := fun _ _ _ _ => rfl
  have hz3 := World.block_lt_of_cell? _ _ hm
  simp only at hz3
  obtain ⟨W, hW⟩ : ∃ W : World, W = (w.alloc (.cells #[.slice none 0 0] 40)).alloc (.cells #[.bool false] 4) := ⟨_, rfl⟩
  have hbW : Below w.heap.size w W := by rw [hW]; exact bal al1 _
  have H := Lib.hid (I_readOps s m W hs (fun k hk => (hbW.cell (p := ⟨2, k, none⟩) (by show 2 < _; omega)).trans (hT k hk)) ((hbW.cell (p := ⟨3, 0, none⟩) hz3).trans hm))
  have HBW := Lib.hid hbW
  have hzW : W.heap.size = w.heap.size + 2 := by rw [hW]; simp
  have cX : ∀ w', Below W.heap.size W w' → w'.cell? ⟨w.heap.size, 0, none⟩ = some (.slice none 0 0) ∧ w'.cell? ⟨w.heap.size + 1, 0, none⟩ = some (.bool false) ∧ w'.frozen? ⟨w.heap.size, 0, none⟩ = false ∧ w'.frozen? ⟨w.heap.size + 1, 0, none⟩ = false := fun w' hb => by
    subst hW
    exact ⟨(hb.cell (p := ⟨w.heap.size, 0, none⟩) (by simp only [World.size_alloc]; omega)).trans (by simp [go_sem]), (hb.cell (p := ⟨w.heap.size + 1, 0, none⟩) (by simp only [World.size_alloc]; omega)).trans (by simp [go_sem]), (hb.frozen (p := ⟨w.heap.size, 0, none⟩) (by simp only [World.size_alloc]; omega)).trans (by simp [go_sem]), (hb.frozen (p := ⟨w.heap.size + 1, 0, none⟩) (by simp only [World.size_alloc]; omega)).trans (by simp [go_sem])⟩
  have CX := Lib.hid cX
  rw [hW] at H
  clear hbW cX hT hm
  go_enter_defers Tryd.func18, Tryd.ntmps18
  go_wp2_with fail
  refine H.out.mono ?_
  rintro e w1 ⟨hout, hb1⟩
  rw [← hW] at hout hb1
  obtain ⟨c0, c1, f0, f1⟩ := CX.out _ hb1
  have HB1 := Lib.hid (HBW.out.trans (show Below w.heap.size W w1 from hb1.mono (by omega)))
  have hz1 := hb1.size
  clear hb1 hW
  rcases hout with ⟨hnone, rfl⟩ | ⟨D, v', hsome, rfl, hops⟩
  · have HN := Lib.hid hnone
    clear hnone
    go_wp2
    refine leaves_cons (f := 38) (args := #[.pointer (some ⟨w.heap.size, 0, none⟩), .pointer (some ⟨w.heap.size + 1, 0, none⟩)]) (by simp) (by simp [go_sem]) ?_
    refine (I_catch ⟨w.heap.size, 0, none⟩ ⟨w.heap.size + 1, 0, none⟩ (.slice none 0 0) (.bool false) (.bool false) [] w1 c0 f0 (fun u => by simp [go_sem, c1]) (fun u => by simp [go_sem, f1]) _ _).mono ?_
    rintro e u' w'' ⟨rfl, rfl, rfl⟩
    have hlt1 : w.heap.size + 1 < w1.heap.size := by omega
    have r0 : ((w1.setCell ⟨w.heap.size, 0, none⟩ (.slice none 0 0)).setCell ⟨w.heap.size + 1, 0, none⟩ (.bool false)).cell? ⟨w.heap.size, 0, none⟩ = some (.slice none 0 0) := by simp [go_sem, c0]
    have r1 : ((w1.setCell ⟨w.heap.size, 0, none⟩ (.slice none 0 0)).setCell ⟨w.heap.size + 1, 0, none⟩ (.bool false)).cell? ⟨w.heap.size + 1, 0, none⟩ = some (.bool false) := by simp [go_sem, c1]
    have hB := (HB1.out.setCell (p := ⟨w.heap.size, 0, none⟩) (Nat.le_refl _) (.slice none 0 0)).setCell (p := ⟨w.heap.size + 1, 0, none⟩) (Nat.le_succ _) (.bool false)
    generalize (w1.setCell ⟨w.heap.size, 0, none⟩ (.slice none 0 0)).setCell ⟨w.heap.size + 1, 0, none⟩ (.bool false) = w2 at *
    simp [Leaves, settle, results, Tryd.results18, go_sem, r0, r1]
    refine ⟨_, ⟨rfl, ?_⟩, ?_, hB⟩
    · unfold rCodeB; rw [HN.out]; rfl
    · unfold rCodeL; rw [HN.out]; exact Ops.nil _ _
  · have HS := Lib.hid hsome
    have HO := Lib.hid hops
    obtain ⟨oA, oC, rfl⟩ := hops.form
    obtain ⟨n, hn⟩ : ∃ n : Nat, n = D.length := ⟨_, rfl⟩
    rw [← hn] at HO
    have HNN := Lib.hid hn
    clear hsome hops hn
    rw [← HNN.out]
    go_wp2
    trace_state
    refine leaves_cons (f := 38) (args := #[.pointer (some ⟨w.heap.size, 0, none⟩), .pointer (some ⟨w.heap.size + 1, 0, none⟩)]) (by simp) (by simp [go_sem]) ?_
    refine (I_idle ⟨w.heap.size, 0, none⟩ ⟨w.heap.size + 1, 0, none⟩ _).mono ?_
    rintro e u' w'' ⟨rfl, rfl, rfl⟩
    have hlt1 : w.heap.size + 1 < w1.heap.size := by omega
    have r0 : ((w1.setCell ⟨w.heap.size, 0, none⟩ (.slice oA n oC)).setCell ⟨w.heap.size + 1, 0, none⟩ (.bool true)).cell? ⟨w.heap.size, 0, none⟩ = some (.slice oA n oC) := by simp [go_sem, c0]
    have r1 : ((w1.setCell ⟨w.heap.size, 0, none⟩ (.slice oA n oC)).setCell ⟨w.heap.size + 1, 0, none⟩ (.bool true)).cell? ⟨w.heap.size + 1, 0, none⟩ = some (.bool true) := by simp [go_sem, c1]
    have hB := (HB1.out.setCell (p := ⟨w.heap.size, 0, none⟩) (Nat.le_refl _) (.slice oA n oC)).setCell (p := ⟨w.heap.size + 1, 0, none⟩) (Nat.le_succ _) (.bool true)
    have hlow : ∀ b, b < W.heap.size → (Value.slice oA n oC).ownBlock = none ∨ (Value.slice oA n oC).ownBlock ≠ some b := fun b hb => by
      rcases HO.out.2 with ⟨h, _⟩ | ⟨g, cap, cur, h, hg, _⟩
      · left; rw [h]; rfl
      · right; rw [h]; simp only [Value.ownBlock, ne_eq, Option.some.injEq]; omega
    have hO2 : Ops ((w1.setCell ⟨w.heap.size, 0, none⟩ (.slice oA n oC)).setCell ⟨w.heap.size + 1, 0, none⟩ (.bool true)) W.heap.size (.slice oA n oC) D :=
      World.ownsRow.kept (World.ownsRow.kept HO.out (grow_set w1 w.heap.size 0 _) (hlow _ (by omega))) (grow_set _ (w.heap.size + 1) 0 _) (hlow _ (by omega))
    generalize (w1.setCell ⟨w.heap.size, 0, none⟩ (.slice oA n oC)).setCell ⟨w.heap.size + 1, 0, none⟩ (.bool true) = w2 at *
    simp [Leaves, settle, results, Tryd.results18, go_sem, r0, r1]
    refine ⟨_, ⟨rfl, ?_⟩, ?_, hB⟩
    · unfold rCodeB; rw [HS.out]; rfl
    · unfold rCodeL; rw [HS.out]; exact hO2.lo_ (by omega)
end Go.Proofs.YtpajkejdfalkiaaDoor
