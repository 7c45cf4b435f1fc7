/-
  Walks: the reference's draws of one block, of statements that make one. Condition: the reader stands in memory.
-/
import Derived.Test.YtiemhadpepbcjaaDraw2
import Derived.Deep.RegionHeld3
import Derived.Deep.RegionLaw
namespace Go.Proofs.Ytiemhadpepbcjaa
open Go.RowKit
set_option linter.unusedVariables false

theorem Only.grow {a b : Nat} {w w1 w2 : World} {row : Option Nat} (h : Only a b w w1) (hg : w1.grownBy w2 row) (hr : ∀ k, row = some k → w.heap.size ≤ k) : Only a b w w2 :=
  ⟨hg.os.trans h.os, hg.tape.trans h.tape, hg.output.trans h.output, Nat.le_trans h.size hg.size, fun k hk hx => (hg.block k (Nat.lt_of_lt_of_le hk h.size) (fun e => by have := hr k e.symm; omega)).trans (h.block k hk hx)⟩

/-! ### one block in a variable of its own -/
abbrev K1 (w : World) (lo kb : Nat) (K : Bk) (pv bv : Value) : Prop := PRow w lo (.slice (some ⟨kb, 0, none⟩) 1 1) (bkCells K pv bv) [K]
section
variable {w w' : World} {lo kb : Nat} {K : Bk} {pv bv : Value}
theorem K1.cells (h : K1 w lo kb K pv bv) : w.cell? ⟨kb, 0, none⟩ = some (.int .i64 K.kind) ∧ w.cell? ⟨kb, 1, none⟩ = some (.int .i64 K.parent) ∧ w.cell? ⟨kb, 2, none⟩ = some pv ∧ w.cell? ⟨kb, 3, none⟩ = some bv ∧
    (∀ j, w.frozen? ⟨kb, j, none⟩ = false) ∧ kb < w.heap.size ∧ lo ≤ kb ∧ Ints w lo pv K.params ∧ Stmts w lo bv K.body := by
  obtain ⟨g, C, e, _, _, h1, h2, hc, hf⟩ := PRowX.rd h (by simp)
  simp only [Value.slice.injEq, Option.some.injEq, Addr.mk.injEq, and_true] at e
  obtain ⟨rfl, _⟩ := e
  exact ⟨hc 0 (by simp), hc 1 (by simp), hc 2 (by simp), hc 3 (by simp), hf, h2, h1, h.pars 0 (by simp), PRowX.full h (i := 0) (by simp)⟩
theorem K1.new {B : Nat} {w : World} (hB : w.heap.size = B) (hl : lo ≤ B) (kind parent : Int) : K1 (w.alloc (.cells #[.int .i64 kind, .int .i64 parent, .slice none 0 0, .slice none 0 0] 56)) lo B ⟨kind, parent, [], []⟩ (.slice none 0 0) (.slice none 0 0) :=
  PRowX.lit (k := ⟨kind, parent, [], []⟩) hB hl (Ints.nil _ _) (Stmts.nil _ _)
theorem K1.setBody {U : Value} {l : List St} (h : K1 w lo kb K pv bv) (hg : w.grownBy w' bv.ownBlock) (hU : Stmts w' lo U l) : K1 (w'.setCell ⟨kb, 3, none⟩ U) lo kb { K with body := l } pv U :=
  PRowX.setBody (k := 0) (PRowX.grown h (k := 0) (by simp) hg) (by simp) hU (fun i hi hne => absurd hi (by simp; omega))
theorem K1.setParams {U : Value} {l : List Int} (h : K1 w lo kb K pv bv) (hU : Ints w lo U l) : K1 (w.setCell ⟨kb, 2, none⟩ U) lo kb { K with params := l } U bv :=
  PRowX.setParams (k := 0) h (by simp) hU
end

/-- Behind an append to the body: the variable's cells. -/
theorem cell_grown {w w' : World} {lo kb : Nat} {K : Bk} {pv bv : Value} (h : K1 w lo kb K pv bv) (hg : w.grownBy w' bv.ownBlock) : w'.cell? ⟨kb, 3, none⟩ = some bv ∧ w'.frozen? ⟨kb, 3, none⟩ = false := by
  obtain ⟨_, _, _, c3, hf, hlt, _, _, hbv⟩ := K1.cells h
  have hne : some kb ≠ bv.ownBlock := by
    rcases own_types h.own hbv (by decide) with e | e
    · cases e
    · exact e
  have hb := hg.block kb hlt hne
  exact ⟨(World.cell?_of_block (a := ⟨kb, 3, none⟩) hb).trans c3, (World.frozen?_of_block (a := ⟨kb, 3, none⟩) hb).trans (hf 3)⟩

set_option maxRecDepth 100000 in
set_option maxHeartbeats 8000000 in
theorem S_someBlock (g m : Nat) (kind parent : Int) (w : World) (h : Rdr w g m) (hm : m ≤ 800000) :
    Calls Try.prog 68 #[.pointer (some ⟨g, 0, none⟩), .int .i64 kind, .int .i64 parent] w fun e w' => ∃ (K : Bk) (pv bv : Value), e = .returned (bkVal K pv bv) ∧ K.kind = kind ∧ K.parent = parent ∧ K.params.length ≤ 1 ∧ 1 ≤ K.body.length ∧ K.body.length ≤ 6 ∧ (∀ s ∈ K.body, 0 ≤ s.to ∧ s.to ≤ 7) ∧
      Ints w' w.heap.size pv K.params ∧ Stmts w' w.heap.size bv K.body ∧ Rdr w' g (m + 60) ∧ Only g (g + 1) w w' := by
  have hgl : g < w.heap.size := h.lt
  have hr := (h.keep (al1 (o := (.cells #[.int .i64 0, .int .i64 0, .slice none 0 0, .slice none 0 0] 56)))).keep (al1 (o := .cells #[.int .i64 kind, .int .i64 parent, .slice none 0 0, .slice none 0 0] 56))
  have hcur := Only.of_below (lo := g) (hi := g + 1) (al1 (w := (w.alloc (.cells #[.int .i64 0, .int .i64 0, .slice none 0 0, .slice none 0 0] 56))) (o := .cells #[.int .i64 kind, .int .i64 parent, .slice none 0 0, .slice none 0 0] 56))
  have hrow := K1.new (w := (w.alloc (.cells #[.int .i64 0, .int .i64 0, .slice none 0 0, .slice none 0 0] 56))) (lo := w.heap.size + 1) (B := w.heap.size + 1) (by simp) (Nat.le_refl _) kind parent
  clear h
  by_cases hk : kind = 1
  · subst hk
    go_enter Try.func68, Try.ntmps68
    go_wp2_with fail
    refine (S_pick g _ 3 _ hr (by omega)).mono ?_
    rintro e wp ⟨y, rfl, y0, y1, hr, ho, hsz⟩
    clear hsz
    have hrow := PRowX.only hrow ho (by omega)
    have hcur := hcur.trans ho
    by_cases hy : y = 0
    · have hyb : (y == 0) = true := by rw [hy]; rfl
      go_wp2_with fail
      refine (S_pick g _ 3 _ hr (by omega)).mono ?_
      rintro e wq ⟨y2, rfl, y20, y21, hr, ho, hsz⟩
      clear hsz
      have hrow := PRowX.only hrow ho (by omega)
      have hcur := hcur.trans ho
      obtain ⟨c0, c1, c2, c3, hfz, hlt2, _, hpv, hbv⟩ := K1.cells hrow
      have f2 := hfz 2
      clear c0 c1 c3 hfz hpv hbv
      have hrow := K1.setParams (PRowX.keep hrow al1) (Ints.litB rfl (by omega) [y2] (by simp))
      have hr := (hr.keep (al1 (o := .cells #[.int .i64 y2] 3))).store (p := ⟨w.heap.size + 1, 2, none⟩) (by show g < w.heap.size + 1; omega) (.slice (some ⟨wq.heap.size, 0, none⟩) 1 1)
      have hcur := (hcur.alloc (.cells #[.int .i64 y2] 3)).store (p := ⟨w.heap.size + 1, 2, none⟩) (by simp) (.slice (some ⟨wq.heap.size, 0, none⟩) 1 1)
      rw [World.setCell_alloc_past _ _ _ _ hlt2] at hr hcur
      have hrow : K1 _ _ _ _ _ _ := World.setCell_alloc_past (w := wq) (.cells #[.int .i64 y2] 3) (w.heap.size + 1) 2 (.slice (some ⟨wq.heap.size, 0, none⟩) 1 1) hlt2 ▸ hrow
      go_wp2_with fail
      obtain ⟨ps, pv, hpl, hrow⟩ : ∃ ps pv, ps.length ≤ 1 ∧ K1 _ (w.heap.size + 1) (w.heap.size + 1) ⟨1, parent, ps, []⟩ pv _ := ⟨[y2], _, by simp, hrow⟩
      refine (S_oneL g _ [3, 2, 4, 1, 5] _ (wq.heap.size + 1) (by first | rfl | simp [World.size_alloc]) hr (by omega) (by simp) (by simp)).mono ?_
      rintro e wn ⟨N, rfl, hN, hr, ho⟩
      have hrow := PRowX.only hrow ho (by omega)
      have hcur := hcur.trans ho
      have hN2 : 1 ≤ N ∧ N ≤ 5 := by simp at hN; omega
      clear hN ho
      go_wp2
      go_loopw [8] (fun i wr => ∃ (r : Nat) (bv : Value) (l : List St), i = .int .i64 r ∧ (r : Int) + l.length = N ∧ (∀ s ∈ l, 0 ≤ s.to ∧ s.to ≤ 7) ∧ K1 wr (w.heap.size + 1) (w.heap.size + 1) ⟨1, parent, ps, l⟩ pv bv ∧ Rdr wr g (m + 4 + 6 * l.length) ∧ Only g (g + 1) (w.alloc (.cells #[.int .i64 0, .int .i64 0, .slice none 0 0, .slice none 0 0] 56)) wr) (fun i _ => (intOf i).toNat)
      case atStart => exact ⟨N.toNat, _, [], by rw [Int.toNat_of_nonneg (by omega)], by simp; omega, fun s hs => absurd hs (by simp), hrow, hr.mono (by simp; try omega), hcur⟩
      case round =>
        clear hrow hr hcur
        obtain ⟨r, bv, l, rfl, hrl, hto, hrow, hr, hcur⟩ := hrel
        have HTO := Lib.hid hto
        clear hto
        by_cases hlt : 0 < r
        · obtain ⟨c0, c1, c2, c3, hfz, hlt2, _, hpv, hbv⟩ := K1.cells hrow
          have hrow := PRowX.keep hrow (below0 wr).drew
          have hbv := hbv.keep (below0 wr).drew
          have hr := hr.drew
          have hcur := hcur.drew
          clear c0 c1 c2 hlt2 hpv
          go_wp2
          go_region_law (first
          | (go_simp
             go_at_call 100
             refine (S_someStmt g _ 1 _ hr (by omega)).mono ?_
             rintro e ws ⟨⟨sk, st, sa, sb⟩, rfl, hto, hr, ho⟩
             have hrow := PRowX.only hrow ho (by omega)
             have hcur := hcur.trans ho
             obtain ⟨c0, c1, c2, c3, hfz, hlt2, _, hpv, hbv⟩ := K1.cells hrow)
          | (refine step_append_stmts rfl _ _ rfl bv _ l [St.mk sk st sa sb] (w.heap.size + 1) rfl rfl (hbv.keep al1) (Stmts.feed (Stmts.one rfl (Nat.le_refl _) _ _ _ _)) (by simp only [List.length_cons, List.length_nil]; omega) (by have := hcur.size; simp only [World.size_alloc] at this ⊢; omega) ?_
             intro U w1 hU hg1 hb1 hf1
             obtain ⟨A1, C1, rfl⟩ := hU.form
             rw [show (l ++ [St.mk sk st sa sb]).length = (l).length + 1 by simp] at hU hf1
             have hrow2 := K1.setBody (PRowX.keep hrow al1) hg1 hU
             have hr2 := (hr.keep al1).grown hg1 (fun k hk => by have := own_block_ge hbv k hk; omega)
             have hcur2 := ((hcur.alloc _).grow hg1 (fun k hk => by have := own_block_ge hbv k hk; simp only [World.size_alloc]; omega))
             obtain ⟨z1, z2⟩ := cell_grown (w' := w1) (PRowX.keep hrow al1) hg1))
          all_goals
            go_wp2
            go_roundw
            case rel => exact ⟨r - 1, _, l ++ [⟨sk, st, sa, sb⟩], by go_num, by simp; omega, fun s hs => (by
              rcases List.mem_append.1 hs with h | h
              · exact HTO.out s h
              · rw [List.mem_singleton.1 h]; exact hto), hrow2, (hr2.store (by show g < w.heap.size + 1; omega) _).mono (by simp; omega), hcur2.store (by simp) _⟩
            case measure => simp [intOf]; omega
        · obtain rfl : r = 0 := by omega
          have hl1 : 1 ≤ l.length ∧ l.length ≤ 5 := by omega
          go_wp2_with fail
          refine (S_pick g _ 2 _ hr (by omega)).mono ?_
          rintro e wp2 ⟨z, rfl, z0, z1, hr, ho, hsz⟩
          clear hsz
          have hrow := PRowX.only hrow ho (by omega)
          have hcur := hcur.trans ho
          by_cases hz : z = 0
          · have hzb : (z == 0) = true := by rw [hz]; rfl
            obtain ⟨c0, c1, c2, c3, hfz, hlt2, _, hpv, hbv⟩ := K1.cells hrow
            have hrow := PRowX.keep hrow (below0 wp2).drew
            have hbv := hbv.keep (below0 wp2).drew
            have hr := hr.drew
            have hcur := hcur.drew
            clear c0 c1 c2 hpv
            go_wp2
            go_region_law (first
          | (go_simp
             go_at_call 69
             refine (S_oneL g _ [0, 1, 4, 5] _ _ (by first | rfl | simp [World.size_alloc]) hr (by omega) (by simp) (by simp)).mono ?_
             rintro e ws ⟨u, rfl, hu, hr, ho⟩
             have hrow := PRowX.only hrow ho (by omega)
             have hcur := hcur.trans ho
             obtain ⟨c0, c1, c2, c3, hfz, hlt2, _, hpv, hbv⟩ := K1.cells hrow)
          | (refine step_append_stmts rfl _ _ rfl bv _ l [St.mk 8 0 u 0] (w.heap.size + 1) rfl rfl (hbv.keep al1) (Stmts.feed (Stmts.one rfl (Nat.le_refl _) _ _ _ _)) (by simp only [List.length_cons, List.length_nil]; omega) (by have := hcur.size; simp only [World.size_alloc] at this ⊢; omega) ?_
             intro U w1 hU hg1 hb1 hf1
             obtain ⟨A1, C1, rfl⟩ := hU.form
             rw [show (l ++ [St.mk 8 0 u 0]).length = (l).length + 1 by simp] at hU hf1
             have hrow2 := K1.setBody (PRowX.keep hrow al1) hg1 hU
             have hr2 := (hr.keep al1).grown hg1 (fun k hk => by have := own_block_ge hbv k hk; omega)
             have hcur2 := ((hcur.alloc _).grow hg1 (fun k hk => by have := own_block_ge hbv k hk; simp only [World.size_alloc]; omega))
             obtain ⟨z1, z2⟩ := cell_grown (w' := w1) (PRowX.keep hrow al1) hg1))
            all_goals
              have hrow := hrow2
              have hr := hr2.store (p := ⟨w.heap.size + 1, 3, none⟩) (by show g < w.heap.size + 1; omega) (.slice A1 (l.length + 1) C1)
              have hcur := hcur2.store (p := ⟨w.heap.size + 1, 3, none⟩) (by simp) (.slice A1 (l.length + 1) C1)
              clear hrow2 hr2 hcur2 hU hf1 hb1 hg1 hbv hpv z1 z2 c3 hfz
              have r1 := fun o => (ocell hcur).1 w.heap.size o (by omega) (by simp)
              have m1 := fun o => (ocell hcur).2 w.heap.size o (by omega) (by simp)
              obtain ⟨c0, c1, c2, c3, hfz, hlt2, _, hpv, hbv⟩ := K1.cells hrow
              obtain ⟨A2, C2, rfl⟩ := hpv.form
              obtain ⟨A3, hA3⟩ : ∃ A3, A3 = A1 := ⟨_, rfl⟩
              obtain ⟨C3, hC3⟩ : ∃ C3, C3 = C1 := ⟨_, rfl⟩
              subst hA3 hC3
              clear hfz hlt2
              go_wp2
              exact bodyPost_ret (v := bkVal ⟨1, parent, ps, l ++ [St.mk 8 0 u 0]⟩ (.slice A2 ps.length C2) (.slice A3 (l.length + 1) C3)) (by simp [results, Try.results68, go_sem, r1]) rfl
                ⟨⟨1, parent, ps, l ++ [St.mk 8 0 u 0]⟩, _, _, rfl, rfl, rfl, hpl, by first | omega | (simp; done) | (simp; omega), by first | omega | (simp; done) | (simp; omega), (fun s hs => (List.mem_append.1 hs).elim (HTO.out s) (fun h => by rw [List.mem_singleton.1 h]; exact ⟨Int.le_refl 0, (by decide : (0 : Int) ≤ 7)⟩)),
                  ((((hpv.set (Nat.lt_succ_self _) _).set (Nat.lt_succ_self _) _).set (Nat.lt_succ_self _) _).set (Nat.lt_succ_self _) _).lo_ (by omega), ((((hbv.set (Nat.lt_succ_self _) _).set (Nat.lt_succ_self _) _).set (Nat.lt_succ_self _) _).set (Nat.lt_succ_self _) _).lo_ (by omega),
                  ((((hr.store hgl _).store hgl _).store hgl _).store hgl _).mono (by first | omega | (simp; omega)), (((((Only.of_below al1).trans hcur).store (Nat.le_refl _) _).store (Nat.le_refl _) _).store (Nat.le_refl _) _).store (Nat.le_refl _) _⟩
          · have hzb : (z == 0) = false := by rw [beq_eq_false_iff_ne]; exact hz
            have r1 := fun o => (ocell hcur).1 w.heap.size o (by omega) (by simp)
            have m1 := fun o => (ocell hcur).2 w.heap.size o (by omega) (by simp)
            obtain ⟨c0, c1, c2, c3, hfz, hlt2, _, hpv, hbv⟩ := K1.cells hrow
            obtain ⟨A2, C2, rfl⟩ := hpv.form
            obtain ⟨A3, C3, rfl⟩ := hbv.form
            clear hfz hlt2
            go_wp2
            exact bodyPost_ret (v := bkVal ⟨1, parent, ps, l⟩ (.slice A2 ps.length C2) (.slice A3 (l).length C3)) (by simp [results, Try.results68, go_sem, r1]) rfl
              ⟨⟨1, parent, ps, l⟩, _, _, rfl, rfl, rfl, hpl, by first | omega | (simp; done) | (simp; omega), by first | omega | (simp; done) | (simp; omega), HTO.out,
                ((((hpv.set (Nat.lt_succ_self _) _).set (Nat.lt_succ_self _) _).set (Nat.lt_succ_self _) _).set (Nat.lt_succ_self _) _).lo_ (by omega), ((((hbv.set (Nat.lt_succ_self _) _).set (Nat.lt_succ_self _) _).set (Nat.lt_succ_self _) _).set (Nat.lt_succ_self _) _).lo_ (by omega),
                ((((hr.store hgl _).store hgl _).store hgl _).store hgl _).mono (by first | omega | (simp; omega)), (((((Only.of_below al1).trans hcur).store (Nat.le_refl _) _).store (Nat.le_refl _) _).store (Nat.le_refl _) _).store (Nat.le_refl _) _⟩

    · have hyb : (y == 0) = false := by rw [beq_eq_false_iff_ne]; exact hy
      go_wp2_with fail
      obtain ⟨ps, pv, hpl, hrow⟩ : ∃ ps pv, ps.length ≤ 1 ∧ K1 _ (w.heap.size + 1) (w.heap.size + 1) ⟨1, parent, ps, []⟩ pv _ := ⟨[], _, by simp, hrow⟩
      refine (S_oneL g _ [3, 2, 4, 1, 5] _ _ (by first | rfl | simp [World.size_alloc]) hr (by omega) (by simp) (by simp)).mono ?_
      rintro e wn ⟨N, rfl, hN, hr, ho⟩
      have hrow := PRowX.only hrow ho (by omega)
      have hcur := hcur.trans ho
      have hN2 : 1 ≤ N ∧ N ≤ 5 := by simp at hN; omega
      clear hN ho
      go_wp2
      go_loopw [8] (fun i wr => ∃ (r : Nat) (bv : Value) (l : List St), i = .int .i64 r ∧ (r : Int) + l.length = N ∧ (∀ s ∈ l, 0 ≤ s.to ∧ s.to ≤ 7) ∧ K1 wr (w.heap.size + 1) (w.heap.size + 1) ⟨1, parent, ps, l⟩ pv bv ∧ Rdr wr g (m + 4 + 6 * l.length) ∧ Only g (g + 1) (w.alloc (.cells #[.int .i64 0, .int .i64 0, .slice none 0 0, .slice none 0 0] 56)) wr) (fun i _ => (intOf i).toNat)
      case atStart => exact ⟨N.toNat, _, [], by rw [Int.toNat_of_nonneg (by omega)], by simp; omega, fun s hs => absurd hs (by simp), hrow, hr.mono (by simp; try omega), hcur⟩
      case round =>
        clear hrow hr hcur
        obtain ⟨r, bv, l, rfl, hrl, hto, hrow, hr, hcur⟩ := hrel
        have HTO := Lib.hid hto
        clear hto
        by_cases hlt : 0 < r
        · obtain ⟨c0, c1, c2, c3, hfz, hlt2, _, hpv, hbv⟩ := K1.cells hrow
          have hrow := PRowX.keep hrow (below0 wr).drew
          have hbv := hbv.keep (below0 wr).drew
          have hr := hr.drew
          have hcur := hcur.drew
          clear c0 c1 c2 hlt2 hpv
          go_wp2
          go_region_law (first
          | (go_simp
             go_at_call 100
             refine (S_someStmt g _ 1 _ hr (by omega)).mono ?_
             rintro e ws ⟨⟨sk, st, sa, sb⟩, rfl, hto, hr, ho⟩
             have hrow := PRowX.only hrow ho (by omega)
             have hcur := hcur.trans ho
             obtain ⟨c0, c1, c2, c3, hfz, hlt2, _, hpv, hbv⟩ := K1.cells hrow)
          | (refine step_append_stmts rfl _ _ rfl bv _ l [St.mk sk st sa sb] (w.heap.size + 1) rfl rfl (hbv.keep al1) (Stmts.feed (Stmts.one rfl (Nat.le_refl _) _ _ _ _)) (by simp only [List.length_cons, List.length_nil]; omega) (by have := hcur.size; simp only [World.size_alloc] at this ⊢; omega) ?_
             intro U w1 hU hg1 hb1 hf1
             obtain ⟨A1, C1, rfl⟩ := hU.form
             rw [show (l ++ [St.mk sk st sa sb]).length = (l).length + 1 by simp] at hU hf1
             have hrow2 := K1.setBody (PRowX.keep hrow al1) hg1 hU
             have hr2 := (hr.keep al1).grown hg1 (fun k hk => by have := own_block_ge hbv k hk; omega)
             have hcur2 := ((hcur.alloc _).grow hg1 (fun k hk => by have := own_block_ge hbv k hk; simp only [World.size_alloc]; omega))
             obtain ⟨z1, z2⟩ := cell_grown (w' := w1) (PRowX.keep hrow al1) hg1))
          all_goals
            go_wp2
            go_roundw
            case rel => exact ⟨r - 1, _, l ++ [⟨sk, st, sa, sb⟩], by go_num, by simp; omega, fun s hs => (by
              rcases List.mem_append.1 hs with h | h
              · exact HTO.out s h
              · rw [List.mem_singleton.1 h]; exact hto), hrow2, (hr2.store (by show g < w.heap.size + 1; omega) _).mono (by simp; omega), hcur2.store (by simp) _⟩
            case measure => simp [intOf]; omega
        · obtain rfl : r = 0 := by omega
          have hl1 : 1 ≤ l.length ∧ l.length ≤ 5 := by omega
          go_wp2_with fail
          refine (S_pick g _ 2 _ hr (by omega)).mono ?_
          rintro e wp2 ⟨z, rfl, z0, z1, hr, ho, hsz⟩
          clear hsz
          have hrow := PRowX.only hrow ho (by omega)
          have hcur := hcur.trans ho
          by_cases hz : z = 0
          · have hzb : (z == 0) = true := by rw [hz]; rfl
            obtain ⟨c0, c1, c2, c3, hfz, hlt2, _, hpv, hbv⟩ := K1.cells hrow
            have hrow := PRowX.keep hrow (below0 wp2).drew
            have hbv := hbv.keep (below0 wp2).drew
            have hr := hr.drew
            have hcur := hcur.drew
            clear c0 c1 c2 hpv
            go_wp2
            go_region_law (first
          | (go_simp
             go_at_call 69
             refine (S_oneL g _ [0, 1, 4, 5] _ _ (by first | rfl | simp [World.size_alloc]) hr (by omega) (by simp) (by simp)).mono ?_
             rintro e ws ⟨u, rfl, hu, hr, ho⟩
             have hrow := PRowX.only hrow ho (by omega)
             have hcur := hcur.trans ho
             obtain ⟨c0, c1, c2, c3, hfz, hlt2, _, hpv, hbv⟩ := K1.cells hrow)
          | (refine step_append_stmts rfl _ _ rfl bv _ l [St.mk 8 0 u 0] (w.heap.size + 1) rfl rfl (hbv.keep al1) (Stmts.feed (Stmts.one rfl (Nat.le_refl _) _ _ _ _)) (by simp only [List.length_cons, List.length_nil]; omega) (by have := hcur.size; simp only [World.size_alloc] at this ⊢; omega) ?_
             intro U w1 hU hg1 hb1 hf1
             obtain ⟨A1, C1, rfl⟩ := hU.form
             rw [show (l ++ [St.mk 8 0 u 0]).length = (l).length + 1 by simp] at hU hf1
             have hrow2 := K1.setBody (PRowX.keep hrow al1) hg1 hU
             have hr2 := (hr.keep al1).grown hg1 (fun k hk => by have := own_block_ge hbv k hk; omega)
             have hcur2 := ((hcur.alloc _).grow hg1 (fun k hk => by have := own_block_ge hbv k hk; simp only [World.size_alloc]; omega))
             obtain ⟨z1, z2⟩ := cell_grown (w' := w1) (PRowX.keep hrow al1) hg1))
            all_goals
              have hrow := hrow2
              have hr := hr2.store (p := ⟨w.heap.size + 1, 3, none⟩) (by show g < w.heap.size + 1; omega) (.slice A1 (l.length + 1) C1)
              have hcur := hcur2.store (p := ⟨w.heap.size + 1, 3, none⟩) (by simp) (.slice A1 (l.length + 1) C1)
              clear hrow2 hr2 hcur2 hU hf1 hb1 hg1 hbv hpv z1 z2 c3 hfz
              have r1 := fun o => (ocell hcur).1 w.heap.size o (by omega) (by simp)
              have m1 := fun o => (ocell hcur).2 w.heap.size o (by omega) (by simp)
              obtain ⟨c0, c1, c2, c3, hfz, hlt2, _, hpv, hbv⟩ := K1.cells hrow
              obtain ⟨A2, C2, rfl⟩ := hpv.form
              obtain ⟨A3, hA3⟩ : ∃ A3, A3 = A1 := ⟨_, rfl⟩
              obtain ⟨C3, hC3⟩ : ∃ C3, C3 = C1 := ⟨_, rfl⟩
              subst hA3 hC3
              clear hfz hlt2
              go_wp2
              exact bodyPost_ret (v := bkVal ⟨1, parent, ps, l ++ [St.mk 8 0 u 0]⟩ (.slice A2 ps.length C2) (.slice A3 (l.length + 1) C3)) (by simp [results, Try.results68, go_sem, r1]) rfl
                ⟨⟨1, parent, ps, l ++ [St.mk 8 0 u 0]⟩, _, _, rfl, rfl, rfl, hpl, by first | omega | (simp; done) | (simp; omega), by first | omega | (simp; done) | (simp; omega), (fun s hs => (List.mem_append.1 hs).elim (HTO.out s) (fun h => by rw [List.mem_singleton.1 h]; exact ⟨Int.le_refl 0, (by decide : (0 : Int) ≤ 7)⟩)),
                  ((((hpv.set (Nat.lt_succ_self _) _).set (Nat.lt_succ_self _) _).set (Nat.lt_succ_self _) _).set (Nat.lt_succ_self _) _).lo_ (by omega), ((((hbv.set (Nat.lt_succ_self _) _).set (Nat.lt_succ_self _) _).set (Nat.lt_succ_self _) _).set (Nat.lt_succ_self _) _).lo_ (by omega),
                  ((((hr.store hgl _).store hgl _).store hgl _).store hgl _).mono (by first | omega | (simp; omega)), (((((Only.of_below al1).trans hcur).store (Nat.le_refl _) _).store (Nat.le_refl _) _).store (Nat.le_refl _) _).store (Nat.le_refl _) _⟩
          · have hzb : (z == 0) = false := by rw [beq_eq_false_iff_ne]; exact hz
            have r1 := fun o => (ocell hcur).1 w.heap.size o (by omega) (by simp)
            have m1 := fun o => (ocell hcur).2 w.heap.size o (by omega) (by simp)
            obtain ⟨c0, c1, c2, c3, hfz, hlt2, _, hpv, hbv⟩ := K1.cells hrow
            obtain ⟨A2, C2, rfl⟩ := hpv.form
            obtain ⟨A3, C3, rfl⟩ := hbv.form
            clear hfz hlt2
            go_wp2
            exact bodyPost_ret (v := bkVal ⟨1, parent, ps, l⟩ (.slice A2 ps.length C2) (.slice A3 (l).length C3)) (by simp [results, Try.results68, go_sem, r1]) rfl
              ⟨⟨1, parent, ps, l⟩, _, _, rfl, rfl, rfl, hpl, by first | omega | (simp; done) | (simp; omega), by first | omega | (simp; done) | (simp; omega), HTO.out,
                ((((hpv.set (Nat.lt_succ_self _) _).set (Nat.lt_succ_self _) _).set (Nat.lt_succ_self _) _).set (Nat.lt_succ_self _) _).lo_ (by omega), ((((hbv.set (Nat.lt_succ_self _) _).set (Nat.lt_succ_self _) _).set (Nat.lt_succ_self _) _).set (Nat.lt_succ_self _) _).lo_ (by omega),
                ((((hr.store hgl _).store hgl _).store hgl _).store hgl _).mono (by first | omega | (simp; omega)), (((((Only.of_below al1).trans hcur).store (Nat.le_refl _) _).store (Nat.le_refl _) _).store (Nat.le_refl _) _).store (Nat.le_refl _) _⟩

  · have hkb : (kind == 1) = false := by rw [beq_eq_false_iff_ne]; exact hk
    go_enter Try.func68, Try.ntmps68
    go_wp2_with fail
    obtain ⟨ps, pv, hpl, hrow⟩ : ∃ ps pv, ps.length ≤ 1 ∧ K1 _ (w.heap.size + 1) (w.heap.size + 1) ⟨kind, parent, ps, []⟩ pv _ := ⟨[], _, by simp, hrow⟩
    refine (S_oneL g _ [3, 2, 4, 1, 5] _ _ (by first | rfl | simp [World.size_alloc]) hr (by omega) (by simp) (by simp)).mono ?_
    rintro e wn ⟨N, rfl, hN, hr, ho⟩
    have hrow := PRowX.only hrow ho (by omega)
    have hcur := hcur.trans ho
    have hN2 : 1 ≤ N ∧ N ≤ 5 := by simp at hN; omega
    clear hN ho
    go_wp2
    go_loopw [8] (fun i wr => ∃ (r : Nat) (bv : Value) (l : List St), i = .int .i64 r ∧ (r : Int) + l.length = N ∧ (∀ s ∈ l, 0 ≤ s.to ∧ s.to ≤ 7) ∧ K1 wr (w.heap.size + 1) (w.heap.size + 1) ⟨kind, parent, ps, l⟩ pv bv ∧ Rdr wr g (m + 4 + 6 * l.length) ∧ Only g (g + 1) (w.alloc (.cells #[.int .i64 0, .int .i64 0, .slice none 0 0, .slice none 0 0] 56)) wr) (fun i _ => (intOf i).toNat)
    case atStart => exact ⟨N.toNat, _, [], by rw [Int.toNat_of_nonneg (by omega)], by simp; omega, fun s hs => absurd hs (by simp), hrow, hr.mono (by simp; try omega), hcur⟩
    case round =>
      clear hrow hr hcur
      obtain ⟨r, bv, l, rfl, hrl, hto, hrow, hr, hcur⟩ := hrel
      have HTO := Lib.hid hto
      clear hto
      by_cases hlt : 0 < r
      · obtain ⟨c0, c1, c2, c3, hfz, hlt2, _, hpv, hbv⟩ := K1.cells hrow
        have hrow := PRowX.keep hrow (below0 wr).drew
        have hbv := hbv.keep (below0 wr).drew
        have hr := hr.drew
        have hcur := hcur.drew
        clear c0 c1 c2 hlt2 hpv
        go_wp2
        go_region_law (first
          | (go_simp
             go_at_call 100
             refine (S_someStmt g _ kind _ hr (by omega)).mono ?_
             rintro e ws ⟨⟨sk, st, sa, sb⟩, rfl, hto, hr, ho⟩
             have hrow := PRowX.only hrow ho (by omega)
             have hcur := hcur.trans ho
             obtain ⟨c0, c1, c2, c3, hfz, hlt2, _, hpv, hbv⟩ := K1.cells hrow)
          | (refine step_append_stmts rfl _ _ rfl bv _ l [St.mk sk st sa sb] (w.heap.size + 1) rfl rfl (hbv.keep al1) (Stmts.feed (Stmts.one rfl (Nat.le_refl _) _ _ _ _)) (by simp only [List.length_cons, List.length_nil]; omega) (by have := hcur.size; simp only [World.size_alloc] at this ⊢; omega) ?_
             intro U w1 hU hg1 hb1 hf1
             obtain ⟨A1, C1, rfl⟩ := hU.form
             rw [show (l ++ [St.mk sk st sa sb]).length = (l).length + 1 by simp] at hU hf1
             have hrow2 := K1.setBody (PRowX.keep hrow al1) hg1 hU
             have hr2 := (hr.keep al1).grown hg1 (fun k hk => by have := own_block_ge hbv k hk; omega)
             have hcur2 := ((hcur.alloc _).grow hg1 (fun k hk => by have := own_block_ge hbv k hk; simp only [World.size_alloc]; omega))
             obtain ⟨z1, z2⟩ := cell_grown (w' := w1) (PRowX.keep hrow al1) hg1))
        all_goals
          go_wp2
          go_roundw
          case rel => exact ⟨r - 1, _, l ++ [⟨sk, st, sa, sb⟩], by go_num, by simp; omega, fun s hs => (by
            rcases List.mem_append.1 hs with h | h
            · exact HTO.out s h
            · rw [List.mem_singleton.1 h]; exact hto), hrow2, (hr2.store (by show g < w.heap.size + 1; omega) _).mono (by simp; omega), hcur2.store (by simp) _⟩
          case measure => simp [intOf]; omega
      · obtain rfl : r = 0 := by omega
        have hl1 : 1 ≤ l.length ∧ l.length ≤ 5 := by omega
        have r1 := fun o => (ocell hcur).1 w.heap.size o (by omega) (by simp)
        have m1 := fun o => (ocell hcur).2 w.heap.size o (by omega) (by simp)
        obtain ⟨c0, c1, c2, c3, hfz, hlt2, _, hpv, hbv⟩ := K1.cells hrow
        obtain ⟨A2, C2, rfl⟩ := hpv.form
        obtain ⟨A3, C3, rfl⟩ := hbv.form
        clear hfz hlt2
        go_wp2
        exact bodyPost_ret (v := bkVal ⟨kind, parent, ps, l⟩ (.slice A2 ps.length C2) (.slice A3 (l).length C3)) (by simp [results, Try.results68, go_sem, r1]) rfl
          ⟨⟨kind, parent, ps, l⟩, _, _, rfl, rfl, rfl, hpl, by first | omega | (simp; done) | (simp; omega), by first | omega | (simp; done) | (simp; omega), HTO.out,
            ((((hpv.set (Nat.lt_succ_self _) _).set (Nat.lt_succ_self _) _).set (Nat.lt_succ_self _) _).set (Nat.lt_succ_self _) _).lo_ (by omega), ((((hbv.set (Nat.lt_succ_self _) _).set (Nat.lt_succ_self _) _).set (Nat.lt_succ_self _) _).set (Nat.lt_succ_self _) _).lo_ (by omega),
            ((((hr.store hgl _).store hgl _).store hgl _).store hgl _).mono (by first | omega | (simp; omega)), (((((Only.of_below al1).trans hcur).store (Nat.le_refl _) _).store (Nat.le_refl _) _).store (Nat.le_refl _) _).store (Nat.le_refl _) _⟩


set_option maxRecDepth 100000 in
set_option maxHeartbeats 4000000 in
theorem S_making (g m : Nat) (K : Bk) (pv bv : Value) (b : Int) (lo1 lo2 : Nat) (w : World) (h : Rdr w g m) (hm : m ≤ 800000) (hpv : Ints w lo1 pv K.params) (hbv : Stmts w lo2 bv K.body) :
    Calls Try.prog 70 #[.pointer (some ⟨g, 0, none⟩), bkVal K pv bv, .int .i64 b] w fun e w' => ∃ (v' : Value) (l : List St), e = .returned v' ∧ Stmts w' w.heap.size v' l ∧ 1 ≤ l.length ∧ l.length ≤ 2 ∧ (∀ s ∈ l, 0 ≤ s.to ∧ s.to ≤ 7) ∧ Rdr w' g (m + 5) ∧ Only g (g + 1) w w' := by
  obtain ⟨A2, C2, rfl⟩ := hpv.form
  obtain ⟨A3, C3, rfl⟩ := hbv.form
  obtain ⟨kind, parent, ps, body⟩ := K
  have hgl : g < w.heap.size := h.lt
  have hr := h.keep (al1 (o := .cells #[.int .i64 kind, .int .i64 parent, .slice A2 ps.length C2, .slice A3 body.length C3] 56))
  have hcur := Only.of_below (lo := g) (hi := g + 1) (al1 (w := w) (o := .cells #[.int .i64 kind, .int .i64 parent, .slice A2 ps.length C2, .slice A3 body.length C3] 56))
  have hcur0 := Only.refl g (g + 1) (w.alloc (.cells #[.int .i64 kind, .int .i64 parent, .slice A2 ps.length C2, .slice A3 body.length C3] 56))
  clear h hpv hbv
  by_cases hk : kind = 2
  · subst hk
    go_enter Try.func70, Try.ntmps70
    go_wp2
    go_ret
    exact ⟨_, [⟨4, 6, b, 0⟩], rfl, Stmts.one (by simp) (by omega) _ _ _ _, by simp, by simp, by simp, (hr.keep al1).mono (by omega), hcur.alloc _⟩
  · have hkb : (kind == 2) = false := by rw [beq_eq_false_iff_ne]; exact hk
    go_enter Try.func70, Try.ntmps70
    go_wp2_with fail
    refine (S_oneL g _ [4, 5] _ _ (by first | rfl | simp [World.size_alloc]) hr (by omega) (by simp) (by simp)).mono ?_
    rintro e w1 ⟨f, rfl, hf, hr, ho⟩
    have hf7 : 0 ≤ f ∧ f ≤ 7 := by simp at hf; omega
    have hcur := hcur.trans ho
    have hcur0 := hcur0.trans ho
    clear ho hf
    have hrow := Stmts.one (w := w1) (lo := w.heap.size) rfl hcur.size 3 f b 0
    have hcur := hcur.alloc (.cells #[.int .i64 3, .int .i64 f, .int .i64 b, .int .i64 0] 60)
    have hcur0 := hcur0.alloc (.cells #[.int .i64 3, .int .i64 f, .int .i64 b, .int .i64 0] 60)
    have hr := hr.keep (al1 (o := .cells #[.int .i64 3, .int .i64 f, .int .i64 b, .int .i64 0] 60))
    go_wp2_with fail
    refine (S_pick g _ 3 _ hr (by omega)).mono ?_
    rintro e w2 ⟨c, rfl, c0, c1, hr, ho, hsz⟩
    have hrow := Stmts.only hrow ho (by omega)
    have hcur := hcur.trans ho
    have hcur0 := hcur0.trans ho
    clear hsz ho
    by_cases hc : 0 < c
    · by_cases hp : ps.length = 1
      · have hpb : ((ps.length : Int) == 1) = true := by rw [hp]; rfl
        have r1 := fun o => (ocell hcur0).1 w.heap.size o (by omega) (by simp)
        go_wp2_with fail
        refine (S_aName g _ _ hr (by omega)).mono ?_
        rintro e w3 ⟨a, rfl, ha, hr, ho⟩
        have hrow := Stmts.only hrow ho (by omega)
        have hcur := hcur.trans ho
        clear ho r1
        go_wp2_with fail
        refine (S_oneL g _ [0, 1, 5] _ _ (by first | rfl | simp [World.size_alloc]) hr (by omega) (by simp) (by simp)).mono ?_
        rintro e w4 ⟨u, rfl, hu, hr, ho⟩
        have hu7 : 0 ≤ u ∧ u ≤ 7 := by simp at hu; omega
        have hrow := Stmts.only hrow ho (by omega)
        have hcur := hcur.trans ho
        clear ho hu
        go_wp2_with (at_builtin; refine wpList_append_stmts rfl _ _ rfl _ _ [⟨3, f, b, 0⟩] [⟨5, u, f, a⟩] w.heap.size rfl rfl (hrow.keep al1) (Stmts.feed (Stmts.one (lo := 0) rfl (Nat.zero_le _) 5 u f (a))) (by simp) (by have := hcur.size; rw [World.size_alloc]; omega) ?_; intro v' w5 hown hg5 hb5 hf5)
        go_ret
        exact ⟨_, _, rfl, hown, by simp, by simp, (fun s hs => by simp at hs; rcases hs with rfl | rfl; exact hf7; exact hu7), ((hr.keep al1).grown hg5 (fun k hk => by have := own_block_ge hrow k hk; omega)).mono (by omega), (hcur.alloc _).grow hg5 (fun k hk => own_block_ge hrow k hk)⟩
      · have hpb : ((ps.length : Int) == 1) = false := by rw [beq_eq_false_iff_ne]; omega
        have r1 := fun o => (ocell hcur0).1 w.heap.size o (by omega) (by simp)
        go_wp2_with fail
        refine (S_oneL g _ [0, 1, 5] _ _ (by first | rfl | simp [World.size_alloc]) hr (by omega) (by simp) (by simp)).mono ?_
        rintro e w4 ⟨u, rfl, hu, hr, ho⟩
        have hu7 : 0 ≤ u ∧ u ≤ 7 := by simp at hu; omega
        have hrow := Stmts.only hrow ho (by omega)
        have hcur := hcur.trans ho
        clear ho hu
        go_wp2_with (at_builtin; refine wpList_append_stmts rfl _ _ rfl _ _ [⟨3, f, b, 0⟩] [⟨5, u, f, -1⟩] w.heap.size rfl rfl (hrow.keep al1) (Stmts.feed (Stmts.one (lo := 0) rfl (Nat.zero_le _) 5 u f (-1))) (by simp) (by have := hcur.size; rw [World.size_alloc]; omega) ?_; intro v' w5 hown hg5 hb5 hf5)
        go_ret
        exact ⟨_, _, rfl, hown, by simp, by simp, (fun s hs => by simp at hs; rcases hs with rfl | rfl; exact hf7; exact hu7), ((hr.keep al1).grown hg5 (fun k hk => by have := own_block_ge hrow k hk; omega)).mono (by omega), (hcur.alloc _).grow hg5 (fun k hk => own_block_ge hrow k hk)⟩
    · go_wp2
      go_ret
      exact ⟨_, _, rfl, hrow, by simp, by simp, (fun s hs => by rw [List.mem_singleton.1 hs]; exact hf7), hr.mono (by omega), hcur⟩

end Go.Proofs.Ytiemhadpepbcjaa
