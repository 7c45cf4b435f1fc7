/-
  The law FnValidShape: for every input it answers true and leaves its argument as it was. No condition.
-/
import Derived.Test.YtklikpcfmmpocaaFrame
import Derived.Test.YtklikpcfmmpocaaFacts
import Derived.Test.YtklikpcfmmpocaaDwA
import Derived.Test.YtklikpcfmmpocaaDwD
import Derived.Test.YtklikpcfmmpocaaImpl3
import Derived.Test.YtklikpcfmmpocaaDwQ
namespace Go.Proofs.Ytklikpcfmmpocaa.validShape
open Go.ChangeShapes Go.WideShapes Go.ChangeAt Go.RowKit
set_option linter.unusedVariables false

theorem cell_other {w : World} {g j B o : Nat} {V u : Value} (h : w.cell? ⟨B, o, none⟩ = some u) (hne : B ≠ g) : (w.setCell ⟨g, j, none⟩ V).cell? ⟨B, o, none⟩ = some u := by
  simp [go_sem, h]

set_option maxRecDepth 100000 in
set_option maxHeartbeats 4000000 in
theorem walk (v : Value) (l : List Int) (w : World) (hv : OBytes w v l) :
    Calls Try.prog 4 #[v] w fun e w' => e = .returned (.bool true) ∧ Below w.heap.size w w' := by
  have HV := Lib.hid hv
  obtain ⟨⟨A, C, b', o, rfl, hn, hc, _, _⟩, _⟩ := hv
  unfold maxLen at hc
  by_cases hbig : 1048576 < l.length
  · go_enter Try.func4, Try.ntmps4
    go_wp2
    go_ret
    exact ⟨rfl, Below.refl _ _⟩
  have hl : l.length ≤ 1048576 := by omega
  go_enter Try.func4, Try.ntmps4
  go_wp2_with fail
  refine (S_DrawValidShape _ l _ HV.out hl).mono ?_
  rintro e w1 ⟨sl, xs, p, rfl, hrow, hp, hB⟩
  clear HV hbig hl hc hn
  obtain ⟨ga, Cp, rfl, _, hCp, _, _, _, _⟩ := PRowX.rd hrow (by omega)
  unfold maxLen at hCp
  obtain ⟨PB, hPB⟩ : ∃ PB : Nat, PB = w1.heap.size := ⟨_, rfl⟩
  obtain ⟨W, hW⟩ : ∃ W : World, W = w1.alloc (.cells #[.slice (some ⟨ga, 0, none⟩) p.length Cp] 30) := ⟨_, rfl⟩
  have hB : Below w.heap.size w W := by rw [hW]; exact bal hB _
  have hP : Blks W w.heap.size (.slice (some ⟨ga, 0, none⟩) p.length Cp) p := by rw [hW]; exact (PRowX.blks hrow).keep al1
  have cP : W.cell? ⟨PB, 0, none⟩ = some (.slice (some ⟨ga, 0, none⟩) p.length Cp) := by rw [hW, hPB]; simp [go_sem]
  have HPB := Lib.hid hPB
  have HW := Lib.hid hW
  have hR : PRow W w.heap.size (.slice (some ⟨ga, 0, none⟩) p.length Cp) xs p := by rw [hW]; exact PRowX.keep hrow al1
  clear hPB hW hrow
  obtain ⟨R, hR⟩ : ∃ R : Bool, R = shape p := ⟨_, rfl⟩
  have HR := Lib.hid hR
  clear hR
  have hne : (R != R) = false := by simp
  go_wp2_with fail
  rw [← HPB.out, ← HW.out]
  clear HPB HW
  refine (I_ValidShape _ p _ _ ⟨_, rfl, hP⟩).mono ?_
  rintro e w2 ⟨rfl, hb⟩
  rw [← HR.out]
  replace cP := cell_later hb cP
  replace hP := hP.keep hb
  replace hR := PRowX.keep hR hb
  replace hB := bthen hB hb
  clear hb
  go_wp2_with fail
  refine (S_ValidShape _ p _ _ ⟨_, rfl, hP⟩).mono ?_
  rintro e w3 ⟨rfl, hb⟩
  rw [← HR.out]
  replace cP := cell_later hb cP
  replace hP := hP.keep hb
  replace hR := PRowX.keep hR hb
  replace hB := bthen hB hb
  clear hb
  cases R
  · skip
    go_wp2_with fail
    refine (S_ValidShape _ p _ _ ⟨_, rfl, hP⟩).mono ?_
    rintro e w4 ⟨rfl, hb⟩
    rw [← HR.out]
    replace cP := cell_later hb cP
    replace hP := hP.keep hb
    replace hR := PRowX.keep hR hb
    replace hB := bthen hB hb
    clear hb
    go_wp2
    go_ret
    exact ⟨rfl, hB⟩
  clear hne
  go_wp2
  go_loopw [5] (fun i wi => ∃ k : Nat, k ≤ p.length ∧ i = .int .i64 k ∧ Below w3.heap.size w3 wi) (fun i _ => p.length - (intOf i).toNat)
  case atStart => exact ⟨0, Nat.zero_le _, rfl, below0 _⟩
  case round =>
    obtain ⟨k, hk, rfl, hb⟩ := hrel
    have hBik := hb
    replace cP := cell_later hb cP
    replace hP := hP.keep hb
    replace hR := PRowX.keep hR hb
    replace hB := bthen hB hb
    clear hb
    by_cases hltk : k < p.length
    · skip
      have hbl := shape_body HR.out.symm (k : Int) (by omega) (by omega)
      have ebk : p.bk (k : Int) = p.getD k default := by show p.getD (k : Int).toNat default = _; rw [Int.toNat_natCast]
      obtain ⟨A', C', g', e', _, _, hA', _, hcell, _⟩ := hP.rd
      obtain rfl := hA' (by omega)
      obtain ⟨rfl, rfl⟩ : ga = g' ∧ Cp = C' := by simpa using e'
      obtain ⟨pv, bv, _, _, _, d3, _, hbv⟩ := hcell k (by omega)
      rw [← ebk] at hbv
      obtain ⟨body, hbody⟩ : ∃ body : List St, body = (p.bk (k : Int)).body := ⟨_, rfl⟩
      have HBODY := Lib.hid hbody
      rw [← hbody] at hbv hbl
      have hki0 : (0 : Int) ≤ (k : Int) := by omega
      have hki1 : (k : Int) < (p.length : Int) := by omega
      obtain ⟨bA, bC, rfl⟩ := hbv.form
      clear hcell e' hA' ebk hbody
      go_wp2
      go_loopw [6] (fun i wi => ∃ j : Nat, j ≤ body.length ∧ i = .int .i64 j ∧ Below wr.heap.size wr wi) (fun i _ => body.length - (intOf i).toNat)
      case atStart => exact ⟨0, Nat.zero_le _, rfl, below0 _⟩
      case round =>
        obtain ⟨j, hj, rfl, hb⟩ := hrel
        have hBij := hb
        replace cP := cell_later hb cP
        replace d3 := cell_later hb d3
        replace hP := hP.keep hb
        replace hbv := hbv.keep hb
        replace hR := PRowX.keep hR hb
        replace hB := bthen hB hb
        replace hBik := bthen hBik hb
        clear hb
        by_cases hltj : j < body.length
        · skip
          obtain ⟨bA', bC', bg, be, bn, bc, bh, bl, hst, _⟩ := hbv.rd
          simp only [Value.slice.injEq] at be
          obtain ⟨rfl, _, rfl⟩ := be
          unfold maxLen at bc
          obtain rfl := bh (by omega)
          obtain ⟨s0, _, _, _⟩ := hst j hltj
          have hjj0 : (0 : Int) ≤ (j : Int) := by omega
          have hjj1 : (j : Int) < (body.length : Int) := by omega
          obtain ⟨sk, hsk⟩ : ∃ sk : Int, sk = (body.getD j default).kind := ⟨_, rfl⟩
          rw [← hsk] at s0
          have HSK := Lib.hid hsk
          clear hst hsk bh bl
          by_cases h3 : sk = 3
          · subst h3
            go_wp2
            go_roundw
            case rel => exact ⟨j + 1, by omega, by go_num, hBij⟩
            case measure => simp [intOf]; omega
          have n3 : (sk == 3) = false := by rw [beq_eq_false_iff_ne]; exact h3
          by_cases h4 : sk = 4
          · subst h4
            go_wp2
            go_roundw
            case rel => exact ⟨j + 1, by omega, by go_num, hBij⟩
            case measure => simp [intOf]; omega
          have n4 : (sk == 4) = false := by rw [beq_eq_false_iff_ne]; exact h4
          have hwsz := hB.size
          have hmk : (body.getD j default).makes = false := by rw [← Bool.not_eq_true, makes_iff, ← HSK.out]; rintro (h | h); exact h3 h; exact h4 h
          have HMK := Lib.hid hmk
          clear hmk
          have zP := World.block_lt_of_cell? _ _ cP
          have zG := World.block_lt_of_cell? _ _ d3
          simp only at zP zG
          go_wp2_with (at_builtin; refine wpList_append_blocks rfl _ _ rfl (.slice (some ⟨ga, 0, none⟩) p.length Cp) xs p w.heap.size _ rfl rfl rfl hR (by omega) hwsz ?_; intro qv w0 hQ hbq hqge; obtain ⟨qg, qC, rfl, _, hqC, hqg1, hqg2, _, _⟩ := PRowX.rd hQ (by omega))
          have hqge := hqge qg rfl
          unfold maxLen at hqC
          obtain ⟨wq, hwq⟩ : ∃ wq : World, wq = w0.alloc (.cells #[.slice (some ⟨qg, 0, none⟩) p.length qC] 30) := ⟨_, rfl⟩
          obtain ⟨QX, hQX⟩ : ∃ QX : Nat, QX = w0.heap.size := ⟨_, rfl⟩
          have hqx : QX < wq.heap.size := by rw [hwq, hQX]; simp
          have hqgx : qg < QX := by omega
          have hBq : Below wr.heap.size wr wq := by rw [hwq]; exact bal hbq _
          have hQ : PRow wq w.heap.size (.slice (some ⟨qg, 0, none⟩) p.length qC) xs p := by rw [hwq]; exact PRowX.keep hQ al1
          have cQ : wq.cell? ⟨QX, 0, none⟩ = some (.slice (some ⟨qg, 0, none⟩) p.length qC) := by rw [hwq, hQX]; simp [go_sem]
          have hwqs : w.heap.size ≤ wq.heap.size := by have := hBq.size; omega
          rw [← hQX, ← hwq]
          clear hwq hQX hbq
          have cPd : wq.cell? ⟨PB, 0, none⟩ = some (.slice (some ⟨ga, 0, none⟩) p.length Cp) := cell_later hBq cP
          have d3d : wq.cell? ⟨ga, k * 4 + 3, none⟩ = some (.slice (some ⟨bg, 0, none⟩) body.length bC) := cell_later hBq d3
          have zPq := World.block_lt_of_cell? _ _ cPd
          have zGq := World.block_lt_of_cell? _ _ d3d
          simp only at zPq zGq
          have hs1 : (j : Int) ≤ (body.length : Int) := by omega
          have hs2 : (j : Int) ≤ (bC : Int) := by omega
          have hs3 : (j : Int) + 1 ≤ (body.length : Int) := by omega
          have hs4 : (j : Int) + 1 ≤ (bC : Int) := by omega
          have hs5 : (0 : Int) ≤ (j : Int) + 1 := by omega
          have hbvq : Stmts wq.drew w.heap.size (.slice (some ⟨bg, 0, none⟩) body.length bC) body := hbv.keep hBq.drew
          have hQd : PRow wq.drew w.heap.size (.slice (some ⟨qg, 0, none⟩) p.length qC) xs p := PRowX.keep hQ (below0 wq).drew
          have f3 : wq.drew.frozen? ⟨qg, k * 4 + 3, none⟩ = false := by
            obtain ⟨qg2, qC2, eq2, _, _, _, _, _, qfz⟩ := PRowX.rd hQd (by omega)
            obtain ⟨rfl, rfl⟩ : qg = qg2 ∧ qC = qC2 := by simpa using eq2
            exact qfz _
          obtain ⟨U3, q3⟩ : ∃ U3, wq.drew.cell? ⟨qg, k * 4 + 3, none⟩ = some U3 := by
            obtain ⟨qg2, qC2, eq2, _, _, _, _, qcell, _⟩ := PRowX.rd hQd (by omega)
            obtain ⟨rfl, rfl⟩ : qg = qg2 ∧ qC = qC2 := by simpa using eq2
            exact ⟨_, qcell _ (by omega)⟩
          have hcur := below0 wq.drew
          have hjw : IntKind.i64.wrap ((j : Int) + 1) = (j : Int) + 1 := IntWalk.i64_in _ (by omega)
          by_cases hcap : bC = j + 1
          · have HCAP := Lib.hid hcap
            have hdl : body.length = j + 1 := by omega
            have HDL := Lib.hid hdl
            subst hcap
            clear hdl
            have hs2b : (j : Int) ≤ (j : Int) + 1 := by omega
            have hs2c : j ≤ j + 1 := by omega
            clear hs2 hs4
            go_region_held3 (fun w' => w'.cell? ⟨PB, 0, none⟩ = some (.slice (some ⟨ga, 0, none⟩) p.length Cp) ∧ w'.cell? ⟨QX, 0, none⟩ = some (.slice (some ⟨qg, 0, none⟩) p.length qC) ∧ w'.cell? ⟨ga, k * 4 + 3, none⟩ = some (.slice (some ⟨bg, 0, none⟩) body.length (j + 1)))
              (first | exact ⟨cell_later hcur cPd, cell_later hcur cQ, cell_later hcur d3d⟩ | exact ⟨cell_other (cell_later hcur cPd) (by omega), cell_other (cell_later hcur cQ) (by omega), cell_other (cell_later hcur d3d) (by omega)⟩ | (refine ⟨?_, ?_, ?_⟩ <;> go_keep) | go_keep)
              (first
                | (refine step_append_stmts rfl _ _ rfl V1 _ (body.take j) (body.drop (j + 1)) wq.heap.size rfl rfl h1 (FeedS.none (by rw [List.drop_eq_nil_iff]; have := HDL.out; omega) ⟨_, _, rfl⟩) (by rw [List.length_take, List.length_drop]; omega) hcur.size ?_
                   intro V2 w2 h2 hg2 hb2 hf2
                   have f3 : w2.frozen? ⟨qg, k * 4 + 3, none⟩ = false := (hb2.frozen (p := ⟨qg, _, none⟩) (show qg < wq.heap.size by omega)).trans f3
                   have q3 : w2.cell? ⟨qg, k * 4 + 3, none⟩ = some U3 := (hb2.cell (p := ⟨qg, _, none⟩) (show qg < wq.heap.size by omega)).trans q3
                   have zq : qg < w2.heap.size := World.block_lt_of_cell? _ _ q3
                   obtain ⟨aA, aC, rfl⟩ := h2.form
                   rw [show (body.take j ++ body.drop (j + 1)).length = body.length - 1 by rw [List.length_append, List.length_take, List.length_drop]; omega] at h2 ⊢
                   have hcur := hcur.trans hb2)
                | (refine step_append_stmts rfl _ _ rfl _ _ [] (body.take j) wq.heap.size rfl rfl (Stmts.zero rfl (Nat.le_refl _)) ((Stmts.upto_ hbvq j _ (by omega)).keep al1) (by first | (simp; done) | (simp; omega)) (by simp) ?_
                   intro V1 w1 h1 hg1 hb1 hf1
                   rw [List.nil_append] at h1
                   have hal := al1 (w := wq.drew) (o := .cells #[] 38)
                   have hcur : Below wq.drew.heap.size wq.drew w1 := hal.trans hb1
                   have f3 : w1.frozen? ⟨qg, k * 4 + 3, none⟩ = false := (hcur.frozen (p := ⟨qg, _, none⟩) (show qg < wq.heap.size by omega)).trans f3
                   have q3 : w1.cell? ⟨qg, k * 4 + 3, none⟩ = some U3 := (hcur.cell (p := ⟨qg, _, none⟩) (show qg < wq.heap.size by omega)).trans q3))
            have hmk2 := turned_erase (p := p) (b := k) (i := j) (by omega) (by rw [← HBODY.out]; exact hltj) (by rw [← HBODY.out]; exact HMK.out)
            rw [← HBODY.out] at hmk2
            have hsh := shape_turned hmk2 HR.out.symm
            have HSH := Lib.hid hsh
            have hset := PRowX.setBody (l := body.take j ++ body.drop (j + 1)) (PRowX.part (PRowX.keep hQd hcur) k) (by omega) (h2.lo_ hwqs) (fun i hi _ => Apart.of_lt (PRowX.full hQ hi) (own_block_ge h2))
            have ew : p.set k { p.getD k default with body := body.take j ++ body.drop (j + 1) } = withBody p k (body.take j ++ body.drop (j + 1)) := by
              unfold withBody
              have ebk : p.bk (k : Int) = p.getD k default := by show p.getD (k : Int).toNat default = _; rw [Int.toNat_natCast]
              rw [ebk]
            have hblk := PRowX.blks hset
            rw [ew] at hblk
            have hcQ2 := cell_later hcur cQ
            have hlq : (withBody p k (body.take j ++ body.drop (j + 1))).length = p.length := by simp [withBody]
            obtain ⟨wz, hwz⟩ : ∃ wz : World, wz = w2.setCell ⟨qg, k * 4 + 3, none⟩ (.slice aA (body.length - 1) aC) := ⟨_, rfl⟩
            have hcz : wz.cell? ⟨QX, 0, none⟩ = some (.slice (some ⟨qg, 0, none⟩) p.length qC) := by
              rw [hwz]
              simp [go_sem, hcQ2]
            have hb : Below wr.heap.size wr wz := by
              rw [hwz]
              exact ((hBq.drew).trans (hcur.mono (by have := hBq.size; exact this))).setCell hqge _
            rw [← hwz] at hblk ⊢
            have HQB := Lib.hid hblk
            clear hwz hset hblk ew hmk2 hsh hcQ2 hcur f3 q3 cPd d3d hbvq hQd hQ cQ h2
            
            replace cP := cell_later hb cP
            replace d3 := cell_later hb d3
            replace s0 := cell_later hb s0
            replace hP := hP.keep hb
            replace hbv := hbv.keep hb
            replace hR := PRowX.keep hR hb
            replace hB := bthen hB hb
            replace hBik := bthen hBik hb
            replace hBij := bthen hBij hb
            clear hb
            have hcz0 := hcz
            go_wp2_with fail
            refine (I_ValidShape _ _ _ _ ⟨_, rfl, HQB.out⟩).mono ?_
            rintro e wy ⟨rfl, hb⟩
            rw [HSH.out]
            replace cP := cell_later hb cP
            replace d3 := cell_later hb d3
            replace s0 := cell_later hb s0
            replace hP := hP.keep hb
            replace hbv := hbv.keep hb
            replace hR := PRowX.keep hR hb
            replace hB := bthen hB hb
            replace hBik := bthen hBik hb
            replace hBij := bthen hBij hb
            clear hb
            go_wp2
            go_roundw
            case rel => exact ⟨j + 1, by omega, by go_num, hBij⟩
            case measure => simp [intOf]; omega
          go_region_held3 (fun w' => w'.cell? ⟨PB, 0, none⟩ = some (.slice (some ⟨ga, 0, none⟩) p.length Cp) ∧ w'.cell? ⟨QX, 0, none⟩ = some (.slice (some ⟨qg, 0, none⟩) p.length qC) ∧ w'.cell? ⟨ga, k * 4 + 3, none⟩ = some (.slice (some ⟨bg, 0, none⟩) body.length bC))
            (first | exact ⟨cell_later hcur cPd, cell_later hcur cQ, cell_later hcur d3d⟩ | exact ⟨cell_other (cell_later hcur cPd) (by omega), cell_other (cell_later hcur cQ) (by omega), cell_other (cell_later hcur d3d) (by omega)⟩ | (refine ⟨?_, ?_, ?_⟩ <;> go_keep) | go_keep)
            (first
              | (refine step_append_stmts rfl _ _ rfl V1 _ (body.take j) (body.drop (j + 1)) wq.heap.size rfl rfl h1 ((Stmts.from_ hbvq (j + 1) _ _ _ (by first | omega | (simp; done) | (simp; omega)) (by omega) (by first | omega | (simp; done) | (simp; omega))).keep hcur) (by rw [List.length_take, List.length_drop]; omega) hcur.size ?_
                 intro V2 w2 h2 hg2 hb2 hf2
                 have f3 : w2.frozen? ⟨qg, k * 4 + 3, none⟩ = false := (hb2.frozen (p := ⟨qg, _, none⟩) (show qg < wq.heap.size by omega)).trans f3
                 have q3 : w2.cell? ⟨qg, k * 4 + 3, none⟩ = some U3 := (hb2.cell (p := ⟨qg, _, none⟩) (show qg < wq.heap.size by omega)).trans q3
                 have zq : qg < w2.heap.size := World.block_lt_of_cell? _ _ q3
                 obtain ⟨aA, aC, rfl⟩ := h2.form
                 rw [show (body.take j ++ body.drop (j + 1)).length = body.length - 1 by rw [List.length_append, List.length_take, List.length_drop]; omega] at h2 ⊢
                 have hcur := hcur.trans hb2)
              | (refine step_append_stmts rfl _ _ rfl _ _ [] (body.take j) wq.heap.size rfl rfl (Stmts.zero rfl (Nat.le_refl _)) ((Stmts.upto_ hbvq j _ (by omega)).keep al1) (by first | (simp; done) | (simp; omega)) (by simp) ?_
                 intro V1 w1 h1 hg1 hb1 hf1
                 rw [List.nil_append] at h1
                 have hal := al1 (w := wq.drew) (o := .cells #[] 38)
                 have hcur : Below wq.drew.heap.size wq.drew w1 := hal.trans hb1
                 have f3 : w1.frozen? ⟨qg, k * 4 + 3, none⟩ = false := (hcur.frozen (p := ⟨qg, _, none⟩) (show qg < wq.heap.size by omega)).trans f3
                 have q3 : w1.cell? ⟨qg, k * 4 + 3, none⟩ = some U3 := (hcur.cell (p := ⟨qg, _, none⟩) (show qg < wq.heap.size by omega)).trans q3))
          have hmk2 := turned_erase (p := p) (b := k) (i := j) (by omega) (by rw [← HBODY.out]; exact hltj) (by rw [← HBODY.out]; exact HMK.out)
          rw [← HBODY.out] at hmk2
          have hsh := shape_turned hmk2 HR.out.symm
          have HSH := Lib.hid hsh
          have hset := PRowX.setBody (l := body.take j ++ body.drop (j + 1)) (PRowX.part (PRowX.keep hQd hcur) k) (by omega) (h2.lo_ hwqs) (fun i hi _ => Apart.of_lt (PRowX.full hQ hi) (own_block_ge h2))
          have ew : p.set k { p.getD k default with body := body.take j ++ body.drop (j + 1) } = withBody p k (body.take j ++ body.drop (j + 1)) := by
            unfold withBody
            have ebk : p.bk (k : Int) = p.getD k default := by show p.getD (k : Int).toNat default = _; rw [Int.toNat_natCast]
            rw [ebk]
          have hblk := PRowX.blks hset
          rw [ew] at hblk
          have hcQ2 := cell_later hcur cQ
          have hlq : (withBody p k (body.take j ++ body.drop (j + 1))).length = p.length := by simp [withBody]
          obtain ⟨wz, hwz⟩ : ∃ wz : World, wz = w2.setCell ⟨qg, k * 4 + 3, none⟩ (.slice aA (body.length - 1) aC) := ⟨_, rfl⟩
          have hcz : wz.cell? ⟨QX, 0, none⟩ = some (.slice (some ⟨qg, 0, none⟩) p.length qC) := by
            rw [hwz]
            simp [go_sem, hcQ2]
          have hb : Below wr.heap.size wr wz := by
            rw [hwz]
            exact ((hBq.drew).trans (hcur.mono (by have := hBq.size; exact this))).setCell hqge _
          rw [← hwz] at hblk ⊢
          have HQB := Lib.hid hblk
          clear hwz hset hblk ew hmk2 hsh hcQ2 hcur f3 q3 cPd d3d hbvq hQd hQ cQ h2
          
          replace cP := cell_later hb cP
          replace d3 := cell_later hb d3
          replace s0 := cell_later hb s0
          replace hP := hP.keep hb
          replace hbv := hbv.keep hb
          replace hR := PRowX.keep hR hb
          replace hB := bthen hB hb
          replace hBik := bthen hBik hb
          replace hBij := bthen hBij hb
          clear hb
          have hcz0 := hcz
          go_wp2_with fail
          refine (I_ValidShape _ _ _ _ ⟨_, rfl, HQB.out⟩).mono ?_
          rintro e wy ⟨rfl, hb⟩
          rw [HSH.out]
          replace cP := cell_later hb cP
          replace d3 := cell_later hb d3
          replace s0 := cell_later hb s0
          replace hP := hP.keep hb
          replace hbv := hbv.keep hb
          replace hR := PRowX.keep hR hb
          replace hB := bthen hB hb
          replace hBik := bthen hBik hb
          replace hBij := bthen hBij hb
          clear hb
          go_wp2
          go_roundw
          case rel => exact ⟨j + 1, by omega, by go_num, hBij⟩
          case measure => simp [intOf]; omega
        obtain rfl : j = body.length := by omega
        go_wp2
        go_roundw
        case rel => exact ⟨k + 1, by omega, by go_num, hBik⟩
        case measure => simp [intOf]; omega
    obtain rfl : k = p.length := by omega
    go_wp2
    go_ret
    exact ⟨rfl, hB⟩

theorem own : ownKnob Try.prog.godebug = none := by kernel_rfl
theorem laidOut : laidOutB Try.prog = true := by kernel_rfl

set_option maxRecDepth 100000 in
theorem lifted (os : Os) (started : os.Started) (H : Type) (enc : TypeId × Value → H) :
    ReturnsInHanded {} Try.checked os 4 .any (Rows.fnValidShapeSpec.pre6 enc Try.prog Try.f4 Rows.fnValidShapeRow.domain false) (Rows.fnValidShapeSpec.post enc Try.prog Try.f4 false true false false) := by
  refine returnsInHanded_of_change (C := Try.checked) own started (by kernel_rfl) Try.func4
    (ChangeSpec.witness6 (enc := enc) (C := Try.checked) false ⟨#[], #[.slice none 0 0], []⟩ 8 (by kernel_rfl) (by kernel_rfl) (by kernel_rfl) (by kernel_rfl)) ?_
  intro W base args ds gs before hval0 hW hcnd _
  have hval : ∀ (j : Nat) t v, Try.f4.params[j]? = some t → args[j]? = some v → Value.okWide Try.prog W .any base t v := hval0
  have hW' := hW
  obtain ⟨p, q, hA0, hV, rfl, hfz, hnd⟩ := hW
  have hA : DataW.TrodAll enc Try.prog W 0 (fun _ => true) true Try.f4.params.toList args.toList ds p := hA0
  rw [Try.params4] at hA hval
  obtain ⟨v0, d0, rfl, rfl, h0⟩ := trodAll_one hA
  obtain ⟨rfl, rfl⟩ := trodVars_none hV
  clear hA0 hval0
  simp only [List.append_nil] at hW'
  have hlt : ∀ x ∈ p, x.block < W.heap.size := fun x hx => hW'.lt x hx
  obtain ⟨q0, hq0⟩ := open_obytes (hval 0 22 v0 rfl rfl) h0
  refine (walk v0 q0 W hq0).mono fun e W' ⟨he, hb⟩ => ?_
  subst he
  exact ⟨_, rfl, post_of_below (pa := _) (pv := []) hW' (fun _ _ _ => (trodAll_cons_mk (shut_bool Try.underlying4 _) trodAll_mk0)) (fun sp hsp => (trodAll_cons_mk (WideElems.Trod_stays laidOut (by kernel_rfl) (of_decide_eq_true (by kernel_rfl)) h0 (fun x hx => hb.same (hlt x (hx))) (fun x hx => hsp x (hx))) trodAll_mk0)) (fun _ _ => rfl) (by simp)
    hb (ok_one (by kernel_rfl) rfl (okWide_bool_mk Try.underlying4 _))⟩

theorem closed : joinedFacts Try.pinned.checked.prog 4 Try.f4 Rows.fnValidShapeSpec Rows.fnValidShapeRow = true := by
  show joinedFacts Try.prog 4 Try.f4 Rows.fnValidShapeSpec Rows.fnValidShapeRow = true
  unfold joinedFacts
  rw [may_enter, lifts_not, make_cut]
  kernel_rfl

theorem over : Rows.fnValidShapeRow.holds Try.pinned (OpenSpec.ofChange Rows.fnValidShapeSpec) :=
  OpenClaim.holds_of_wide 4 Try.f4 rfl rfl rfl rfl rfl rfl rfl ⟨rfl, rfl, rfl, rfl, rfl⟩ rfl rfl rfl rfl rfl (by kernel_rfl) Try.func4 closed
    (of_decide_eq_true (by kernel_rfl)) (by unfold Func.isWrapper; first | (rw [if_pos (by decide +kernel)]; kernel_rfl) | (rw [if_neg (by decide +kernel)]; exact ⟨rfl, rfl⟩))
    (fun os started H enc _ => lifted os started H enc)

theorem proved : Rows.FnValidShapeSaid := over
#print axioms proved
end Go.Proofs.Ytklikpcfmmpocaa.validShape
