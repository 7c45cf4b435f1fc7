/-
  Walk: the program's ValidShape. Condition: the argument reads as a program.
-/
import Derived.Test.YtiemhadpepbcjaaImpl2
import Derived.Test.YtiemhadpepbcjaaPlain2
namespace Go.Proofs.Ytiemhadpepbcjaa
open Go.RowKit

attribute [local go_sem] ta_yes_makeForm ta_no_makeForm ta_nil_makeForm

theorem formV_make (s : St) : (s.makes = true ∧ ∃ d, formV s = .iface 63 (.agg #[.int .i64 d, .int .i64 s.a])) ∨ (s.makes = false ∧ (formV s = .nilIface ∨ ∃ T v, T ≠ 63 ∧ formV s = .iface T v)) := by
  have hm : s.makes = decide (s.kind = 3 ∨ s.kind = 4) := rfl
  rcases formV_cases s with h | h | h | h | h | h | h | h | h | h | h | h
  case inr.inr.inr.inl => exact .inl ⟨by rw [hm]; exact decide_eq_true (.inl h.1), 1, h.2⟩
  case inr.inr.inr.inr.inl => exact .inl ⟨by rw [hm]; exact decide_eq_true (.inr h.1), 2, h.2⟩
  case inr.inr.inr.inr.inr.inr.inr.inr.inr.inr.inr => exact .inr ⟨by rw [hm]; exact decide_eq_false (by omega), .inl h.2⟩
  all_goals exact .inr ⟨by rw [hm]; exact decide_eq_false (by omega), .inr ⟨_, _, by decide, h.2⟩⟩

theorem madeBy_le (l : List St) (k : Int) : madeBy l k ≤ l.length := List.countP_le_length

theorem allTo_len (p : Pr) (h : ∀ i : Nat, i < p.length → (p.bk i).body.length ≤ 12) : ∀ k, k ≤ p.length → (allTo p k).length ≤ 12 * k
  | 0, _ => by simp [allTo]
  | k + 1, hk => by
    rw [allTo_succ p k hk, List.length_append]
    have := allTo_len p h k (by omega)
    have := h k hk
    omega

theorem made_range {p : Pr} {j : Nat} {s : St} (h : stmtI p j s = true) (hm : s.makes = true) : 0 ≤ s.a ∧ s.a < p.length := by
  unfold stmtI at h
  unfold St.makes at hm
  rw [decide_eq_true_iff] at hm
  unfold stmtG at h
  rcases hm with e | e <;> simp [e, madeI, inR_iff] at h <;> omega

theorem stmts_no {p : Pr} {k m : Nat} (hk : k < p.length) (hm : m < (p.bk k).body.length) (h : stmtI p k ((p.bk k).body.getD m default) = false) : stmtsOk p = false := by
  rw [Bool.eq_false_iff]
  intro hs
  unfold stmtsOk at hs
  rw [List.all_eq_true] at hs
  have h2 := hs k (by simpa using hk)
  rw [List.all_eq_true] at h2
  have h3 := h2 _ (List.getElem_mem hm)
  rw [show (p.bk k).body[m] = (p.bk k).body.getD m default by simp [List.getD, hm], h] at h3
  cases h3

theorem all_of_getD {f : St → Bool} {l : List St} (h : ∀ j, j < l.length → f (l.getD j default) = true) : l.all f = true := by
  rw [List.all_eq_true]
  intro x hx
  obtain ⟨j, hj, rfl⟩ := List.getElem_of_mem hx
  have := h j hj
  rwa [show l.getD j default = l[j] by simp [List.getD, hj]] at this

theorem stmts_yes {p : Pr} (h : ∀ j : Nat, j < p.length → (p.bk j).body.all (stmtI p j) = true) : stmtsOk p = true := by
  unfold stmtsOk
  rw [List.all_eq_true]
  intro i hi
  exact h i (by simpa using hi)
theorem mades_yes {p : Pr} (h : ∀ j : Nat, 0 < j → j < p.length → madeBy (allTo p p.length) j = 1) : madeOk p = true := by
  unfold madeOk
  rw [List.all_eq_true]
  intro i hi
  rcases Nat.eq_zero_or_pos i with e | e
  · simp [e]
  · simp [h i e (by simpa using hi)]
theorem mades_no {p : Pr} {j : Nat} (h0 : 0 < j) (hj : j < p.length) (h : madeBy (allTo p p.length) j ≠ 1) : madeOk p = false := by
  rw [Bool.eq_false_iff]
  intro hs
  unfold madeOk at hs
  rw [List.all_eq_true] at hs
  have := hs j (by simpa using hj)
  simp at this
  omega

set_option maxRecDepth 100000 in
set_option maxHeartbeats 4000000 in
theorem I_ValidShape (v : Value) (p : Pr) (lo : Nat) (w : World) (hv : Prog w lo v p) :
    Calls Try.prog 10 #[v] w fun e w' => e = .returned (.bool (shape p)) ∧ Below w.heap.size w w' := by
  rw [← shapeI_eq]
  obtain ⟨sl, rfl, hv⟩ := hv
  by_cases hlen : inR p.length 1 7 = true
  · have hr := inR_iff.1 hlen
    obtain ⟨C, g, _, _, _, _, rfl, hg, _⟩ := Prog.at_ hv 0 (by omega) (by omega)
    have hl7 : p.length ≤ 7 := by omega
    have hl1 : 1 ≤ p.length := by omega
    have kn : ∀ W, Below (w.heap.size + 1) (w.alloc (.cells #[.slice (some ⟨g, 0, none⟩) p.length C] 25)) W → W.cell? ⟨w.heap.size, 0, none⟩ = some (.slice (some ⟨g, 0, none⟩) p.length C) ∧ Blks W lo (.slice (some ⟨g, 0, none⟩) p.length C) p ∧ Below w.heap.size w W ∧ w.heap.size + 1 ≤ W.heap.size := fun W hB => by
      have hBw : Below w.heap.size w W := al1.trans (hB.mono (Nat.le_succ _))
      refine ⟨?_, hv.keep hBw, hBw, by have := hB.size; simpa using this⟩
      rw [hB.cell (p := ⟨w.heap.size, 0, none⟩) (Nat.lt_succ_self _)]
      simp [go_sem]
    have KN := Lib.hid kn
    have HV0 := Lib.hid hv
    have hR : shapeI p = (headsOk p && (stmtsOk p && madeOk p)) := by unfold shapeI; rw [hlen]; rfl
    generalize shapeI p = R at *
    have HR := Lib.hid hR
    clear hr hlen hv hR kn
    go_enter Try.func10, Try.ntmps10
    go_wp2
    go_loopw [26] (fun i wr => ∃ k : Nat, k ≤ p.length ∧ i = .int .i64 k ∧ (∀ j : Nat, j < k → headOk j (p.bk j) = true ∧ (p.bk j).body.length ≤ 12) ∧ Below (w.heap.size + 1) (w.alloc (.cells #[.slice (some ⟨g, 0, none⟩) p.length C] 25)) wr) (fun i _ => p.length - (intOf i).toNat)
    case atStart => exact ⟨0, Nat.zero_le _, rfl, fun j hj => absurd hj (Nat.not_lt_zero _), Below.refl _ _⟩
    case round =>
      obtain ⟨k, hk, rfl, hp, hB⟩ := hrel
      have HP := Lib.hid hp
      obtain ⟨cb, hvr, hBw, hsz⟩ := KN.out wr hB
      have HVR := Lib.hid hvr
      clear hp hvr
      by_cases hlt : k < p.length
      · obtain ⟨hgr, A2, A3, C2, C3, c0, c1, c2, c3, hps, hbs⟩ := Prog.atn HVR.out k hlt
        clear hbs
        generalize hx : p.bk k = x at *
        have HX := Lib.hid hx
        clear hx
        go_wp2_with fail
        refine (I_fitsHead k x A2 A3 C2 C3 _ lo _ (hps.keep al1)).mono ?_
        rintro e w3 ⟨rfl, hb3⟩
        obtain ⟨hc3, _⟩ := bcell hb3
        have hz3 := hb3.size
        simp only [World.size_alloc] at hc3 hz3
        have r0 := fun o => hc3 wr.heap.size o (by omega)
        have hB3 := (hB.alloc hsz _).trans (hb3.mono (by simp; omega))
        clear hc3 hb3 c0 c1 c2 c3 hps
        by_cases hh : headOk k x = true
        · have HH := Lib.hid hh
          rw [hh]
          clear hh
          by_cases hbl : x.body.length ≤ 12
          · go_wp2
            go_roundw
            case rel => exact ⟨k + 1, by omega, by go_num, fun j hj => by
              rcases Nat.lt_succ_iff_lt_or_eq.1 hj with h | rfl
              · exact HP.out j h
              · rw [HX.out]; exact ⟨HH.out, hbl⟩, hB3⟩
            case measure => simp [intOf]; omega
          · go_wp2
            go_ret
            refine ⟨ret_bool ?_, (KN.out w3 hB3).2.2.1⟩
            rw [HR.out, Bool.eq_false_iff.2 (fun h : headsOk p = true => ?_)]
            · rfl
            · have := (heads_iff.1 h k hlt).2
              rw [HX.out] at this
              exact hbl this
        · have HH := Lib.hid (Bool.eq_false_iff.2 hh)
          rw [HH.out]
          clear hh
          go_wp2
          go_ret
          refine ⟨ret_bool ?_, (KN.out w3 hB3).2.2.1⟩
          rw [HR.out, Bool.eq_false_iff.2 (fun h : headsOk p = true => ?_)]
          · rfl
          · have := (heads_iff.1 h k hlt).1
            rw [HX.out, HH.out] at this
            cases this
      · obtain rfl : k = p.length := by omega
        have hheads : headsOk p = true := heads_iff.2 HP.out
        have hR2 : R = (stmtsOk p && madeOk p) := by rw [HR.out, hheads]; rfl
        have HR2 := Lib.hid hR2
        have hHP := HP.out
        have hbl : ∀ i : Nat, i < p.length → (p.bk i).body.length ≤ 12 := fun i hi => (hHP i hi).2
        have HBL := Lib.hid hbl
        clear hheads hR2 hHP hbl
        have z0 : w.heap.size < wr.heap.size := hsz
        go_wp2
        rename_i wq
        obtain ⟨W2, hW2⟩ : ∃ W2 : World, W2 = wr.alloc (.cells #[.int .i64 0, .int .i64 0, .int .i64 0, .int .i64 0, .int .i64 0, .int .i64 0, .int .i64 0] 58) := ⟨_, rfl⟩
        have hrow0 : W2.rowIs wr.heap.size 58 7 (fun _ => .int .i64 0) := by
          rw [hW2]
          exact (World.rowIs_alloc wr _ _ (fun _ => .int .i64 0) (fun i hi => by
            match i, hi with
            | 0, _ => rfl
            | 1, _ => rfl
            | 2, _ => rfl
            | 3, _ => rfl
            | 4, _ => rfl
            | 5, _ => rfl
            | 6, _ => rfl))
        have hB2 : Below (w.heap.size + 1) (w.alloc (.cells #[.slice (some ⟨g, 0, none⟩) p.length C] 25)) W2 := by rw [hW2]; exact hB.alloc hsz _
        rw [← hW2]
        have hs2 : wr.heap.size + 1 ≤ W2.heap.size := by rw [hW2]; simp
        clear hW2 cb hB z0 HVR hBw
        obtain ⟨M, hM⟩ : ∃ M, M = wr.heap.size := ⟨_, rfl⟩
        rw [← hM] at hrow0 hs2 hsz ⊢
        clear hM
        go_loopw [45] (fun i wi => ∃ k : Nat, k ≤ p.length ∧ i = .int .i64 k ∧ (∀ j : Nat, j < k → (p.bk j).body.all (stmtI p j) = true) ∧ wi.rowIs M 58 7 (fun j => .int .i64 (madeBy (allTo p k) j)) ∧
            Below (w.heap.size + 1) (w.alloc (.cells #[.slice (some ⟨g, 0, none⟩) p.length C] 25)) wi ∧ M + 1 ≤ wi.heap.size) (fun i _ => p.length - (intOf i).toNat)
        case atStart => exact ⟨0, Nat.zero_le _, rfl, fun j hj => absurd hj (Nat.not_lt_zero _), hrow0, hB2, hs2⟩
        case round =>
          rename_i wz
          clear hrow0 hB2 hs2
          obtain ⟨k, hk, rfl, hq, hrow, hBo, hso⟩ := hrel
          have HQ := Lib.hid hq
          obtain ⟨cbo, hvo, hBwo, hszo⟩ := KN.out _ hBo
          clear hq hvo
          by_cases hlt : k < p.length
          · obtain ⟨hg0, A2, A3, C2, C3, c0, c1, c2, c3, hps, hbs⟩ := Prog.atn HV0.out k hlt
            rw [← hBwo.cell (p := ⟨g, _, none⟩) hg0] at c0 c1 c2 c3
            have HBS := Lib.hid hbs
            clear hps hbs
            have hl1k := allTo_len p HBL.out k hk
            have hblk := HBL.out k hlt
            generalize hy : p.bk k = y at *
            have HY := Lib.hid hy
            clear hy
            go_wp2
            clear c0 c1 c2 c3 cbo
            go_loopw [53] (fun i wi => ∃ m : Nat, m ≤ y.body.length ∧ i = .int .i64 m ∧ (∀ j : Nat, j < m → stmtI p k (y.body.getD j default) = true) ∧ wi.rowIs M 58 7 (fun j => .int .i64 (madeBy (allTo p k ++ y.body.take m) j)) ∧
                Below (w.heap.size + 1) (w.alloc (.cells #[.slice (some ⟨g, 0, none⟩) p.length C] 25)) wi ∧ M + 1 ≤ wi.heap.size) (fun i _ => y.body.length - (intOf i).toNat)
            case atStart => exact ⟨0, Nat.zero_le _, rfl, fun j hj => absurd hj (Nat.not_lt_zero _), by simpa using hrow.alloc _, hBo.alloc hszo _, by simp; omega⟩
            case round =>
              rename_i wo
              obtain ⟨m, hm, rfl, hq, hrowi, hBi, hsi⟩ := hrel
              have HQ2 := Lib.hid hq
              obtain ⟨cbi, hvi, hBwi, hszi⟩ := KN.out _ hBi
              clear hq hvi
              by_cases hml : m < y.body.length
              · obtain ⟨A4, C4, r, e4, hn4, hC4, hA4, hr4, hcell4, _⟩ := (HBS.out.keep hBwi).rd
                obtain ⟨rfl, rfl⟩ : A3 = A4 ∧ C3 = C4 := by simpa using e4
                obtain ⟨d0, d1, d2, d3⟩ := hcell4 m hml
                obtain rfl := hA4 (by omega)
                clear e4 hA4 hr4 hcell4 hn4
                unfold maxLen at hC4
                generalize hx : y.body.getD m default = x at d0 d1 d2 d3
                have HX := Lib.hid hx
                clear hx
                have z0 : w.heap.size < wr.heap.size := hszi
                go_wp2_with fail
                refine (I_fitsStmt _ p lo k x _ (HV0.out.keep (bal hBwi _)) (by omega) (by omega)).mono ?_
                rintro e w3 ⟨rfl, hb3⟩
                have hB3 := (hBi.alloc hszi _).trans (hb3.mono (by simp; omega))
                have hB3w := bthen (bal hBwi _) hb3
                obtain ⟨hc3, _⟩ := bcell hb3
                have hz3 := hb3.size
                simp only [World.size_alloc] at hc3 hz3
                have r0 := fun o => hc3 wr.heap.size o (by omega)
                have hrow3 := rowIs_below (hrowi.alloc _) hb3 (by simp; omega)
                clear hc3 hb3 cbi d0 d1 d2 d3
                by_cases hst : stmtI p k x = true
                · have HS := Lib.hid hst
                  rw [hst]
                  clear hst
                  go_wp2_with fail
                  refine (I_formOf x _).mono ?_
                  rintro e w4 ⟨rfl, hb4⟩
                  have hB4 := hB3.trans (hb4.mono (by omega))
                  have hz4 := hb4.size
                  have hrow4 := rowIs_below hrow3 hb4 (by omega)
                  have hsucc : ∀ j : Int, madeBy (allTo p k ++ y.body.take (m + 1)) j = madeBy (allTo p k ++ y.body.take m) j + (if (x.makes && x.a == j) = true then 1 else 0) := fun j => by
                    rw [madeBy_append, madeBy_append, madeBy_succ _ _ _ hml, HX.out]
                    omega
                  have hle := fun j : Int => madeBy_le (allTo p k ++ y.body.take m) j
                  have hlen2 : (allTo p k ++ y.body.take m).length ≤ 12 * k + 12 := by simp; omega
                  have HSUCC := Lib.hid hsucc
                  clear hsucc hrow3 hrowi r0 hb4
                  rcases formV_make x with ⟨hmk, d, hf⟩ | ⟨hmk, hf | ⟨T, v, hT, hf⟩⟩
                  · rw [hf]
                    obtain ⟨ha0, ha1⟩ := made_range HS.out hmk
                    have hcell := hrow4.cell (i := x.a.toNat) (by omega)
                    have hfz := hrow4.frozen x.a.toNat
                    rw [Int.toNat_of_nonneg ha0] at hcell
                    have hle1 := hle x.a
                    have hz7 : x.a < 7 := by omega
                    have hMz : M < w4.heap.size := by omega
                    clear hle hf
                    have HMK := Lib.hid hmk
                    clear hmk
                    generalize hcnt : madeBy (allTo p k ++ y.body.take m) x.a = cnt at hcell hle1
                    have HCNT := Lib.hid hcnt
                    clear hcnt
                    go_wp2
                    go_roundw
                    case rel => exact ⟨m + 1, by omega, by go_num, fun j hj => by
                      rcases Nat.lt_succ_iff_lt_or_eq.1 hj with h | rfl
                      · exact HQ2.out j h
                      · rw [HX.out]; exact HS.out, ((hrow4.set x.a.toNat _).alloc _).congr (fun j _ => by
                        rw [HSUCC.out, HMK.out, Bool.true_and]
                        by_cases e : j = x.a.toNat
                        · have e2 : x.a = (j : Int) := by omega
                          rw [if_pos e, ← e2, HCNT.out]
                          simp
                        · have e2 : ¬ x.a = (j : Int) := by omega
                          rw [if_neg e, if_neg (by simpa using e2)]
                          simp), (hB4.setCell (p := ⟨M, _, none⟩) hsz _).alloc (by simp; omega) _, by simp; omega⟩
                    case measure => simp [intOf]; omega
                  · rw [hf]
                    clear hf hle
                    have HMK := Lib.hid hmk
                    clear hmk
                    go_wp2
                    go_roundw
                    case rel => exact ⟨m + 1, by omega, by go_num, fun j hj => by
                      rcases Nat.lt_succ_iff_lt_or_eq.1 hj with h | rfl
                      · exact HQ2.out j h
                      · rw [HX.out]; exact HS.out, (hrow4.alloc _).congr (fun j _ => by rw [HSUCC.out, HMK.out]; simp), hB4.alloc (by omega) _, by simp; omega⟩
                    case measure => simp [intOf]; omega
                  · rw [hf]
                    clear hf hle
                    have HMK := Lib.hid hmk
                    clear hmk
                    go_wp2
                    go_roundw
                    case rel => exact ⟨m + 1, by omega, by go_num, fun j hj => by
                      rcases Nat.lt_succ_iff_lt_or_eq.1 hj with h | rfl
                      · exact HQ2.out j h
                      · rw [HX.out]; exact HS.out, (hrow4.alloc _).congr (fun j _ => by rw [HSUCC.out, HMK.out]; simp), hB4.alloc (by omega) _, by simp; omega⟩
                    case measure => simp [intOf]; omega
                · have HS := Lib.hid (Bool.eq_false_iff.2 hst)
                  rw [HS.out]
                  clear hst
                  go_wp2
                  go_ret
                  refine ⟨ret_bool ?_, hB3w⟩
                  rw [HR2.out, stmts_no hlt (by rw [HY.out]; exact hml) (by rw [HY.out, HX.out]; exact HS.out)]
                  rfl
              · obtain rfl : m = y.body.length := by omega
                go_wp2
                go_roundw
                case rel => exact ⟨k + 1, by omega, by go_num, fun j hj => by
                  rcases Nat.lt_succ_iff_lt_or_eq.1 hj with h | rfl
                  · exact HQ.out j h
                  · rw [HY.out]; exact all_of_getD HQ2.out, hrowi.congr (fun j _ => by rw [allTo_succ p k hlt, HY.out, List.take_length]), hBi, hsi⟩
                case measure => simp [intOf]; omega
          · obtain rfl : k = p.length := by omega
            have hst := stmts_yes HQ.out
            have hR3 : R = madeOk p := by rw [HR2.out, hst]; rfl
            have HR3 := Lib.hid hR3
            clear hst hR3
            go_wp2
            go_loop [12] (fun i => ∃ m : Nat, 1 ≤ m ∧ m ≤ p.length ∧ i = .int .i64 m ∧ ∀ j : Nat, 0 < j → j < m → madeBy (allTo p p.length) j = 1) (fun i => p.length - (intOf i).toNat)
            case atStart => exact ⟨1, by omega, by omega, rfl, fun j h0 hj => absurd hj (by omega)⟩
            case round =>
              obtain ⟨m, hm1, hm, rfl, hq⟩ := hrel
              have HQ3 := Lib.hid hq
              clear hq
              by_cases hml : m < p.length
              · have hcell := hrow.cell (i := m) (by omega)
                have hz7 : (m : Int) < 7 := by omega
                generalize hcnt : madeBy (allTo p p.length) m = cnt at hcell
                have HCNT := Lib.hid hcnt
                clear hcnt
                by_cases hone : cnt = 1
                · have hb1 : ((cnt : Int) != 1) = false := by simp [hone]
                  have HONE := Lib.hid hone
                  clear hone
                  go_wp2
                  go_round
                  case rel => exact ⟨m + 1, by omega, by omega, by go_num, fun j h0 hj => by
                    rcases Nat.lt_succ_iff_lt_or_eq.1 hj with h | rfl
                    · exact HQ3.out j h0 h
                    · rw [HCNT.out, HONE.out]⟩
                  case measure => simp [intOf]; omega
                · have hb1 : ((cnt : Int) != 1) = true := by simp; omega
                  go_wp2
                  go_ret
                  exact ⟨ret_bool (by rw [HR3.out, mades_no (by omega) hml (by rw [HCNT.out]; exact hone)]), hBwo⟩
              · go_wp2
                go_ret
                exact ⟨ret_bool (by rw [HR3.out, mades_yes (fun j h0 hj => HQ3.out j h0 (by omega))]), hBwo⟩
  · have hno : p.length < 1 ∨ 7 < p.length := by
      rw [inR_iff] at hlen
      omega
    have hR : shapeI p = false := by unfold shapeI; rw [Bool.eq_false_iff.2 hlen]; rfl
    have HR := Lib.hid hR
    obtain ⟨A, C, rfl⟩ := hv.form
    clear hlen hR
    rcases hno with h | h
    all_goals
      go_enter Try.func10, Try.ntmps10
      go_wp2
      go_ret
      exact ⟨ret_bool HR.out.symm, al1⟩

end Go.Proofs.Ytiemhadpepbcjaa
