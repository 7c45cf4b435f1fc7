/-
  Walks: the reference's cellNames, fasts, symbol, frees, and what is exported of them. Condition: the argument reads as a program.
-/
import Derived.Test.YtpajkejdfalkiaaDoorSpec10
namespace Go.Proofs.YtpajkejdfalkiaaDoor
open Go.RowKit
set_option linter.unusedVariables false

/-- Lists gathered from a on, below n. -/
def gath (f : Nat → List Int) (a : Nat) : Nat → List Int
  | 0 => []
  | n + 1 => gath f a n ++ (if a ≤ n then f n else [])
theorem gath_start (f : Nat → List Int) (a : Nat) : ∀ n, n ≤ a → gath f a n = []
  | 0, _ => rfl
  | n + 1, h => by rw [gath, gath_start f a n (by omega), if_neg (by omega)]; rfl
theorem gath_succ (f : Nat → List Int) (a n : Nat) (h : a ≤ n) : gath f a (n + 1) = gath f a n ++ f n := by rw [gath, if_pos h]
theorem gath_len (f : Nat → List Int) (a : Nat) (hf : ∀ n, (f n).length ≤ 8) : ∀ n, (gath f a n).length ≤ 8 * n
  | 0 => Nat.le_refl _
  | n + 1 => by
    have := gath_len f a hf n
    have := hf n
    rw [gath, List.length_append]
    split <;> simp <;> omega
theorem mem_gath {f : Nat → List Int} {a : Nat} {x : Int} : ∀ {n : Nat}, x ∈ gath f a n ↔ ∃ c, a ≤ c ∧ c < n ∧ x ∈ f c
  | 0 => by simp [gath]
  | n + 1 => by
    rw [gath, List.mem_append, mem_gath]
    constructor
    · rintro (⟨c, h1, h2, h3⟩ | h)
      · exact ⟨c, h1, by omega, h3⟩
      · split at h
        · exact ⟨n, by assumption, by omega, h⟩
        · simp at h
    · rintro ⟨c, h1, h2, h3⟩
      by_cases e : c = n
      · subst e
        right
        rw [if_pos h1]
        exact h3
      · exact .inl ⟨c, h1, by omega, h3⟩

/-- Those of the first i of a list for which f holds. -/
def pickTo (f : Int → Bool) (l : List Int) (i : Nat) : List Int := (l.take i).filter f
theorem pickTo_zero (f : Int → Bool) (l : List Int) : pickTo f l 0 = [] := rfl
theorem pickTo_yes (f : Int → Bool) (l : List Int) (i : Nat) (h : i < l.length) (hf : f (l.getD i 0) = true) : pickTo f l (i + 1) = pickTo f l i ++ [l.getD i 0] := by
  unfold pickTo
  rw [List.take_succ_eq_append_getElem h, List.filter_append]
  have e : l.getD i 0 = l[i] := by simp [List.getD, h]
  rw [e] at hf ⊢
  simp [hf]
theorem pickTo_no (f : Int → Bool) (l : List Int) (i : Nat) (h : i < l.length) (hf : f (l.getD i 0) = false) : pickTo f l (i + 1) = pickTo f l i := by
  unfold pickTo
  rw [List.take_succ_eq_append_getElem h, List.filter_append]
  have e : l.getD i 0 = l[i] := by simp [List.getD, h]
  rw [e] at hf
  simp [hf]
theorem pickTo_all (f : Int → Bool) (l : List Int) : pickTo f l l.length = l.filter f := by unfold pickTo; rw [List.take_length]
theorem pickTo_len (f : Int → Bool) (l : List Int) (i : Nat) : (pickTo f l i).length ≤ l.length := by
  unfold pickTo
  have h1 := List.length_filter_le f (l.take i)
  have h2 := List.length_take_le' i l
  omega

/-- Two rows in different blocks. -/
def Apart (v v' : Value) : Prop := ∀ k, v.ownBlock = some k → v'.ownBlock ≠ some k
theorem Apart.from {o o' V : Value} {n : Nat} (h : Apart o V) (hf : RowFrom o o' n) (hV : ∀ k, V.ownBlock = some k → k < n) : Apart o' V := by
  intro k hk hc
  rcases hf with hf | ⟨g, hf, hg⟩
  · exact h k (hf.symm.trans hk) hc
  · have := hV k hc
    rw [hf] at hk
    have : g = k := Option.some.inj hk
    omega
theorem Apart.kept {o V : Value} (h : Apart o V) : V.ownBlock = none ∨ V.ownBlock ≠ o.ownBlock := by
  rcases hq : V.ownBlock with _ | k
  · exact .inl rfl
  · right
    intro hc
    exact h k hc.symm hq
theorem Apart.mk_ {w w' : World} {lo lo' : Nat} {o V : Value} {l l' : List Int} (h : Ints w lo o l) (h' : Ints w' lo' V l') (hl : w.heap.size ≤ lo') : Apart o V := by
  intro k hk hc
  have h1 := own_block_lt h k hk
  have h2 := own_block_ge h' k hc
  omega

def cellG (p : Pr) (b : Int) (c : Nat) : List Int := (usedF p c).filter fun x => ownerF p c x == b
def freeG (p : Pr) (b : Int) (c : Nat) : List Int := if inside p b c then (usedF p c).filter (fun x => decide (0 < ownerF p c x) && decide (ownerF p c x < b)) else []
theorem usedF_len (p : Pr) (c : Int) : (usedF p c).length ≤ 8 := nms_len _
theorem cellG_len (p : Pr) (b : Int) (c : Nat) : (cellG p b c).length ≤ 8 := Nat.le_trans (List.length_filter_le _ _) (usedF_len p c)
theorem freeG_len (p : Pr) (b : Int) (c : Nat) : (freeG p b c).length ≤ 8 := by
  unfold freeG
  split
  · exact Nat.le_trans (List.length_filter_le _ _) (usedF_len p c)
  · simp
theorem usedF_names (p : Pr) (c : Int) : ∀ x ∈ usedF p c, 0 ≤ x ∧ x ≤ 7 := fun x hx => (mem_nms.1 hx).1

theorem cells_eq {p : Pr} {b : Int} (hb : 0 ≤ b) (hk : (p.bk b).kind = 1) : nms (hasF (gath (cellG p b) (b.toNat + 1) p.length)) = cellsF p b := by
  refine nms_congr fun x h0 h1 => ?_
  rw [Bool.eq_iff_iff, hasF_iff, mem_gath, cellB_iff]
  unfold cellG
  constructor
  · rintro ⟨c, h2, h3, h4⟩
    rw [List.mem_filter, beq_iff_eq] at h4
    exact ⟨hk, c, by omega, by omega, by omega, (mem_nms.1 h4.1).2, h4.2⟩
  · rintro ⟨_, c, h2, h3, h4, h5, h6⟩
    have hc : b ≤ c := by
      rcases ownerF_cases p c x h2 with e | ⟨a1, a2, _, _⟩
      · omega
      · omega
    refine ⟨c.toNat, by omega, by omega, ?_⟩
    rw [Int.toNat_of_nonneg h2, List.mem_filter, beq_iff_eq]
    exact ⟨mem_nms.2 ⟨⟨h0, h1⟩, h5⟩, h6⟩
theorem cells_none {p : Pr} {b : Int} (hk : (p.bk b).kind ≠ 1) : nms (hasF []) = cellsF p b := by
  refine nms_congr fun x h0 h1 => ?_
  rw [Bool.eq_iff_iff, hasF_iff, cellB_iff]
  simp [hk]
theorem frees_eq {p : Pr} {b : Int} (hb : 0 ≤ b) : nms (hasF (gath (freeG p b) b.toNat p.length)) = freesF p b := by
  refine nms_congr fun x h0 h1 => ?_
  rw [Bool.eq_iff_iff, hasF_iff, mem_gath, freeB_iff]
  unfold freeG
  constructor
  · rintro ⟨c, h2, h3, h4⟩
    split at h4
    · rename_i hin
      rw [List.mem_filter, Bool.and_eq_true, decide_eq_true_iff, decide_eq_true_iff] at h4
      exact ⟨c, by omega, by omega, hin, (mem_nms.1 h4.1).2, h4.2.1, h4.2.2⟩
    · simp at h4
  · rintro ⟨c, h2, h3, h4, h5, h6, h7⟩
    have hc := inside_le p c.toNat c b (by omega) hb h4
    refine ⟨c.toNat, by omega, by omega, ?_⟩
    rw [Int.toNat_of_nonneg h2, if_pos h4, List.mem_filter, Bool.and_eq_true, decide_eq_true_iff, decide_eq_true_iff]
    exact ⟨mem_nms.2 ⟨⟨h0, h1⟩, h5⟩, h6, h7⟩

set_option maxRecDepth 100000 in
set_option maxHeartbeats 2000000 in
theorem S_cellNames (sl : Value) (p : Pr) (lo : Nat) (b : Int) (w : World) (hv : Blks w lo sl p) (hs : shape p = true) (hb0 : 0 ≤ b) (hb1 : b < p.length) :
    Calls Tryd.prog 78 #[.agg #[sl], .int .i64 b] w fun e w' => ∃ v', e = .returned v' ∧ Ints w' w.heap.size v' (cellsF p b) ∧ Below w.heap.size w w' := by
  have hl := shape_len hs
  obtain ⟨g, C, rfl, hg⟩ := hv.formS (by omega)
  have kn := knd (w := w) (W3 := w.alloc (.cells #[.slice (some ⟨g, 0, none⟩) p.length C] 35)) (lo := lo) (bx := w.heap.size) (w.heap.size + 1) (by simp) (by simp [go_sem]) (by omega) (hv.keep al1) al1
  have KN := Lib.hid kn
  have HSH := Lib.hid hs
  obtain ⟨hg0, A0, B0, C0, D0, e0, _, _, _, _, _⟩ := Prog.atg hv b hb0 hb1
  have E0 := Lib.hid e0
  clear kn hv hs e0
  by_cases hkd : (p.bk b).kind = 1
  · have hkb : ((p.bk b).kind == 1) = true := by simp [hkd]
    have hR := cells_eq hb0 hkd
    generalize cellsF p b = R at *
    have HR := Lib.hid hR
    generalize (p.bk b).kind = K at *
    clear hR hkd
    have hgl := gath_len (cellG p b) (b.toNat + 1) (cellG_len p b)
    have HGL := Lib.hid hgl
    have hgs := gath_succ (cellG p b) (b.toNat + 1)
    have HGS := Lib.hid hgs
    have hg0' := gath_start (cellG p b) (b.toNat + 1) (b.toNat + 1) (Nat.le_refl _)
    have HG0 := Lib.hid hg0'
    have hcg : ∀ c : Nat, cellG p b c = (usedF p c).filter (fun x => ownerF p c x == b) := fun _ => rfl
    have HCG := Lib.hid hcg
    generalize cellG p b = G at *
    clear hgl hgs hg0' hcg
    go_enter Tryd.func78, Tryd.ntmps78
    go_wp2
    go_loopw [5, 6] (fun o i wr => ∃ k : Nat, b < k ∧ k ≤ p.length ∧ i = .int .i64 k ∧ Ints wr (w.heap.size + 1) o (gath G (b.toNat + 1) k) ∧ Below (w.heap.size + 1) (w.alloc (.cells #[.slice (some ⟨g, 0, none⟩) p.length C] 35)) wr) (fun _ i _ => p.length - (intOf i).toNat)
    case atStart => exact ⟨b.toNat + 1, by omega, by omega, by rw [Int.natCast_add, Int.toNat_of_nonneg hb0]; rfl, by rw [HG0.out]; exact Ints.zero1 _ _, al1'⟩
    case round =>
      obtain ⟨k, hk1, hk, rfl, hown, hB⟩ := hrel
      obtain ⟨cb, hvr, hBw, hsz⟩ := KN.out wr hB
      have HO := Lib.hid hown
      have HVR := Lib.hid hvr
      have hlen := HGL.out k
      clear hown hvr
      obtain ⟨wo, rfl⟩ : ∃ wo : World, wo = wr := ⟨_, rfl⟩
      by_cases hlt : k < p.length
      · have hk0 := ((hB.mono (Nat.le_succ _) : Below w.heap.size _ wo).cell (p := ⟨g, b.toNat * 4, none⟩) (by exact hg)).trans ((al1.cell (p := ⟨g, b.toNat * 4, none⟩) (by exact hg)).trans E0.out)
        go_wp2_with fail
        refine (S_used _ p lo k _ HVR.out HSH.out (by omega) (by omega)).mono ?_
        rintro e w4 ⟨v4, rfl, hi4, hb4⟩
        have HI4 := Lib.hid hi4
        have hB4 := hB.trans (hb4.mono hsz)
        have hz4 := hB4.size
        have hz4' := hb4.size
        have HO4 := Lib.hid (HO.out.keep hb4)
        have HAP := Lib.hid (Apart.mk_ HO.out hi4 (Nat.le_refl _))
        have hnm := usedF_names p k
        have HNM := Lib.hid hnm
        obtain ⟨A5, C5, g5, rfl, hn5, hC5, hA5, hg5, hcell5, _⟩ := hi4.rd
        have hfd := HCG.out k
        have HFD := Lib.hid hfd
        have hl8 := usedF_len p k
        generalize usedF p k = l at *
        unfold maxLen at hC5
        clear hi4 hb4 cb hBw hk0 hnm hfd hcell5 hg5
        go_wp2
        go_loopw [5, 8] (fun o i wi => ∃ j : Nat, j ≤ l.length ∧ i = .int .i64 j ∧ Ints wi (w.heap.size + 1) o (gath G (b.toNat + 1) k ++ pickTo (fun x => ownerF p k x == b) l j) ∧ Ints wi wo.heap.size (.slice A5 l.length C5) l ∧ Apart o (.slice A5 l.length C5) ∧ Below (w.heap.size + 1) (w.alloc (.cells #[.slice (some ⟨g, 0, none⟩) p.length C] 35)) wi) (fun _ i _ => l.length - (intOf i).toNat)
        case atStart => exact ⟨0, Nat.zero_le _, rfl, by rw [pickTo_zero, List.append_nil]; exact HO4.out, HI4.out, HAP.out, hB4⟩
        case round =>
          obtain ⟨j, hj, rfl, hown, hint, hap, hB6⟩ := hrel
          obtain ⟨cbi, hvi, hBw, hsi⟩ := KN.out _ hB6
          have HIN := Lib.hid hint
          have HAP2 := Lib.hid hap
          clear hap
          have HOI := Lib.hid hown
          have hpl := pickTo_len (fun x => ownerF p k x == b) l j
          by_cases hjl : j < l.length
          · obtain ⟨A6, C6, g6, e6, hn6, hC6, hA6, hg6, hcell6, _⟩ := hint.rd
            obtain ⟨rfl, rfl⟩ : A5 = A6 ∧ C5 = C6 := by simpa using e6
            have d0 := hcell6 j hjl
            obtain rfl := hA6 (by omega)
            have hgl6 := (hg6 (by omega)).2
            have hty : 0 ≤ l.getD j 0 ∧ l.getD j 0 ≤ 7 := HNM.out _ (by simp [List.getD, hjl])
            obtain ⟨ty0, ty1⟩ := hty
            have hpy := pickTo_yes (fun x => ownerF p k x == b) l j hjl
            have hpn := pickTo_no (fun x => ownerF p k x == b) l j hjl
            have hj1 : (j : Int) < (l.length : Int) := by omega
            have HVD := Lib.hid (show Blks (World.drew _) _ _ p from hvi)
            clear e6 hA6 hg6 hcell6 hA5 hown hvi hint
            generalize hy : l.getD j 0 = y at *
            obtain ⟨ov, hov⟩ : ∃ ov : Int, ownerF p k y = ov := ⟨_, rfl⟩
            have HOV := Lib.hid hov
            simp only [hov] at hpy hpn
            cases h2 : ov == b
            · have hs := hpn h2
              have HS := Lib.hid hs
              clear hpy hpn hs hy hov
              go_wp2
              go_region_held3 (fun w' => w'.cell? ⟨w.heap.size, 0, none⟩ = some (.slice (some ⟨g, 0, none⟩) p.length C) ∧ w'.cell? ⟨g6, j, none⟩ = some (.int .i64 y))
                (first | go_keep | exact ⟨cell_later hb6 cbi, cell_later hb6 d0⟩)
                ((go_at_call 77; refine (S_owner _ p lo k y _ (HVD.out) HSH.out (by omega) (by omega) ty0 ty1).mono ?_; rintro e w6 ⟨rfl, hb6⟩; rw [HOV.out]))
              have hbd : Below wr.heap.size wr w6 := ((Below.refl _ wr).drew).trans hb6
              go_wp2
              exact ⟨⟨j + 1, by omega, by go_num, by rw [HS.out]; exact HOI.out.keep hbd, HIN.out.keep hbd, HAP2.out, hB6.trans (hbd.mono hsi)⟩, by simp [intOf]; omega⟩
            · have hs := hpy h2
              have HS := Lib.hid hs
              clear hpy hpn hs hy hov
              go_wp2
              go_region_held3 (fun w' => w'.cell? ⟨w.heap.size, 0, none⟩ = some (.slice (some ⟨g, 0, none⟩) p.length C) ∧ w'.cell? ⟨g6, j, none⟩ = some (.int .i64 y))
                (first | go_keep | exact ⟨cell_later hb6 cbi, cell_later hb6 d0⟩)
                ((go_at_call 77; refine (S_owner _ p lo k y _ (HVD.out) HSH.out (by omega) (by omega) ty0 ty1).mono ?_; rintro e w6 ⟨rfl, hb6⟩; rw [HOV.out]))
              have hbd : Below wr.heap.size wr w6 := ((Below.refl _ wr).drew).trans hb6
              have hz6 := hbd.size
              have d6 := cell_later hbd d0
              have hgl7 : g6 < w6.heap.size := by omega
              go_wp2_with (at_builtin; refine wpList_append_ints rfl _ _ rfl _ _ _ [y] (w.heap.size + 1) _ rfl rfl ((HOI.out.keep hbd).keep al1) (Ints.one' _ _ (by first | rfl | simp only [World.size_alloc]) _ _ (Nat.le_refl _)) (by rw [List.length_append]; show _ + 1 ≤ _; omega) (by simp only [World.size_alloc]; omega) ?_; intro v' w9 hown9 hgrow9 hbel9 hfrom9)
              go_roundw
              case rel => exact ⟨j + 1, by omega, by go_num, by rw [HS.out, ← List.append_assoc]; exact hown9, Ints.kept ((HIN.out.keep hbd).keep al1) hgrow9 HAP2.out.kept, HAP2.out.from hfrom9 (fun q hq => by have := own_block_lt (HIN.out.keep hbd) q hq; simp only [World.size_alloc]; omega), (hB6.trans (hbd.mono hsi)).trans ((al1.mono (by omega)).trans hbel9)⟩
              case measure => simp [intOf]; omega
          · obtain rfl : j = l.length := by omega
            rw [pickTo_all] at hown
            go_wp2
            go_roundw
            case rel => exact ⟨k + 1, by omega, by omega, by go_num, by rw [HGS.out k (by omega), HFD.out]; exact hown, hB6⟩
            case measure => simp [intOf]; omega
      · obtain rfl : k = p.length := by omega
        go_wp2_with (go_at_call 74; refine (S_sorted _ _ _ _ HO.out).mono ?_; rintro e w1 ⟨rv, rfl, hi1, hb1'⟩)
        go_ret
        exact ⟨_, rfl, by rw [← HR.out]; exact hi1.lo_ (by omega), bthen hBw hb1'⟩
  · have hkb : ((p.bk b).kind == 1) = false := by simp [hkd]
    have hR := cells_none hkd
    generalize cellsF p b = R at *
    have HR := Lib.hid hR
    generalize (p.bk b).kind = K at *
    clear hR hkd
    have hk0 := (al1.cell (p := ⟨g, b.toNat * 4, none⟩) (by exact hg) : (w.alloc (.cells #[.slice (some ⟨g, 0, none⟩) p.length C] 35)).cell? _ = _).trans E0.out
    go_enter Tryd.func78, Tryd.ntmps78
    go_wp2
    refine wp_loop_rounds 1 ?_
    rw [rounds_succ]
    have hk1 := (al2.cell (p := ⟨g, b.toNat * 4, none⟩) (by exact hg) : ((w.alloc (.cells #[.slice (some ⟨g, 0, none⟩) p.length C] 35)).alloc (.cells #[] 3)).cell? _ = _).trans E0.out
    go_wp2_with (go_at_call 74; refine (S_sorted _ [] _ _ (Ints.zero1 _ _)).mono ?_; rintro e w1 ⟨rv, rfl, hi1, hb1'⟩)
    all_goals
      go_ret
      exact ⟨_, rfl, by rw [← HR.out]; exact hi1.lo_ (by simp; omega), bthen al2 hb1'⟩

end Go.Proofs.YtpajkejdfalkiaaDoor
