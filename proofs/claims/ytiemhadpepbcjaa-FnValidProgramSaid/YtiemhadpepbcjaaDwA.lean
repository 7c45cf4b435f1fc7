/-
  Memory and walks: rows of statements and blocks that a call builds, the reader of bytes, draws of statements and blocks. Condition: what the arguments name stands in memory.
-/
import Derived.Test.YtiemhadpepbcjaaSpec11
import Derived.Test.YtiemhadpepbcjaaMark
import Derived.Test.YtiemhadpepbcjaaEq
import Derived.StillTailTactics
import Derived.Test.YtiemhadpepbcjaaOld
import Derived.Deep.RegionHeld3
import Derived.Deep.RegionLaw
namespace Go.Proofs.Ytiemhadpepbcjaa
open Go.RowKit
set_option linter.unusedVariables false

/-- A list of lists of numbers, in rows of its own, the inner rows apart from each other; us: the values of the inner rows. -/
def RowsOf (w : World) (lo : Nat) (v : Value) (us : List Value) (ll : List (List Int)) : Prop :=
  w.ownsRow lo 31 1 v ll.length us ∧ (∀ i, i < ll.length → Ints w lo (us.getD i undef) (ll.getD i [])) ∧
    ∀ i j, i < ll.length → j < ll.length → i ≠ j → Apart (us.getD i undef) (us.getD j undef)
theorem RowsOf.keep {w w' : World} {lo : Nat} {v : Value} {us : List Value} {ll : List (List Int)} (h : RowsOf w lo v us ll) (hb : Below w.heap.size w w') : RowsOf w' lo v us ll :=
  ⟨own_keep h.1 hb, fun i hi => (h.2.1 i hi).keep hb, h.2.2⟩
theorem RowsOf.lo_ {w : World} {lo lo' : Nat} {v : Value} {us : List Value} {ll : List (List Int)} (h : RowsOf w lo v us ll) (hl : lo' ≤ lo) : RowsOf w lo' v us ll :=
  ⟨own_lo h.1 hl, fun i hi => (h.2.1 i hi).lo_ hl, h.2.2⟩

set_option maxRecDepth 100000 in
theorem eqIntSS_any (va vb : Value) (ua ub : List Value) (la lb : List (List Int)) (l1 l2 : Nat) (w : World) (ha : RowsOf w l1 va ua la) (hb : RowsOf w l2 vb ub lb) :
    Calls Try.prog 22 #[va, vb] w fun e w' => e = .returned (.bool (la == lb)) ∧ Below w.heap.size w w' := by
  obtain ⟨A, C, g, rfl, hn, hc, hA, hg, hcell, hf⟩ := own_rd ha.1
  obtain ⟨A', C', g', rfl, hn', hc', hA', hg', hcell', hf'⟩ := own_rd hb.1
  have hia := ha.2.1
  have hib := hb.2.1
  have HIA := Lib.hid hia
  have HIB := Lib.hid hib
  clear ha hb hf hf' hia hib
  unfold maxLen at hc hc'
  by_cases hl : la.length = lb.length
  · have H := Lib.hid hl
    have hb0 : ((la.length : Int) != (lb.length : Int)) = false := by rw [hl]; simp
    have hn1 : la.length ≤ lb.length := by omega
    clear hl
    go_enter Try.func22, Try.ntmps22
    go_wp2
    go_loopw [5] (fun i wr => ∃ k : Nat, k ≤ la.length ∧ i = .int .i64 k ∧ Below w.heap.size w wr ∧ ∀ j, j < k → la.getD j [] = lb.getD j []) (fun i _ => la.length - (intOf i).toNat)
    case atStart => exact ⟨0, Nat.zero_le _, rfl, Below.refl _ _, fun j hj => absurd hj (Nat.not_lt_zero _)⟩
    case round =>
      obtain ⟨k, hk, rfl, hB, hp⟩ := hrel
      have HP := Lib.hid hp
      clear hp
      by_cases hlt : k < la.length
      · have c1 := hcell k (by omega)
        have d1 := hcell' k (by omega)
        have hp1 := HIA.out k hlt
        have hp2 := HIB.out k (by omega)
        have hgl := (hg (by omega)).2
        have hgl' := (hg' (by omega)).2
        rw [← hB.cell (p := ⟨g, _, none⟩) hgl] at c1
        rw [← hB.cell (p := ⟨g', _, none⟩) hgl'] at d1
        obtain rfl := hA (by omega)
        obtain rfl := hA' (by omega)
        clear hA hA' hcell hcell' hg hg'
        generalize hx : la.getD k [] = x at hp1
        generalize hy : lb.getD k [] = y at hp2
        have HX := Lib.hid hx
        have HY := Lib.hid hy
        obtain ⟨A1, C1, e1⟩ := hp1.form
        obtain ⟨A2, C2, e2⟩ := hp2.form
        rw [e1] at c1 hp1
        rw [e2] at d1 hp2
        clear hx hy e1 e2
        have hi1 : (k : Int) < (la.length : Int) := by omega
        have hi2 : (k : Int) < (lb.length : Int) := by omega
        go_wp2
        go_still_tail 8, (by kernel_rfl)
        change wpList _ _ _ _ _ wr.drew
        have hB1 : Below w.heap.size w wr.drew := hB.drew
        generalize wr.drew = w2 at hB1
        clear c1 d1 hB
        by_cases hxy : x = y
        · have HE := Lib.hid hxy
          have hbq : (x == y) = true := by simp [hxy]
          clear hxy
          go_wp2_with (go_at_call 58; refine (eqIntS_any _ _ x y l1 l2 _ (hp1.keep hB1) (hp2.keep hB1)).mono ?_; rintro e w3 ⟨rfl, hb3⟩)
          go_roundw
          case rel => exact ⟨k + 1, by omega, by go_num, hB1.trans (hb3.mono hB1.size), fun j hj => by
            rcases Nat.lt_succ_iff_lt_or_eq.1 hj with h | rfl
            · exact HP.out j h
            · rw [HX.out, HY.out, HE.out]⟩
          case measure => simp [intOf]; omega
        · have HE := Lib.hid hxy
          have hbq : (x == y) = false := by simp [hxy]
          clear hxy
          go_wp2_with (go_at_call 58; refine (eqIntS_any _ _ x y l1 l2 _ (hp1.keep hB1) (hp2.keep hB1)).mono ?_; rintro e w3 ⟨rfl, hb3⟩)
          go_ret
          refine ⟨ret_bool ?_, hB1.trans (hb3.mono hB1.size)⟩
          rw [eq_comm, beq_eq_false_iff_ne]
          rintro rfl
          exact HE.out (by rw [← HX.out, ← HY.out])
      · go_wp2
        go_ret
        refine ⟨ret_bool ?_, hB⟩
        obtain rfl : k = la.length := by omega
        rw [eq_comm, beq_iff_eq]
        refine List.ext_getElem H.out fun i h1 h2 => ?_
        have := HP.out i h1
        simpa [List.getD, h1, h2] using this
  · have hb0 : ((la.length : Int) != (lb.length : Int)) = true := by simp; omega
    go_enter Try.func22, Try.ntmps22
    go_wp2
    go_ret
    refine ⟨ret_bool ?_, Below.refl _ _⟩
    rw [eq_comm, beq_eq_false_iff_ne]
    intro h
    exact absurd (congrArg _ h) hl

/-- Marks cut into rows of given lengths. -/
def seqs (k : Int) : List Nat → List (List Int)
  | [] => []
  | n :: ns => seqI k n :: seqs (k + n) ns
def upSum (ns : List Nat) (j : Nat) : Nat := (ns.take j).sum
theorem upSum_zero (ns : List Nat) : upSum ns 0 = 0 := by simp [upSum]
theorem upSum_succ : ∀ (ns : List Nat) (j : Nat), j < ns.length → upSum ns (j + 1) = upSum ns j + ns.getD j 0
  | [], j, h => absurd h (Nat.not_lt_zero _)
  | n :: ns, 0, _ => by simp [upSum]
  | n :: ns, j + 1, h => by
    have := upSum_succ ns j (by simpa using h)
    unfold upSum at this ⊢
    simp only [List.take_succ_cons, List.sum_cons, List.getD_cons_succ]
    omega
theorem upSum_le (ns : List Nat) : ∀ j, upSum ns j ≤ ns.sum := fun j => by
  unfold upSum
  conv => rhs; rw [← List.take_append_drop j ns]
  rw [List.sum_append]
  omega
theorem upSum_all (ns : List Nat) : upSum ns ns.length = ns.sum := by unfold upSum; rw [List.take_length]
theorem length_seqs : ∀ (ns : List Nat) (k : Int), (seqs k ns).length = ns.length
  | [], _ => rfl
  | n :: ns, k => by simp [seqs, length_seqs ns]
theorem seqs_getD : ∀ (ns : List Nat) (k : Int) (j : Nat), j < ns.length → (seqs k ns).getD j [] = seqI (k + upSum ns j) (ns.getD j 0)
  | [], _, j, h => absurd h (Nat.not_lt_zero _)
  | n :: ns, k, 0, _ => by simp [seqs, upSum]
  | n :: ns, k, j + 1, h => by
    have := seqs_getD ns (k + n) j (by simpa using h)
    unfold upSum at this ⊢
    simp only [seqs, List.getD_cons_succ, List.take_succ_cons, List.sum_cons] at this ⊢
    rw [this]
    congr 1
    omega

set_option maxRecDepth 100000 in
theorem heldIntSS_any (v : Value) (us : List Value) (ns : List Nat) (lo : Nat) (k : Int) (w : World) (hv : RowsOf w lo v us (seqs k ns)) (hk : 0 ≤ k) (hk2 : k + ns.sum ≤ 1099511627776) :
    Calls Try.prog 26 #[v, .int .i64 k] w fun e w' => e = .returned (.int .i64 (k + ns.sum)) ∧ w = w' := by
  obtain ⟨A, C, g, rfl, hn, hc, hA, hg, hcell, hf⟩ := own_rd hv.1
  have hin := hv.2.1
  rw [length_seqs] at hn hA hg hcell hin ⊢
  unfold maxLen at hc
  have HIN := Lib.hid hin
  have hus := upSum_succ ns
  have HUS := Lib.hid hus
  have hle := upSum_le ns
  have HLE := Lib.hid hle
  have hal := upSum_all ns
  have hgd := seqs_getD ns k
  have HGD := Lib.hid hgd
  have h0 := upSum_zero ns
  generalize ns.sum = T at *
  generalize upSum ns = S at *
  clear hf hv hin hus hle hgd
  go_enter Try.func26, Try.ntmps26
  go_wp2
  go_loop [1, 5] (fun q i => ∃ j : Nat, j ≤ ns.length ∧ i = .int .i64 j ∧ q = .int .i64 (k + S j)) (fun _ i => ns.length - (intOf i).toNat)
  case atStart => exact ⟨0, Nat.zero_le _, rfl, by rw [h0]; simp⟩
  case round =>
    obtain ⟨j, hj, rfl, rfl⟩ := hrel
    by_cases hlt : j < ns.length
    · obtain rfl := hA (by omega)
      have hc1 := hcell j (by omega)
      have hr := HIN.out j hlt
      rw [HGD.out j hlt] at hr
      have hgl := (hg (by omega)).2
      have hS := HUS.out j hlt
      have hL := HLE.out (j + 1)
      obtain ⟨A1, C1, e1⟩ := hr.form
      rw [length_seqI] at e1
      rw [e1] at hc1 hr
      have HRR := Lib.hid hr
      generalize ns.getD j 0 = n at *
      have hnn : (decide (k + ↑(S j) + (n : Int) < 0)) = false := by simp; omega
      have hge : ¬ (k + ↑(S j) + (n : Int) < 0) := by omega
      clear hA hg hcell hr e1 h0 hal
      go_wp2_with (go_at_call 62; refine (heldIntS_any _ n lo _ _ HRR.out (by omega) (by omega)).mono ?_; rintro e w' ⟨rfl, rfl⟩)
      go_round
      case rel => exact ⟨j + 1, by omega, by go_num, by rw [hS]; go_num⟩
      case measure => simp [intOf]; omega
    · obtain rfl : j = ns.length := by omega
      rw [hal]
      go_wp2
      go_ret
      exact ⟨rfl, rfl⟩

theorem own_types {w : World} {lo lo' e e' size size' n n' : Nat} {v v' : Value} {xs xs' : List Value} (h1 : w.ownsRow lo e size v n xs) (h2 : w.ownsRow lo' e' size' v' n' xs') (hne : e ≠ e') : v.ownBlock = none ∨ v.ownBlock ≠ v'.ownBlock := by
  rcases h1.2 with ⟨rfl, _⟩ | ⟨g, cap, cur, rfl, hg, hh, _⟩
  · exact .inl rfl
  · right
    intro hc
    rcases h2.2 with ⟨rfl, _⟩ | ⟨g', cap', cur', rfl, hg', hh', _⟩
    · simp [Value.ownBlock] at hc
    · have e0 : g = g' := by simpa [Value.ownBlock] using hc
      subst e0
      rw [hh] at hh'
      simp at hh'
      exact hne hh'.2

set_option maxRecDepth 100000 in
theorem markIntSS_any (v : Value) (us : List Value) (ll : List (List Int)) (lo : Nat) (k : Int) (w : World) (hlo : lo ≤ w.heap.size) (hv : RowsOf w lo v us ll) (hk : 0 ≤ k) (hk2 : k + (ll.map List.length).sum ≤ 1099511627776) :
    Calls Try.prog 25 #[v, .int .i64 k] w fun e w' => e = .returned (.int .i64 (k + (ll.map List.length).sum)) ∧ RowsOf w' lo v us (seqs k (ll.map List.length)) ∧ Below lo w w' := by
  obtain ⟨A, C, g, rfl, hn, hc, hA, hg, _, _⟩ := own_rd hv.1
  unfold maxLen at hc
  have ho := hv.1
  have hin := hv.2.1
  have hap := hv.2.2
  obtain ⟨ns, hns⟩ : ∃ ns : List Nat, ns = ll.map List.length := ⟨_, rfl⟩
  have hnl : ns.length = ll.length := by rw [hns, List.length_map]
  have hng : ∀ i, i < ll.length → ns.getD i 0 = (ll.getD i []).length := fun i hi => by rw [hns]; simp [List.getD, hi]
  rw [← hns] at hk2 ⊢
  have hus := upSum_succ ns
  have hle := upSum_le ns
  have hal := upSum_all ns
  have hgd := seqs_getD ns k
  have hsl := length_seqs ns k
  have h0 := upSum_zero ns
  rw [hnl] at hal hsl
  generalize seqs k ns = Q at *
  generalize ns.sum = T at *
  generalize upSum ns = S at *
  have HIN := Lib.hid hin
  have HAP := Lib.hid hap
  have HUS := Lib.hid hus
  have HLE := Lib.hid hle
  have HGD := Lib.hid hgd
  have HNG := Lib.hid hng
  have HO := Lib.hid ho
  have HSL := Lib.hid hsl
  clear hv hin hus hle hgd hns hng ho hap hsl
  go_enter Try.func25, Try.ntmps25
  go_wp2
  go_loopw [1, 5] (fun q i wr => ∃ j : Nat, j ≤ ll.length ∧ i = .int .i64 j ∧ q = .int .i64 (k + S j) ∧ wr.ownsRow lo 31 1 (.slice A ll.length C) ll.length us ∧ (∀ i, i < j → Ints wr lo (us.getD i undef) (seqI (k + S i) (ns.getD i 0))) ∧ (∀ i, j ≤ i → i < ll.length → Ints wr lo (us.getD i undef) (ll.getD i [])) ∧ Below lo w wr) (fun _ i _ => ll.length - (intOf i).toNat)
  case atStart => exact ⟨0, Nat.zero_le _, rfl, by rw [h0]; simp, HO.out, fun i hi => absurd hi (Nat.not_lt_zero _), fun i _ hi => HIN.out i hi, Below.refl _ _⟩
  case round =>
    obtain ⟨j, hj, rfl, rfl, hown, hdone, htodo, hB⟩ := hrel
    have HOW := Lib.hid hown
    have HD := Lib.hid hdone
    have HT := Lib.hid htodo
    clear hdone htodo
    by_cases hlt : j < ll.length
    · obtain ⟨_, C', g', e', _, _, hA', hg', hcell', _⟩ := own_rd hown
      obtain rfl := hA (by omega)
      obtain ⟨rfl, rfl⟩ : g = g' ∧ C = C' := by
        rw [hA' (by omega)] at e'
        simp only [Value.slice.injEq, Option.some.injEq, Addr.mk.injEq, and_true, true_and] at e'
        exact e'
      have hc1 := hcell' j (by omega)
      have hgl := (hg' (by omega)).2
      have hr := HT.out j (Nat.le_refl _) hlt
      have hS := HUS.out j (by omega)
      have hL := HLE.out (j + 1)
      have hnj := HNG.out j hlt
      have hne := own_types HOW.out hr (by decide)
      obtain ⟨U, hU⟩ : ∃ U : Value, us.getD j undef = U := ⟨_, rfl⟩
      rw [hU] at hc1 hr hne
      obtain ⟨A1, C1, e1⟩ := hr.form
      have HU := Lib.hid hU
      have HNJ := Lib.hid hnj
      have HSS := Lib.hid hS
      have hge := own_block_ge hr
      have HGE := Lib.hid hge
      have HNE := Lib.hid hne
      have hlj : S (j + 1) = S j + (ll.getD j []).length := by rw [hS, hnj]
      generalize ll.getD j [] = L at *
      rw [e1] at hc1
      have HRR := Lib.hid hr
      have HE1 := Lib.hid e1
      clear hown e' hA' hg' hcell' hr hU hnj hS hge hne e1 hA hg h0 hal
      go_wp2_with (go_at_call 61; rw [← HE1.out]; refine (markIntS_any _ L lo _ _ HRR.out (by omega) (by omega)).mono ?_; rintro e w2 ⟨rfl, hi2, hgr, hkr⟩)
      go_roundw
      case rel =>
        refine ⟨j + 1, by omega, by go_num, by rw [hlj]; go_num, World.ownsRow.kept HOW.out hgr HNE.out, fun i hi => ?_, fun i h1 h2 => ?_, hB.trans ((Below.refl lo wr).grown hgr (Nat.le_trans hlo (by have := hB.size; omega)) HGE.out)⟩
        · rcases Nat.lt_succ_iff_lt_or_eq.1 hi with h | rfl
          · exact Ints.kept (HD.out i h) hgr (by have := (HAP.out j i hlt (by omega) (by omega)).kept; rwa [HU.out] at this)
          · rw [HU.out, HNJ.out]; exact hi2
        · exact Ints.kept (HT.out i (by omega) h2) hgr (by have := (HAP.out j i hlt h2 (by omega)).kept; rwa [HU.out] at this)
      case measure => simp [intOf]; omega
    · obtain rfl : j = ll.length := by omega
      rw [hal]
      go_wp2
      go_ret
      exact ⟨rfl, ⟨by rw [HSL.out]; exact hown, fun i hi => by rw [HSL.out] at hi; rw [HGD.out i (by omega)]; exact HD.out i hi, fun i j hi hj => by rw [HSL.out] at hi hj; exact HAP.out i j hi hj⟩, hB⟩

theorem own_one {w : World} {B lo : Nat} (hB : w.heap.size = B) (hl : lo ≤ B) (U : Value) : (w.alloc (.cells #[U] 31)).ownsRow lo 31 1 (.slice (some ⟨B, 0, none⟩) 1 1) 1 [U] := by
  subst hB
  have h := World.ownsRow_lit (base := lo) (e := 31) (size := 1) w #[U] 1 hl (by unfold maxLen; omega) (by simp)
  simpa using h

/-- append of one inner row. -/
theorem wpList_append_row {w : World} {ops : Array Oper} {rest : List Oper} {o : Oper} {a : Act} {Q : Exit → Act → World → Prop} (hgd : o.guard = none) (s x : Operand)
    (ho : o.op = .call { callee := .builtin .append, args := #[s, x], argTypes := #[38, 38] })
    (v U : Value) (us : List Value) (ll : List (List Int)) (L : List Int) (base B : Nat) (hB : w.heap.size = B) (hs : a.eval s = v) (hx : a.eval x = .slice (some ⟨B, 0, none⟩) 1 1)
    (hr : RowsOf w base v us ll) (hu : Ints w base U L) (hap : ∀ i, i < ll.length → Apart (us.getD i undef) U) (hlen : ll.length + 1 ≤ 1000) (hbase : base ≤ w.heap.size)
    (h : ∀ v' w', RowsOf w' base v' (us ++ [U]) (ll ++ [L]) → Below base w w' → wpList Try.prog ops Q rest (a.put o.dst v') w') :
    wpList Try.prog ops Q (o :: rest) a (w.alloc (.cells #[U] 31)) := by
  obtain ⟨A1, C1, e1⟩ := hu.form
  have hul : us.length = ll.length := by have := hr.1.1; omega
  refine wpList_append_rows hgd s x _ ho base base 31 (.slice none 0 0) 1 24 Try.underlying38 (by kernel_rfl) rfl (by decide) v _ ll.length 1 us [U] hs hx (own_keep hr.1 al1) (own_one hB (by omega) U) (fun u hu' => by rw [List.mem_singleton.1 hu', e1]; rfl) (by unfold maxLen; omega) (by omega) (by rw [World.size_alloc]; omega) ?_
  intro v' w' h2 h3 h4 _
  have hk : ∀ (V : Value) (l : List Int), Ints w base V l → Ints w' base V l := fun V l hV => by
    have hV1 : Ints (w.alloc (.cells #[U] 31)) base V l := hV.keep al1
    have hr1 : (w.alloc (.cells #[U] 31)).ownsRow base 31 1 v ll.length us := own_keep hr.1 al1
    exact Ints.kept hV1 h3 (own_types hV1 hr1 (by decide))
  have hg : ∀ i, i < us.length → (us ++ [U]).getD i undef = us.getD i undef := fun i hi => by simp [List.getD, List.getElem?_append_left hi]
  have hgl : (us ++ [U]).getD us.length undef = U := by simp [List.getD]
  refine h v' w' ⟨by rw [List.length_append]; exact h2, fun i hi => ?_, fun i j hi hj hij => ?_⟩ ((al1.mono hbase).trans h4)
  · rw [List.length_append] at hi
    by_cases e : i < ll.length
    · rw [hg i (by omega), show (ll ++ [L]).getD i [] = ll.getD i [] by simp [List.getD, List.getElem?_append_left e]]
      exact hk _ _ (hr.2.1 i e)
    · obtain rfl : i = ll.length := by simp at hi; omega
      rw [← hul, hgl, show (ll ++ [L]).getD us.length [] = L by rw [hul]; simp [List.getD]]
      exact hk _ _ hu
  · rw [List.length_append] at hi hj
    simp at hi hj
    by_cases ei : i < ll.length
    · rw [hg i (by omega)]
      by_cases ej : j < ll.length
      · rw [hg j (by omega)]
        exact hr.2.2 i j ei ej hij
      · obtain rfl : j = ll.length := by omega
        rw [← hul, hgl]
        exact hap i ei
    · obtain rfl : i = ll.length := by omega
      have ej : j < ll.length := by omega
      rw [← hul, hgl, hg j (by omega)]
      exact fun k hk1 hk2 => hap j ej k hk2 hk1

end Go.Proofs.Ytiemhadpepbcjaa

namespace Go.Proofs.Ytiemhadpepbcjaa
open Go.RowKit
set_option linter.unusedVariables false

/-! ### what an append may be fed with -/
/-- A slice whose cells are read: nil, or cells behind an address. -/
def Feed (w : World) (size : Nat) (v : Value) (m : Nat) (ys : List Value) : Prop :=
  ys.length = m * size ∧ ((v = .slice none 0 0 ∧ m = 0) ∨ ∃ ad c, v = .slice (some ad) m c ∧ ∀ j u, ys[j]? = some u → w.cell? (ad.add j) = some u)
theorem Feed.of_row {w : World} {lo : Nat} {e : TypeId} {size m : Nat} {v : Value} {ys : List Value} (h : w.ownsRow lo e size v m ys) : Feed w size v m ys := by
  refine ⟨h.1, ?_⟩
  rcases h.2 with ⟨rfl, rfl⟩ | ⟨g, cap, cur, rfl, hg, hh, hr⟩
  · exact .inl ⟨rfl, rfl⟩
  · exact .inr ⟨_, cap, rfl, own_news h⟩
/-- A part of a row. -/
theorem Feed.part {w : World} {lo : Nat} {e : TypeId} {size n C g : Nat} {xs : List Value} (h : w.ownsRow lo e size (.slice (some ⟨g, 0, none⟩) n C) n xs) (at_ m C' o : Nat) (ha : at_ + m ≤ n) (ho : o = at_ * size) :
    Feed w size (.slice (some ⟨g, o, none⟩) m C') m ((xs.drop (at_ * size)).take (m * size)) := by
  subst ho
  have hl := h.1
  have hm : at_ * size + m * size ≤ n * size := by rw [← Nat.add_mul]; exact Nat.mul_le_mul_right _ ha
  refine ⟨by rw [List.length_take, List.length_drop]; omega, .inr ⟨_, _, rfl, fun j u hu => ?_⟩⟩
  rw [List.getElem?_take] at hu
  split at hu
  case isTrue hj =>
    rw [List.getElem?_drop] at hu
    have := own_news h _ _ hu
    rw [Go.WideShapes.add_plain] at this ⊢
    rw [Nat.zero_add] at this
    exact this
  case isFalse => cases hu
theorem Feed.keep {w w' : World} {size m : Nat} {v : Value} {ys : List Value} (h : Feed w size v m ys) (hsz : 0 < size) (hb : Below w.heap.size w w') : Feed w' size v m ys := by
  refine ⟨h.1, ?_⟩
  rcases h.2 with h2 | ⟨ad, c, rfl, hc⟩
  · exact .inl h2
  · refine .inr ⟨ad, c, rfl, fun j u hu => ?_⟩
    have h1 := hc j u hu
    exact (hb.cell (p := ad.add j) (World.block_lt_of_cell? _ _ h1)).trans h1

/-- The law on append, fed with cells. -/
theorem wpList_append_feed {P : Program} {w : World} {ops : Array Oper} {rest : List Oper} {o : Oper} {a : Act} {Q : Exit → Act → World → Prop} (hgd : o.guard = none) (s x : Operand) (t : TypeId)
    (ho : o.op = .call { callee := .builtin .append, args := #[s, x], argTypes := #[t, t] })
    (base : Nat) (e : TypeId) (z : Value) (size bytes : Nat) (ht : P.underlying t = some (.slice e)) (hinfo : (P.info? e).map (fun i => (i.zero, i.size, i.bytes)) = some (some z, size, bytes))
    (hzs : z.cells.size = size) (hsz : 0 < size)
    (v v2 : Value) (n m : Nat) (xs ys : List Value) (hs : a.eval s = v) (hx : a.eval x = v2) (hown : w.ownsRow base e size v n xs) (hfeed : Feed w size v2 m ys) (h1 : ∀ u ∈ ys, u.oneCell' = true)
    (h63 : n + m ≤ maxLen) (hbytes : (n + m) * bytes ≤ 140737488355328) (hbase : base ≤ w.heap.size)
    (h : ∀ v' w', w'.ownsRow base e size v' (n + m) (xs ++ ys) → w.grownBy w' v.ownBlock → Below base w w' → RowFrom v v' w.heap.size → wpList P ops Q rest (a.put o.dst v') w') :
    wpList P ops Q (o :: rest) a w := by
  obtain ⟨i, hi, hz0, hz1, hz2⟩ := info_parts hinfo
  obtain ⟨hl, hf⟩ := hfeed
  rcases hf with ⟨rfl, rfl⟩ | ⟨ad, c, rfl, hnews⟩
  · refine wpList_append_own_none hgd s x t ho base e i size ht hi v n xs hs hown hx ?_
    have : ys = [] := List.eq_nil_of_length_eq_zero (by omega)
    subst this
    exact h v w (by simpa using hown) (World.grownBy.refl w _) (Below.refl _ _) (.inl rfl)
  · refine wpList_append_own_at w hgd s x t ho base e i z size bytes ht hi hz0 hz1 hz2 hzs hsz v n xs hs hown ad m c ys hx hl hnews h1 h63 hbytes hbase ?_
    intro v' w' h2 h3 h4 h5
    refine h v' w' h2 h3 ((Below.refl base w).grown h3 hbase (own_block_ge hown)) ?_
    rcases h5 with h5 | h5
    · exact .inl h5
    · exact .inr ⟨_, h5, Nat.le_refl _⟩

/-- The same at a step of a region that draws its order. -/
theorem step_append_feed {P : Program} {w : World} {ops : Array Oper} {o : Oper} {a : Act} {K : Act → World → Prop} {Q : Exit → Act → World → Prop} {E : Prop} (hgd : o.guard = none) (s x : Operand) (t : TypeId)
    (ho : o.op = .call { callee := .builtin .append, args := #[s, x], argTypes := #[t, t] })
    (base : Nat) (e : TypeId) (z : Value) (size bytes : Nat) (ht : P.underlying t = some (.slice e)) (hinfo : (P.info? e).map (fun i => (i.zero, i.size, i.bytes)) = some (some z, size, bytes))
    (hzs : z.cells.size = size) (hsz : 0 < size)
    (v v2 : Value) (n m : Nat) (xs ys : List Value) (hs : a.eval s = v) (hx : a.eval x = v2) (hown : w.ownsRow base e size v n xs) (hfeed : Feed w size v2 m ys) (h1 : ∀ u ∈ ys, u.oneCell' = true)
    (h63 : n + m ≤ maxLen) (hbytes : (n + m) * bytes ≤ 140737488355328) (hbase : base ≤ w.heap.size)
    (h : ∀ v' w', w'.ownsRow base e size v' (n + m) (xs ++ ys) → w.grownBy w' v.ownBlock → Below base w w' → RowFrom v v' w.heap.size → K (a.put o.dst v') w') :
    if Region.wanted o (yielded ops a.tmps) = true then Oper.wp P o a w K Q else E := by
  have hw : Region.wanted o (yielded ops a.tmps) = true := by simp [Region.wanted, hgd]
  rw [if_pos hw]
  obtain ⟨i, hi, hz0, hz1, hz2⟩ := info_parts hinfo
  obtain ⟨hl, hf⟩ := hfeed
  rcases hf with ⟨rfl, rfl⟩ | ⟨ad, c, rfl, hnews⟩
  · have : ys = [] := List.eq_nil_of_length_eq_zero (by omega)
    subst this
    have hrun := run_append_owned_none (P := P) (w := w) base t o.type e i size ht hi v n _ hown
    unfold Oper.wp
    simp [execOp, ho, resolve, invoke, builtin, hs, hx, hrun, Result.andThen]
    exact h v w (by simpa using hown) (World.grownBy.refl w _) (Below.refl _ _) (.inl rfl)
  · obtain ⟨v', w', hrun, h2, h3, _, h5⟩ := run_append_own_at (P := P) w base t o.type e i z size bytes ht hi hz0 hz1 hz2 hzs hsz v n _ hown ad m c _ hl hnews h1 h63 hbytes hbase
    unfold Oper.wp execOp
    simp only [ho, resolve, invoke, builtin, Sem.run_bind, Sem.run_pure, Result.andThen_ok, List.map_toArray, List.map_cons, List.map_nil, hs, hx, hrun]
    refine h v' w' h2 h3 ((Below.refl base w).grown h3 hbase (own_block_ge hown)) ?_
    rcases h5 with h5 | h5
    · exact .inl h5
    · exact .inr ⟨_, h5, Nat.le_refl _⟩

/-! ### statements -/
theorem inf_Stmt : (Try.prog.info? 60).map (fun i => (i.zero, i.size, i.bytes)) = some (some (.agg #[.int .i64 0, .int .i64 0, .int .i64 0, .int .i64 0]), 4, 32) := by kernel_rfl
theorem st_oneCell (l : List St) : ∀ u ∈ stCells l, u.oneCell' = true := by
  rw [stCells_raw]
  exact ints_oneCell _ _
theorem stCells_append (l m : List St) : stCells (l ++ m) = stCells l ++ stCells m := by simp [stCells]
theorem stCells_drop : ∀ (l : List St) (k : Nat), (stCells l).drop (k * 4) = stCells (l.drop k)
  | [], k => by simp [stCells]
  | s :: l, 0 => by simp
  | s :: l, k + 1 => by
    have := stCells_drop l k
    simp only [stCells, List.flatMap_cons, List.drop_succ_cons] at this ⊢
    rw [show (k + 1) * 4 = k * 4 + 4 by omega, ← this]
    simp
theorem stCells_take : ∀ (l : List St) (k : Nat), (stCells l).take (k * 4) = stCells (l.take k)
  | [], k => by simp [stCells]
  | s :: l, 0 => by simp [stCells]
  | s :: l, k + 1 => by
    have := stCells_take l k
    simp only [stCells, List.flatMap_cons, List.take_succ_cons] at this ⊢
    rw [show (k + 1) * 4 = k * 4 + 4 by omega, ← this]
    simp
/-- A slice of statements that is read: l. -/
def FeedS (w : World) (v : Value) (l : List St) : Prop := Feed w 4 v l.length (stCells l)
theorem Stmts.feed {w : World} {lo : Nat} {v : Value} {l : List St} (h : Stmts w lo v l) : FeedS w v l := Feed.of_row h
theorem FeedS.keep {w w' : World} {v : Value} {l : List St} (h : FeedS w v l) (hb : Below w.heap.size w w') : FeedS w' v l := Feed.keep h (by omega) hb
theorem Stmts.from_ {w : World} {lo g n C : Nat} {l : List St} (h : Stmts w lo (.slice (some ⟨g, 0, none⟩) n C) l) (k m C' o : Nat) (hm : m = l.length - k) (hk : k ≤ l.length) (ho : o = k * 4) : FeedS w (.slice (some ⟨g, o, none⟩) m C') (l.drop k) := by
  obtain ⟨_, _, e⟩ := h.form
  simp only [Value.slice.injEq] at e
  have hn := e.2.1
  subst hn
  have := Feed.part h k m C' o (by omega) ho
  unfold FeedS
  rw [stCells_drop, List.take_of_length_le (by rw [length_stCells, List.length_drop]; omega)] at this
  rw [List.length_drop, ← hm]
  exact this
theorem Stmts.upto_ {w : World} {lo g n C : Nat} {l : List St} (h : Stmts w lo (.slice (some ⟨g, 0, none⟩) n C) l) (k C' : Nat) (hk : k ≤ l.length) : FeedS w (.slice (some ⟨g, 0, none⟩) k C') (l.take k) := by
  obtain ⟨_, _, e⟩ := h.form
  simp only [Value.slice.injEq] at e
  have hn := e.2.1
  subst hn
  have := Feed.part h 0 k C' 0 (by omega) (by omega)
  unfold FeedS
  rw [Nat.zero_mul, List.drop_zero, stCells_take] at this
  rw [List.length_take, Nat.min_eq_left hk]
  exact this
theorem Stmts.lit {w : World} {B lo : Nat} (hB : w.heap.size = B) (hl : lo ≤ B) (l : List St) (hn : l.length ≤ 1048576) : Stmts (w.alloc (.cells (stCells l).toArray 60)) lo (.slice (some ⟨B, 0, none⟩) l.length l.length) l := by
  subst hB
  have h := World.ownsRow_lit (base := lo) (e := 60) (size := 4) w (stCells l).toArray l.length hl (by unfold maxLen; omega) (by simp [length_stCells])
  simpa [Stmts] using h
theorem Stmts.zero {w : World} {B lo : Nat} (hB : w.heap.size = B) (hl : lo ≤ B) : Stmts (w.alloc (.cells #[] 60)) lo (.slice (some ⟨B, 0, none⟩) 0 0) [] := by
  have := Stmts.lit hB hl [] (by simp)
  simpa [stCells] using this
theorem Stmts.one {w : World} {B lo : Nat} (hB : w.heap.size = B) (hl : lo ≤ B) (a b c d : Int) : Stmts (w.alloc (.cells #[.int .i64 a, .int .i64 b, .int .i64 c, .int .i64 d] 60)) lo (.slice (some ⟨B, 0, none⟩) 1 1) [⟨a, b, c, d⟩] := by
  have := Stmts.lit hB hl [⟨a, b, c, d⟩] (by simp)
  simpa [stCells] using this
theorem Stmts.kept {w w' : World} {lo : Nat} {v : Value} {l : List St} {row : Option Nat} (h : Stmts w lo v l) (hg : w.grownBy w' row) (hne : v.ownBlock = none ∨ v.ownBlock ≠ row) : Stmts w' lo v l := World.ownsRow.kept h hg hne

theorem wpList_append_stmts {w : World} {ops : Array Oper} {rest : List Oper} {o : Oper} {a : Act} {Q : Exit → Act → World → Prop} (hgd : o.guard = none) (s x : Operand)
    (ho : o.op = .call { callee := .builtin .append, args := #[s, x], argTypes := #[54, 54] })
    (v v2 : Value) (l l2 : List St) (base : Nat) (hs : a.eval s = v) (hx : a.eval x = v2) (hown : Stmts w base v l) (hfeed : FeedS w v2 l2) (hlen : l.length + l2.length ≤ 1048576) (hbase : base ≤ w.heap.size)
    (h : ∀ v' w', Stmts w' base v' (l ++ l2) → w.grownBy w' v.ownBlock → Below base w w' → RowFrom v v' w.heap.size → wpList Try.prog ops Q rest (a.put o.dst v') w') :
    wpList Try.prog ops Q (o :: rest) a w := by
  refine wpList_append_feed hgd s x _ ho base 60 _ 4 32 Try.underlying54 inf_Stmt rfl (by decide) v v2 l.length l2.length _ _ hs hx hown hfeed (st_oneCell _) (by unfold maxLen; omega) (by omega) hbase ?_
  intro v' w' h2 h3 h4 h5
  refine h v' w' ?_ h3 h4 h5
  unfold Stmts
  rw [List.length_append, stCells_append]
  exact h2
theorem step_append_stmts {w : World} {ops : Array Oper} {o : Oper} {a : Act} {K : Act → World → Prop} {Q : Exit → Act → World → Prop} {E : Prop} (hgd : o.guard = none) (s x : Operand)
    (ho : o.op = .call { callee := .builtin .append, args := #[s, x], argTypes := #[54, 54] })
    (v v2 : Value) (l l2 : List St) (base : Nat) (hs : a.eval s = v) (hx : a.eval x = v2) (hown : Stmts w base v l) (hfeed : FeedS w v2 l2) (hlen : l.length + l2.length ≤ 1048576) (hbase : base ≤ w.heap.size)
    (h : ∀ v' w', Stmts w' base v' (l ++ l2) → w.grownBy w' v.ownBlock → Below base w w' → RowFrom v v' w.heap.size → K (a.put o.dst v') w') :
    if Region.wanted o (yielded ops a.tmps) = true then Oper.wp Try.prog o a w K Q else E := by
  refine step_append_feed hgd s x _ ho base 60 _ 4 32 Try.underlying54 inf_Stmt rfl (by decide) v v2 l.length l2.length _ _ hs hx hown hfeed (st_oneCell _) (by unfold maxLen; omega) (by omega) hbase ?_
  intro v' w' h2 h3 h4 h5
  refine h v' w' ?_ h3 h4 h5
  unfold Stmts
  rw [List.length_append, stCells_append]
  exact h2

/-! ### blocks in a row of their own, the bodies apart from each other -/
/-- xs: the cells of the blocks; of the body of the block k nothing is said. -/
structure PRowX (w : World) (lo : Nat) (v : Value) (xs : List Value) (p : Pr) (k : Nat) : Prop where
  own : w.ownsRow lo 56 4 v p.length xs
  head : ∀ i, i < p.length → xs.getD (i * 4) undef = .int .i64 (p.getD i default).kind ∧ xs.getD (i * 4 + 1) undef = .int .i64 (p.getD i default).parent
  pars : ∀ i, i < p.length → Ints w lo (xs.getD (i * 4 + 2) undef) (p.getD i default).params
  body : ∀ i, i < p.length → i ≠ k → Stmts w lo (xs.getD (i * 4 + 3) undef) (p.getD i default).body
  apart : ∀ i j, i < p.length → j < p.length → i ≠ k → j ≠ k → i ≠ j → Apart (xs.getD (i * 4 + 3) undef) (xs.getD (j * 4 + 3) undef)
abbrev PRow (w : World) (lo : Nat) (v : Value) (xs : List Value) (p : Pr) : Prop := PRowX w lo v xs p p.length

section
variable {w w' : World} {lo k : Nat} {v : Value} {xs : List Value} {p : Pr}
theorem PRowX.keep (h : PRowX w lo v xs p k) (hb : Below w.heap.size w w') : PRowX w' lo v xs p k :=
  ⟨own_keep h.own hb, h.head, fun i hi => (h.pars i hi).keep hb, fun i hi hk => (h.body i hi hk).keep hb, h.apart⟩
theorem PRowX.lo_ {lo' : Nat} (h : PRowX w lo v xs p k) (hl : lo' ≤ lo) : PRowX w lo' v xs p k :=
  ⟨own_lo h.own hl, h.head, fun i hi => (h.pars i hi).lo_ hl, fun i hi hk => (h.body i hi hk).lo_ hl, h.apart⟩
theorem PRowX.only {a b : Nat} (h : PRowX w lo v xs p k) (ho : Only a b w w') (hb : b ≤ lo) : PRowX w' lo v xs p k :=
  ⟨own_only h.own ho fun r hr => .inr (Nat.le_trans hb (own_block_ge h.own r hr)), h.head, fun i hi => own_only (h.pars i hi) ho fun r hr => .inr (Nat.le_trans hb (own_block_ge (h.pars i hi) r hr)),
    fun i hi hk => own_only (h.body i hi hk) ho fun r hr => .inr (Nat.le_trans hb (own_block_ge (h.body i hi hk) r hr)), h.apart⟩
theorem Ints.only {a b : Nat} {l : List Int} (h : Ints w lo v l) (ho : Only a b w w') (hb : b ≤ lo) : Ints w' lo v l := own_only h ho fun r hr => .inr (Nat.le_trans hb (own_block_ge h r hr))
theorem Stmts.only {a b : Nat} {l : List St} (h : Stmts w lo v l) (ho : Only a b w w') (hb : b ≤ lo) : Stmts w' lo v l := own_only h ho fun r hr => .inr (Nat.le_trans hb (own_block_ge h r hr))
theorem cell_only {a b g j : Nat} {u : Value} (ho : Only a b w w') (hc : w.cell? ⟨g, j, none⟩ = some u) (hg : g < a ∨ b ≤ g) : w'.cell? ⟨g, j, none⟩ = some u :=
  (World.cell?_of_block (a := ⟨g, j, none⟩) (ho.block g (World.block_lt_of_cell? _ _ hc) hg)).trans hc
theorem PRowX.full (h : PRow w lo v xs p) {i : Nat} (hi : i < p.length) : Stmts w lo (xs.getD (i * 4 + 3) undef) (p.getD i default).body := h.body i hi (by omega)
theorem PRowX.blks (h : PRow w lo v xs p) : Blks w lo v p := by
  have hl := h.own.1
  refine ⟨xs, h.own, fun i hi => ⟨xs.getD (i * 4 + 2) undef, xs.getD (i * 4 + 3) undef, ?_, h.pars i hi, h.full hi⟩⟩
  obtain ⟨h0, h1⟩ := h.head i hi
  rw [← h0, ← h1]
  apply List.ext_getElem
  · simp; omega
  · intro j hj hj'
    have h4 : j < 4 := by simpa using hj'
    have e : j = 0 ∨ j = 1 ∨ j = 2 ∨ j = 3 := by omega
    rcases e with rfl | rfl | rfl | rfl <;> simp [List.getD, show i * 4 < xs.length by omega, show i * 4 + 1 < xs.length by omega, show i * 4 + 2 < xs.length by omega, show i * 4 + 3 < xs.length by omega]
/-- Behind an append to the body of the block k. -/
theorem PRowX.grown (h : PRow w lo v xs p) (hk : k < p.length) (hg : w.grownBy w' (xs.getD (k * 4 + 3) undef).ownBlock) : PRowX w' lo v xs p k :=
  ⟨World.ownsRow.kept h.own hg (own_types h.own (h.full hk) (by decide)), h.head, fun i hi => Ints.kept (h.pars i hi) hg (own_types (h.pars i hi) (h.full hk) (by decide)),
    fun i hi hik => Stmts.kept (h.full hi) hg (h.apart k i hk hi (by omega) (by omega) (by omega)).kept, fun i j hi hj _ _ hij => h.apart i j hi hj (by omega) (by omega) hij⟩
theorem PRowX.part (h : PRow w lo v xs p) (k : Nat) : PRowX w lo v xs p k := ⟨h.own, h.head, h.pars, fun i hi _ => h.full hi, fun i j hi hj _ _ hij => h.apart i j hi hj (by omega) (by omega) hij⟩
theorem PRowX.rd (h : PRowX w lo v xs p k) (hp : 0 < p.length) : ∃ g C, v = .slice (some ⟨g, 0, none⟩) p.length C ∧ p.length ≤ C ∧ C ≤ maxLen ∧ lo ≤ g ∧ g < w.heap.size ∧ (∀ j, j < p.length * 4 → w.cell? ⟨g, j, none⟩ = some (xs.getD j undef)) ∧ (∀ j, w.frozen? ⟨g, j, none⟩ = false) := by
  obtain ⟨A, C, g, hv, hn, hc, hA, hg, hcell, hf⟩ := own_rd h.own
  exact ⟨g, C, by rw [hv, hA hp], hn, hc, (hg hp).1, (hg hp).2, hcell, hf hp⟩
end
theorem getD_set_ne {α : Type} (xs : List α) (a b : Nat) (u d : α) (h : b ≠ a) : (xs.set a u).getD b d = xs.getD b d := by
  simp [List.getD, Ne.symm h]
theorem getD_set_eq {α : Type} (xs : List α) (a : Nat) (u d : α) (h : a < xs.length) : (xs.set a u).getD a d = u := by
  simp [List.getD, h]
section
variable {w w' : World} {lo k g n C : Nat} {xs : List Value} {p : Pr}
theorem PRowX.setBody {U : Value} {l : List St} (h : PRowX w lo (.slice (some ⟨g, 0, none⟩) n C) xs p k) (hk : k < p.length) (hU : Stmts w lo U l) (hap : ∀ i, i < p.length → i ≠ k → Apart (xs.getD (i * 4 + 3) undef) U) :
    PRow (w.setCell ⟨g, k * 4 + 3, none⟩ U) lo (.slice (some ⟨g, 0, none⟩) n C) (xs.set (k * 4 + 3) U) (p.set k { p.getD k default with body := l }) := by
  obtain ⟨_, _, _, e, _⟩ := own_rd h.own
  simp only [Value.slice.injEq] at e
  obtain ⟨_, rfl, _⟩ := e
  have hl := h.own.1
  obtain ⟨h1, h2⟩ := World.ownsRow.stored (w := w) h.own (k * 4 + 3) U
  have kI : ∀ i, i < p.length → Ints (w.setCell ⟨g, k * 4 + 3, none⟩ U) lo (xs.getD (i * 4 + 2) undef) (p.getD i default).params := fun i hi => Ints.kept (h.pars i hi) h2 (by have := own_types (h.pars i hi) h.own (by decide); simpa [Value.ownBlock] using this)
  have kS : ∀ V m, Stmts w lo V m → Stmts (w.setCell ⟨g, k * 4 + 3, none⟩ U) lo V m := fun V m hV => Stmts.kept hV h2 (by have := own_types hV h.own (by decide); simpa [Value.ownBlock] using this)
  have gs : ∀ j, j ≠ k * 4 + 3 → (xs.set (k * 4 + 3) U).getD j undef = xs.getD j undef := fun j hj => getD_set_ne _ _ _ _ _ hj
  have gk : (xs.set (k * 4 + 3) U).getD (k * 4 + 3) undef = U := getD_set_eq _ _ _ _ (by omega)
  have ps : ∀ i, i ≠ k → (p.set k { p.getD k default with body := l }).getD i default = p.getD i default := fun i hi => getD_set_ne _ _ _ _ _ hi
  have pk : (p.set k { p.getD k default with body := l }).getD k default = { p.getD k default with body := l } := getD_set_eq _ _ _ _ hk
  refine ⟨by rw [List.length_set]; exact h1, fun i hi => ?_, fun i hi => ?_, fun i hi _ => ?_, fun i j hi hj _ _ hij => ?_⟩
  · rw [List.length_set] at hi
    rw [gs _ (by omega), gs _ (by omega)]
    by_cases e : i = k
    · subst e; rw [pk]; exact h.head i hi
    · rw [ps i e]; exact h.head i hi
  · rw [List.length_set] at hi
    rw [gs _ (by omega)]
    by_cases e : i = k
    · subst e; rw [pk]; exact kI i hi
    · rw [ps i e]; exact kI i hi
  · rw [List.length_set] at hi
    by_cases e : i = k
    · subst e; rw [pk, gk]; exact kS _ _ hU
    · rw [ps i e, gs _ (by omega)]; exact kS _ _ (h.body i hi e)
  · rw [List.length_set] at hi hj
    by_cases e : i = k
    · subst e
      rw [gk, gs _ (by omega)]
      exact fun r hr hr' => hap j hj (by omega) r hr' hr
    · rw [gs _ (by omega)]
      by_cases e' : j = k
      · subst e'
        rw [gk]
        exact hap i hi e
      · rw [gs _ (by omega)]
        exact h.apart i j hi hj e e' hij
theorem PRowX.setParent {x : Int} (h : PRow w lo (.slice (some ⟨g, 0, none⟩) n C) xs p) (hk : k < p.length) :
    PRow (w.setCell ⟨g, k * 4 + 1, none⟩ (.int .i64 x)) lo (.slice (some ⟨g, 0, none⟩) n C) (xs.set (k * 4 + 1) (.int .i64 x)) (p.set k { p.getD k default with parent := x }) := by
  obtain ⟨_, _, _, e, _⟩ := own_rd h.own
  simp only [Value.slice.injEq] at e
  obtain ⟨_, rfl, _⟩ := e
  have hl := h.own.1
  obtain ⟨h1, h2⟩ := World.ownsRow.stored (w := w) h.own (k * 4 + 1) (.int .i64 x)
  have kI : ∀ i, i < p.length → Ints (w.setCell ⟨g, k * 4 + 1, none⟩ (.int .i64 x)) lo (xs.getD (i * 4 + 2) undef) (p.getD i default).params := fun i hi => Ints.kept (h.pars i hi) h2 (by have := own_types (h.pars i hi) h.own (by decide); simpa [Value.ownBlock] using this)
  have kS : ∀ V m, Stmts w lo V m → Stmts (w.setCell ⟨g, k * 4 + 1, none⟩ (.int .i64 x)) lo V m := fun V m hV => Stmts.kept hV h2 (by have := own_types hV h.own (by decide); simpa [Value.ownBlock] using this)
  have gs : ∀ j, j ≠ k * 4 + 1 → (xs.set (k * 4 + 1) (.int .i64 x)).getD j undef = xs.getD j undef := fun j hj => getD_set_ne _ _ _ _ _ hj
  have gk : (xs.set (k * 4 + 1) (.int .i64 x)).getD (k * 4 + 1) undef = .int .i64 x := getD_set_eq _ _ _ _ (by omega)
  have ps : ∀ i, i ≠ k → (p.set k { p.getD k default with parent := x }).getD i default = p.getD i default := fun i hi => getD_set_ne _ _ _ _ _ hi
  have pk : (p.set k { p.getD k default with parent := x }).getD k default = { p.getD k default with parent := x } := getD_set_eq _ _ _ _ hk
  refine ⟨by rw [List.length_set]; exact h1, fun i hi => ?_, fun i hi => ?_, fun i hi _ => ?_, fun i j hi hj _ _ hij => ?_⟩
  · rw [List.length_set] at hi
    rw [gs _ (by omega)]
    by_cases e : i = k
    · subst e; rw [pk, gk]; exact ⟨(h.head i hi).1, rfl⟩
    · rw [ps i e, gs _ (by omega)]; exact h.head i hi
  · rw [List.length_set] at hi
    rw [gs _ (by omega)]
    by_cases e : i = k
    · subst e; rw [pk]; exact kI i hi
    · rw [ps i e]; exact kI i hi
  · rw [List.length_set] at hi
    rw [gs _ (by omega)]
    by_cases e : i = k
    · subst e; rw [pk]; exact kS _ _ (h.full hi)
    · rw [ps i e]; exact kS _ _ (h.full hi)
  · rw [List.length_set] at hi hj
    rw [gs _ (by omega), gs _ (by omega)]
    exact h.apart i j hi hj (by omega) (by omega) hij
theorem PRowX.setParams {U : Value} {l : List Int} (h : PRow w lo (.slice (some ⟨g, 0, none⟩) n C) xs p) (hk : k < p.length) (hU : Ints w lo U l) :
    PRow (w.setCell ⟨g, k * 4 + 2, none⟩ U) lo (.slice (some ⟨g, 0, none⟩) n C) (xs.set (k * 4 + 2) U) (p.set k { p.getD k default with params := l }) := by
  obtain ⟨_, _, _, e, _⟩ := own_rd h.own
  simp only [Value.slice.injEq] at e
  obtain ⟨_, rfl, _⟩ := e
  have hl := h.own.1
  obtain ⟨h1, h2⟩ := World.ownsRow.stored (w := w) h.own (k * 4 + 2) U
  have kI : ∀ V m, Ints w lo V m → Ints (w.setCell ⟨g, k * 4 + 2, none⟩ U) lo V m := fun V m hV => Ints.kept hV h2 (by have := own_types hV h.own (by decide); simpa [Value.ownBlock] using this)
  have kS : ∀ V m, Stmts w lo V m → Stmts (w.setCell ⟨g, k * 4 + 2, none⟩ U) lo V m := fun V m hV => Stmts.kept hV h2 (by have := own_types hV h.own (by decide); simpa [Value.ownBlock] using this)
  have gs : ∀ j, j ≠ k * 4 + 2 → (xs.set (k * 4 + 2) U).getD j undef = xs.getD j undef := fun j hj => getD_set_ne _ _ _ _ _ hj
  have gk : (xs.set (k * 4 + 2) U).getD (k * 4 + 2) undef = U := getD_set_eq _ _ _ _ (by omega)
  have ps : ∀ i, i ≠ k → (p.set k { p.getD k default with params := l }).getD i default = p.getD i default := fun i hi => getD_set_ne _ _ _ _ _ hi
  have pk : (p.set k { p.getD k default with params := l }).getD k default = { p.getD k default with params := l } := getD_set_eq _ _ _ _ hk
  refine ⟨by rw [List.length_set]; exact h1, fun i hi => ?_, fun i hi => ?_, fun i hi _ => ?_, fun i j hi hj _ _ hij => ?_⟩
  · rw [List.length_set] at hi
    rw [gs _ (by omega), gs _ (by omega)]
    by_cases e : i = k
    · subst e; rw [pk]; exact h.head i hi
    · rw [ps i e]; exact h.head i hi
  · rw [List.length_set] at hi
    by_cases e : i = k
    · subst e; rw [pk, gk]; exact kI _ _ hU
    · rw [ps i e, gs _ (by omega)]; exact kI _ _ (h.pars i hi)
  · rw [List.length_set] at hi
    rw [gs _ (by omega)]
    by_cases e : i = k
    · subst e; rw [pk]; exact kS _ _ (h.full hi)
    · rw [ps i e]; exact kS _ _ (h.full hi)
  · rw [List.length_set] at hi hj
    rw [gs _ (by omega), gs _ (by omega)]
    exact h.apart i j hi hj (by omega) (by omega) hij
end

/-- One block, written out. -/
def bkCells (k : Bk) (pv bv : Value) : List Value := [.int .i64 k.kind, .int .i64 k.parent, pv, bv]
theorem PRowX.add {w w' : World} {lo : Nat} {v v' pv bv : Value} {xs : List Value} {p : Pr} {k : Bk} (h : PRow w lo v xs p) (hg : w.grownBy w' v.ownBlock) (hown : w'.ownsRow lo 56 4 v' (p.length + 1) (xs ++ bkCells k pv bv))
    (hp : Ints w lo pv k.params) (hb : Stmts w lo bv k.body) (hap : ∀ i, i < p.length → Apart (xs.getD (i * 4 + 3) undef) bv) : PRow w' lo v' (xs ++ bkCells k pv bv) (p ++ [k]) := by
  have hl := h.own.1
  have kI : ∀ V m, Ints w lo V m → Ints w' lo V m := fun V m hV => Ints.kept hV hg (own_types hV h.own (by decide))
  have kS : ∀ V m, Stmts w lo V m → Stmts w' lo V m := fun V m hV => Stmts.kept hV hg (own_types hV h.own (by decide))
  have gs : ∀ j, j < xs.length → (xs ++ bkCells k pv bv).getD j undef = xs.getD j undef := fun j hj => by simp [List.getD, List.getElem?_append_left hj]
  have ge : ∀ j, (xs ++ bkCells k pv bv).getD (p.length * 4 + j) undef = (bkCells k pv bv).getD j undef := fun j => by rw [← hl]; simp [List.getD, List.getElem?_append_right]
  have g0 := ge 0
  rw [Nat.add_zero] at g0
  have ps : ∀ i, i < p.length → (p ++ [k]).getD i default = p.getD i default := fun i hi => by simp [List.getD, List.getElem?_append_left hi]
  have pk : (p ++ [k]).getD p.length default = k := by simp [List.getD]
  have hsplit : ∀ i, i < (p ++ [k]).length → i < p.length ∨ i = p.length := fun i hi => by rw [List.length_append] at hi; simp at hi; omega
  refine ⟨by rw [List.length_append]; exact hown, fun i hi => ?_, fun i hi => ?_, fun i hi _ => ?_, fun i j hi hj _ _ hij => ?_⟩
  · rcases hsplit i hi with e | rfl
    · rw [gs _ (by omega), gs _ (by omega), ps i e]; exact h.head i e
    · rw [g0, ge, pk]; exact ⟨rfl, rfl⟩
  · rcases hsplit i hi with e | rfl
    · rw [gs _ (by omega), ps i e]; exact kI _ _ (h.pars i e)
    · rw [ge, pk]; exact kI _ _ hp
  · rcases hsplit i hi with e | rfl
    · rw [gs _ (by omega), ps i e]; exact kS _ _ (h.full e)
    · rw [ge, pk]; exact kS _ _ hb
  · rcases hsplit i hi with e | rfl
    · rw [gs _ (by omega)]
      rcases hsplit j hj with e' | rfl
      · rw [gs _ (by omega)]; exact h.apart i j e e' (by omega) (by omega) hij
      · rw [ge]; exact hap i e
    · rw [ge]
      rcases hsplit j hj with e' | rfl
      · rw [gs _ (by omega)]; exact fun r hr hr' => hap j e' r hr' hr
      · exact absurd rfl hij
theorem PRowX.nil (w : World) (lo : Nat) : PRow w lo (.slice none 0 0) [] [] :=
  ⟨World.ownsRow_nil w lo _ _, fun i hi => absurd hi (Nat.not_lt_zero _), fun i hi => absurd hi (Nat.not_lt_zero _), fun i hi => absurd hi (Nat.not_lt_zero _), fun i j hi => absurd hi (Nat.not_lt_zero _)⟩
theorem PRowX.lit {w : World} {B lo : Nat} {pv bv : Value} {k : Bk} (hB : w.heap.size = B) (hl : lo ≤ B) (hp : Ints w lo pv k.params) (hb : Stmts w lo bv k.body) :
    PRow (w.alloc (.cells (bkCells k pv bv).toArray 56)) lo (.slice (some ⟨B, 0, none⟩) 1 1) (bkCells k pv bv) [k] := by
  subst hB
  have hown : (w.alloc (.cells (bkCells k pv bv).toArray 56)).ownsRow lo 56 4 (.slice (some ⟨w.heap.size, 0, none⟩) 1 1) 1 (bkCells k pv bv) := by
    have h := World.ownsRow_lit (base := lo) (e := 56) (size := 4) w (bkCells k pv bv).toArray 1 hl (by unfold maxLen; omega) (by simp [bkCells])
    simpa using h
  have := PRowX.add (PRowX.nil w lo) (World.grownBy_alloc w _ _) (v' := .slice (some ⟨w.heap.size, 0, none⟩) 1 1) (k := k) (pv := pv) (bv := bv) hown hp hb (fun i hi => absurd hi (Nat.not_lt_zero _))
  exact this
theorem bk_oneCell {w : World} {lo : Nat} {pv bv : Value} {k : Bk} (hp : Ints w lo pv k.params) (hb : Stmts w lo bv k.body) : ∀ u ∈ bkCells k pv bv, u.oneCell' = true := by
  obtain ⟨_, _, rfl⟩ := hp.form
  obtain ⟨_, _, rfl⟩ := hb.form
  intro u hu
  simp only [bkCells, List.mem_cons, List.not_mem_nil, or_false] at hu
  rcases hu with rfl | rfl | rfl | rfl <;> rfl
theorem inf_Block : (Try.prog.info? 56).map (fun i => (i.zero, i.size, i.bytes)) = some (some (.agg #[.int .i64 0, .int .i64 0, .slice none 0 0, .slice none 0 0]), 4, 64) := by kernel_rfl
theorem bk_row {w : World} {B lo : Nat} {pv bv : Value} {k : Bk} (hB : w.heap.size = B) (hl : lo ≤ B) : (w.alloc (.cells (bkCells k pv bv).toArray 56)).ownsRow lo 56 4 (.slice (some ⟨B, 0, none⟩) 1 1) 1 (bkCells k pv bv) := by
  subst hB
  have h := World.ownsRow_lit (base := lo) (e := 56) (size := 4) w (bkCells k pv bv).toArray 1 hl (by unfold maxLen; omega) (by simp [bkCells])
  simpa using h
/-- append of one block. -/
theorem wpList_append_block {w : World} {ops : Array Oper} {rest : List Oper} {o : Oper} {a : Act} {Q : Exit → Act → World → Prop} (hgd : o.guard = none) (s x : Operand)
    (ho : o.op = .call { callee := .builtin .append, args := #[s, x], argTypes := #[23, 23] })
    (v pv bv : Value) (xs : List Value) (p : Pr) (k : Bk) (base B : Nat) (hB : w.heap.size = B) (hs : a.eval s = v) (hx : a.eval x = .slice (some ⟨B, 0, none⟩) 1 1)
    (hr : PRow w base v xs p) (hp : Ints w base pv k.params) (hb : Stmts w base bv k.body) (hap : ∀ i, i < p.length → Apart (xs.getD (i * 4 + 3) undef) bv) (hlen : p.length + 1 ≤ 1000) (hbase : base ≤ w.heap.size)
    (h : ∀ v' w', PRow w' base v' (xs ++ bkCells k pv bv) (p ++ [k]) → (w.alloc (.cells (bkCells k pv bv).toArray 56)).grownBy w' v.ownBlock → Below base w w' → RowFrom v v' (w.heap.size + 1) → wpList Try.prog ops Q rest (a.put o.dst v') w') :
    wpList Try.prog ops Q (o :: rest) a (w.alloc (.cells (bkCells k pv bv).toArray 56)) := by
  refine wpList_append_feed hgd s x _ ho base 56 _ 4 64 Try.underlying23 inf_Block rfl (by decide) v _ p.length 1 _ (bkCells k pv bv) hs hx (own_keep hr.own al1) (Feed.of_row (bk_row (lo := base) hB (by omega))) (bk_oneCell hp hb) (by unfold maxLen; omega) (by omega) (by rw [World.size_alloc]; omega) ?_
  intro v' w' h2 h3 h4 h5
  rw [World.size_alloc] at h5
  exact h v' w' (PRowX.add (hr.keep al1) h3 h2 (hp.keep al1) (hb.keep al1) hap) h3 ((al1.mono hbase).trans h4) h5
theorem step_append_block {w : World} {ops : Array Oper} {o : Oper} {a : Act} {K : Act → World → Prop} {Q : Exit → Act → World → Prop} {E : Prop} (hgd : o.guard = none) (s x : Operand)
    (ho : o.op = .call { callee := .builtin .append, args := #[s, x], argTypes := #[23, 23] })
    (v v2 pv bv : Value) (xs : List Value) (p : Pr) (k : Bk) (base lo2 : Nat) (hs : a.eval s = v) (hx : a.eval x = v2)
    (hr : PRow w base v xs p) (h2' : w.ownsRow lo2 56 4 v2 1 (bkCells k pv bv)) (hp : Ints w base pv k.params) (hb : Stmts w base bv k.body) (hap : ∀ i, i < p.length → Apart (xs.getD (i * 4 + 3) undef) bv) (hlen : p.length + 1 ≤ 1000) (hbase : base ≤ w.heap.size)
    (h : ∀ v' w', PRow w' base v' (xs ++ bkCells k pv bv) (p ++ [k]) → w.grownBy w' v.ownBlock → Below base w w' → RowFrom v v' w.heap.size → K (a.put o.dst v') w') :
    if Region.wanted o (yielded ops a.tmps) = true then Oper.wp Try.prog o a w K Q else E := by
  refine step_append_feed hgd s x _ ho base 56 _ 4 64 Try.underlying23 inf_Block rfl (by decide) v _ p.length 1 _ (bkCells k pv bv) hs hx hr.own (Feed.of_row h2') (bk_oneCell hp hb) (by unfold maxLen; omega) (by omega) hbase ?_
  intro v' w' h2 h3 h4 h5
  exact h v' w' (PRowX.add hr h3 h2 hp hb hap) h3 h4 h5

end Go.Proofs.Ytiemhadpepbcjaa

namespace Go.Proofs.Ytiemhadpepbcjaa
open Go.RowKit
set_option linter.unusedVariables false

theorem ofInt_i64 (a : Nat) (ha : a < 9223372036854775808) : (BitVec.ofInt 64 (a : Int)).toNat = a := by
  rw [BitVec.ofInt_natCast, BitVec.toNat_ofNat]; exact Nat.mod_eq_of_lt (by omega)
theorem i64_xor_ge (x y : Int) (h1 : 0 ≤ x) (h2 : x < 4611686018427387904) (h3 : 0 ≤ y) (h4 : y < 4611686018427387904) : 0 ≤ bits .xor .i64 x y ∧ bits .xor .i64 x y < 4611686018427387904 := by
  obtain ⟨a, rfl⟩ := Int.eq_ofNat_of_zero_le h1
  obtain ⟨b, rfl⟩ := Int.eq_ofNat_of_zero_le h3
  have hx : a ^^^ b < 2 ^ 62 := Nat.xor_lt_two_pow (by omega) (by omega)
  show 0 ≤ IntKind.i64.wrap ((BitVec.ofInt 64 (a : Int) ^^^ BitVec.ofInt 64 (b : Int)).toNat : Int) ∧ IntKind.i64.wrap ((BitVec.ofInt 64 (a : Int) ^^^ BitVec.ofInt 64 (b : Int)).toNat : Int) < 4611686018427387904
  rw [BitVec.toNat_xor, ofInt_i64 a (by omega), ofInt_i64 b (by omega)]
  simp [IntKind.wrap, IntKind.bits, IntKind.signed]
  omega

/-- A slice of bytes that came in. -/
def OBytes (w : World) (v : Value) (l : List Int) : Prop := Old w 1 v l.length (fun j => .int .u8 (l.getD j 0)) ∧ ∀ n ∈ l, 0 ≤ n ∧ n ≤ 255
theorem OBytes.keep {w w' : World} {v : Value} {l : List Int} (h : OBytes w v l) (hb : Below w.heap.size w w') : OBytes w' v l := ⟨h.1.keep hb, h.2⟩

/-- A reader of bytes that were there before it, of which at most m numbers were taken. -/
def Rdr (w : World) (g m : Nat) : Prop :=
  ∃ (A : Option Addr) (C b o : Nat) (l : List Int) (q : Int), w.cell? ⟨g, 0, none⟩ = some (.slice A l.length C) ∧ w.cell? ⟨g, 1, none⟩ = some (.int .i64 q) ∧ (∀ j, w.frozen? ⟨g, j, none⟩ = false) ∧ 0 ≤ q ∧ q ≤ m ∧
    l.length ≤ 2000 ∧ l.length ≤ C ∧ (0 < l.length → A = some ⟨b, o, none⟩ ∧ b < g) ∧ (∀ j, j < l.length → w.cell? ⟨b, o + j, none⟩ = some (.int .u8 (l.getD j 0))) ∧ ∀ n ∈ l, 0 ≤ n ∧ n ≤ 255
section
variable {w w' : World} {g m : Nat}
theorem Rdr.lt (h : Rdr w g m) : g < w.heap.size := by
  obtain ⟨A, C, b, o, l, q, h0, _⟩ := h
  exact World.block_lt_of_cell? _ _ h0
theorem Rdr.keep (h : Rdr w g m) (hb : Below w.heap.size w w') : Rdr w' g m := by
  have hg := h.lt
  obtain ⟨A, C, b, o, l, q, h0, h1, hf, h2, h3, h4, h5, h6, h7, h8⟩ := h
  refine ⟨A, C, b, o, l, q, (hb.cell (p := ⟨g, 0, none⟩) hg).trans h0, (hb.cell (p := ⟨g, 1, none⟩) hg).trans h1, fun j => (hb.frozen (p := ⟨g, j, none⟩) hg).trans (hf j), h2, h3, h4, h5, h6, fun j hj => ?_, h8⟩
  have hbg := (h6 (by omega)).2
  exact (hb.cell (p := ⟨b, o + j, none⟩) (by show b < _; omega)).trans (h7 j hj)
theorem Rdr.mono {m' : Nat} (h : Rdr w g m) (hm : m ≤ m') : Rdr w g m' := by
  obtain ⟨A, C, b, o, l, q, h0, h1, hf, h2, h3, h⟩ := h
  exact ⟨A, C, b, o, l, q, h0, h1, hf, h2, by omega, h⟩
theorem Rdr.drew (h : Rdr w g m) : Rdr w.drew g m := h
/-- A store elsewhere. -/
theorem Rdr.other {a b : Nat} (h : Rdr w g m) (ho : Only a b w w') (hg : g < a) : Rdr w' g m := by
  have hlt := h.lt
  obtain ⟨A, C, b', o, l, q, h0, h1, hf, h2, h3, h4, h5, h6, h7, h8⟩ := h
  have hblk := ho.block g hlt (.inl hg)
  refine ⟨A, C, b', o, l, q, (World.cell?_of_block (a := ⟨g, 0, none⟩) hblk).trans h0, (World.cell?_of_block (a := ⟨g, 1, none⟩) hblk).trans h1, fun j => (World.frozen?_of_block (a := ⟨g, j, none⟩) hblk).trans (hf j), h2, h3, h4, h5, h6, fun j hj => ?_, h8⟩
  have hbg := (h6 (by omega)).2
  exact (World.cell?_of_block (a := ⟨b', o + j, none⟩) (ho.block b' (by omega) (.inl (by omega)))).trans (h7 j hj)
theorem Rdr.grown {row : Option Nat} (h : Rdr w g m) (hg : w.grownBy w' row) (hr : ∀ k, row = some k → g < k) : Rdr w' g m := by
  have hlt := h.lt
  obtain ⟨A, C, b', o, l, q, h0, h1, hf, h2, h3, h4, h5, h6, h7, h8⟩ := h
  have hblk := hg.block g hlt (fun e => by have := hr g e.symm; omega)
  refine ⟨A, C, b', o, l, q, (World.cell?_of_block (a := ⟨g, 0, none⟩) hblk).trans h0, (World.cell?_of_block (a := ⟨g, 1, none⟩) hblk).trans h1, fun j => (World.frozen?_of_block (a := ⟨g, j, none⟩) hblk).trans (hf j), h2, h3, h4, h5, h6, fun j hj => ?_, h8⟩
  have hbg := (h6 (by omega)).2
  exact (World.cell?_of_block (a := ⟨b', o + j, none⟩) (hg.block b' (by omega) (fun e => by have := hr b' e.symm; omega))).trans (h7 j hj)
end
theorem Only.tick {w : World} {g : Nat} (u : Value) : Only g (g + 1) w (w.setCell ⟨g, 1, none⟩ u) := (Only.refl g (g + 1) w).setCell (Nat.le_refl _) (Nat.lt_succ_self _) u

set_option maxRecDepth 100000 in
theorem S_newReader (v : Value) (l : List Int) (w : World) (hv : OBytes w v l) (hl : l.length ≤ 1048576) :
    Calls Try.prog 29 #[v] w fun e w' => e = .returned (.pointer (some ⟨w.heap.size, 0, none⟩)) ∧ Rdr w' w.heap.size 0 ∧ Below w.heap.size w w' ∧ w'.heap.size = w.heap.size + 1 := by
  obtain ⟨⟨A, C, b, o, rfl, hn, hc, hA, hcell⟩, hby⟩ := hv
  unfold maxLen at hc
  by_cases hlt : 2000 < l.length
  · obtain ⟨rfl, hbl⟩ := hA (by omega)
    go_enter Try.func29, Try.ntmps29
    go_wp2
    go_ret
    refine ⟨rfl, ⟨some ⟨b, o, none⟩, C, b, o, l.take 2000, 0, ?_⟩, al1, by simp⟩
    have e2 : (l.take 2000).length = 2000 := by rw [List.length_take]; omega
    rw [e2]
    refine ⟨by simp [go_sem], by simp [go_sem], fun j => by simp [go_sem], by omega, by omega, by omega, by omega, fun _ => ⟨rfl, hbl⟩, fun j hj => ?_, fun n hn => hby n (List.mem_of_mem_take hn)⟩
    have h1 := hcell j (by omega)
    rw [(al1 (w := w)).cell (p := ⟨b, o + j, none⟩) hbl, h1]
    simp [List.getD, hj]
  · have hz : ∀ j, j < l.length → b < w.heap.size := fun j hj => (hA (by omega)).2
    go_enter Try.func29, Try.ntmps29
    go_wp2
    go_ret
    refine ⟨rfl, ⟨A, C, b, o, l, 0, by simp [go_sem], by simp [go_sem], fun j => by simp [go_sem], by omega, by omega, by omega, by omega, fun h => hA h, fun j hj => ?_, hby⟩, al1, by simp⟩
    have h1 := hcell j (by omega)
    rw [(al1 (w := w)).cell (p := ⟨b, o + j, none⟩) (hz j hj), h1]

set_option maxRecDepth 100000 in
set_option maxHeartbeats 2000000 in
theorem S_pick (g m : Nat) (n : Int) (w : World) (h : Rdr w g m) (hm : m ≤ 1000000) :
    Calls Try.prog 30 #[.pointer (some ⟨g, 0, none⟩), .int .i64 n] w fun e w' => ∃ y : Int, e = .returned (.int .i64 y) ∧ 0 ≤ y ∧ (1 ≤ n → y < n) ∧ Rdr w' g (m + 1) ∧ Only g (g + 1) w w' ∧ w'.heap.size = w.heap.size := by
  have hgs := h.lt
  have H := Lib.hid h
  obtain ⟨A, C, b, o, l, q, c0, c1, hf, q0, qm, hl, hC, hA, hcell, hby⟩ := h
  have hR : Rdr (w.setCell ⟨g, 1, none⟩ (.int .i64 (q + 1))) g (m + 1) := by
    have e0 : (w.setCell ⟨g, 1, none⟩ (.int .i64 (q + 1))).cell? ⟨g, 0, none⟩ = some (.slice A l.length C) := by simp [go_sem, c0]
    have e1 : (w.setCell ⟨g, 1, none⟩ (.int .i64 (q + 1))).cell? ⟨g, 1, none⟩ = some (.int .i64 (q + 1)) := by simp [go_sem, c1]
    refine ⟨A, C, b, o, l, q + 1, e0, e1, fun j => by simp [go_sem, hf], by omega, by omega, hl, hC, hA, fun j hj => ?_, hby⟩
    have hbg := (hA (by omega)).2
    have := hcell j hj
    have hne : b ≠ g := by omega
    simp [go_sem, this]
  have HR := Lib.hid hR
  have f1 := hf 1
  have hrange : ∀ j : Nat, 0 ≤ l.getD j 0 ∧ l.getD j 0 ≤ 255 := fun j => by
    by_cases hj : j < l.length
    · simp only [List.getD, List.getElem?_eq_getElem hj, Option.getD_some]
      exact hby _ (List.getElem_mem hj)
    · simp [List.getD, List.getElem?_eq_none (by omega : l.length ≤ j)]
  have HRA := Lib.hid hrange
  have HC := Lib.hid hcell
  clear hf hR hby hrange hcell
  by_cases hn : n < 1
  · go_enter Try.func30, Try.ntmps30
    go_wp2
    go_ret
    exact ⟨_, rfl, by omega, by first | omega | (intro _; omega), HR.out, Only.tick _, by simp⟩
  by_cases hl0 : l.length = 0
  · have hz : ((l.length : Int) == 0) = true := by simp [hl0]
    go_enter Try.func30, Try.ntmps30
    go_wp2
    go_ret
    exact ⟨_, rfl, by omega, by first | omega | (intro _; omega), HR.out, Only.tick _, by simp⟩
  have hz : ((l.length : Int) == 0) = false := by rw [beq_eq_false_iff_ne]; omega
  obtain ⟨rfl, hbg⟩ := hA (by omega)
  have hne : b ≠ g := by omega
  by_cases hk : q < l.length
  · obtain ⟨Q, rfl⟩ := Int.eq_ofNat_of_zero_le q0
    have hq := HC.out Q (by omega)
    have hr := HRA.out Q
    generalize l.getD Q 0 = u at *
    go_enter Try.func30, Try.ntmps30
    go_wp2
    go_ret
    have e0 : 0 ≤ u % n := Int.emod_nonneg _ (by omega)
    have e1 : u % n < n := Int.emod_lt_of_pos _ (by omega)
    exact ⟨_, rfl, e0, by first | exact e1 | (intro _; exact e1), HR.out, Only.tick _, by simp⟩
  obtain ⟨L, hL⟩ : ∃ L : Int, L = (l.length : Int) := ⟨_, rfl⟩
  obtain ⟨Q, rfl⟩ := Int.eq_ofNat_of_zero_le q0
  have d1 := HC.out (Q % l.length) (Nat.mod_lt _ (by omega))
  have d2 := HC.out ((Q * 7 + 3) % l.length) (Nat.mod_lt _ (by omega))
  have b1 := HRA.out (Q % l.length)
  have b2 := HRA.out ((Q * 7 + 3) % l.length)
  generalize l.getD (Q % l.length) 0 = u1 at *
  generalize l.getD ((Q * 7 + 3) % l.length) 0 = u2 at *
  have j1 : (Q : Int) % (l.length : Int) = ((Q % l.length : Nat) : Int) := by simp
  have j2 : ((Q : Int) * 7 + 3) % (l.length : Int) = (((Q * 7 + 3) % l.length : Nat) : Int) := by simp
  have n1 := Nat.mod_lt Q (show 0 < l.length by omega)
  have n2 := Nat.mod_lt (Q * 7 + 3) (show 0 < l.length by omega)
  obtain ⟨D, hD, D0, D1⟩ : ∃ D : Int, (Q : Int) / (l.length : Int) = D ∧ 0 ≤ D ∧ D ≤ Q := ⟨_, rfl, Int.ediv_nonneg (by omega) (by omega), Int.ediv_le_self _ (by omega)⟩
  generalize Q % l.length = i1 at *
  generalize (Q * 7 + 3) % l.length = i2 at *
  go_enter Try.func30, Try.ntmps30
  go_wp2
  go_quiet (fail)
  go_wp2
  go_ret
  have e1 := Int.tmod_lt_of_pos (bits .xor .i64 (u1 * 131 + u2 * 1117 + Q * 29 + D * 53) ((u1 * 131 + u2 * 1117 + Q * 29 + D * 53) / 64)) (show 0 < n by omega)
  have e0 := Int.tmod_nonneg n (i64_xor_ge (u1 * 131 + u2 * 1117 + Q * 29 + D * 53) ((u1 * 131 + u2 * 1117 + Q * 29 + D * 53) / 64) (by omega) (by omega) (by omega) (by omega)).1
  exact ⟨_, rfl, e0, by first | exact e1 | (intro _; exact e1), HR.out, (Only.tick _).drewN _, by first | simp | rfl⟩

set_option maxRecDepth 100000 in
theorem S_one (g m : Nat) (V : Value) (l : List Int) (lo : Nat) (w : World) (h : Rdr w g m) (hm : m ≤ 1000000) (hv : Ints w lo V l) (hl : 0 < l.length) (hl2 : l.length ≤ 1000) (hlo : g < lo) :
    Calls Try.prog 69 #[.pointer (some ⟨g, 0, none⟩), V] w fun e w' => ∃ y : Int, e = .returned (.int .i64 y) ∧ y ∈ l ∧ Rdr w' g (m + 1) ∧ Only g (g + 1) w w' ∧ w'.heap.size = w.heap.size := by
  have HV := Lib.hid hv
  have H := Lib.hid h
  obtain ⟨A, C, rfl⟩ := hv.form
  clear h hv
  go_enter Try.func69, Try.ntmps69
  go_wp2_with fail
  refine (S_pick g m _ w H.out hm).mono ?_
  rintro e w1 ⟨y, rfl, h0, h1, hr, ho, hs⟩
  have hv1 := HV.out.only ho (by omega)
  have hy : y < l.length := h1 (by omega)
  obtain ⟨Y, rfl⟩ := Int.eq_ofNat_of_zero_le h0
  obtain ⟨A', C', g', e', hn', hc', hA', hg', hcell', hf'⟩ := hv1.rd
  obtain rfl := hA' (by omega)
  simp only [Value.slice.injEq] at e'
  obtain ⟨rfl, _, rfl⟩ := e'
  have c1 := hcell' Y (by omega)
  have hR := Lib.hid hr
  have HO := Lib.hid ho
  clear hr ho hcell' hf' hA' hv1
  go_wp2
  go_ret
  refine ⟨_, rfl, ?_, hR.out, HO.out, hs⟩
  have e3 : l[Y]?.getD 0 = l[Y]'(by omega) := by simp [show Y < l.length by omega]
  rw [e3]
  exact List.getElem_mem _

set_option maxRecDepth 100000 in
theorem S_aName (g m : Nat) (w : World) (h : Rdr w g m) (hm : m ≤ 1000000) :
    Calls Try.prog 101 #[.pointer (some ⟨g, 0, none⟩)] w fun e w' => ∃ y : Int, e = .returned (.int .i64 y) ∧ (0 ≤ y ∧ y ≤ 7) ∧ Rdr w' g (m + 1) ∧ Only g (g + 1) w w' := by
  have hg := h.lt
  have H := Lib.hid h
  clear h
  go_enter Try.func101, Try.ntmps101
  go_wp2_with fail
  refine (S_one g m _ [0, 1, 2, 0, 1, 3, 7] w.heap.size _ (H.out.keep al1) hm (by simpa using Ints.lit w w.heap.size [0, 1, 2, 0, 1, 3, 7] (Nat.le_refl _) (by simp)) (by simp) (by simp) hg).mono ?_
  rintro e w1 ⟨y, rfl, hy, hr, ho, hs⟩
  have HR := Lib.hid hr
  have HO := Lib.hid ho
  clear hr ho
  go_wp2
  go_ret
  refine ⟨_, rfl, ?_, HR.out, (Only.of_below al1).trans HO.out⟩
  simp at hy
  omega

end Go.Proofs.Ytiemhadpepbcjaa

namespace Go.Proofs.Ytiemhadpepbcjaa
open Go.RowKit
set_option linter.unusedVariables false

theorem Ints.litB {w : World} {B lo : Nat} (hB : w.heap.size = B) (hl : lo ≤ B) (l : List Int) (hn : l.length ≤ 1048576) : Ints (w.alloc (.cells (l.map (Value.int .i64)).toArray 3)) lo (.slice (some ⟨B, 0, none⟩) l.length l.length) l := by
  subst hB
  exact Ints.lit w lo l hl hn
theorem ocell {a b : Nat} {w w' : World} (ho : Only a b w w') : (∀ B o, (B < a ∨ b ≤ B) → B < w.heap.size → w'.cell? ⟨B, o, none⟩ = w.cell? ⟨B, o, none⟩) ∧ (∀ B o, (B < a ∨ b ≤ B) → B < w.heap.size → w'.frozen? ⟨B, o, none⟩ = w.frozen? ⟨B, o, none⟩) :=
  ⟨fun B o h1 h2 => World.cell?_of_block (a := ⟨B, o, none⟩) (ho.block B h2 h1), fun B o h1 h2 => World.frozen?_of_block (a := ⟨B, o, none⟩) (ho.block B h2 h1)⟩
theorem Only.store {a b : Nat} {w w1 : World} (h : Only a b w w1) {p : Addr} (hp : w.heap.size ≤ p.block) (u : Value) : Only a b w (w1.setCell p u) :=
  ⟨h.os, h.tape, h.output, by simpa [World.setCell] using h.size, fun k hk hx => (Below.heap_setCell _ _ _ _ (by omega)).trans (h.block k hk hx)⟩
theorem Rdr.store {w : World} {g m : Nat} (h : Rdr w g m) {p : Addr} (hp : g < p.block) (u : Value) : Rdr (w.setCell p u) g m :=
  h.other (a := p.block) (b := p.block + 1) ((Only.refl _ _ _).setCell (Nat.le_refl _) (Nat.lt_succ_self _) u) hp

set_option maxRecDepth 100000 in
theorem S_oneL (g m : Nat) (l : List Int) (w : World) (B : Nat) (hB : w.heap.size = B) (h : Rdr w g m) (hm : m ≤ 1000000) (hl : 0 < l.length) (hl2 : l.length ≤ 1000) :
    Calls Try.prog 69 #[.pointer (some ⟨g, 0, none⟩), .slice (some ⟨B, 0, none⟩) l.length l.length] (w.alloc (.cells (l.map (Value.int .i64)).toArray 3)) fun e w' => ∃ y : Int, e = .returned (.int .i64 y) ∧ y ∈ l ∧ Rdr w' g (m + 1) ∧ Only g (g + 1) w w' := by
  have hg := h.lt
  refine (S_one g m _ l B _ (h.keep al1) hm (Ints.litB hB (Nat.le_refl _) l (by omega)) hl hl2 (by omega)).mono ?_
  rintro e w1 ⟨y, rfl, hy, hr, ho, _⟩
  exact ⟨y, rfl, hy, hr, (Only.of_below al1).trans ho⟩


set_option maxRecDepth 100000 in
set_option maxHeartbeats 8000000 in
theorem S_someStmt (g m : Nat) (kind : Int) (w : World) (h : Rdr w g m) (hm : m ≤ 900000) :
    Calls Try.prog 100 #[.pointer (some ⟨g, 0, none⟩), .int .i64 kind] w fun e w' => ∃ s : St, e = .returned s.val ∧ (0 ≤ s.to ∧ s.to ≤ 7) ∧ Rdr w' g (m + 6) ∧ Only g (g + 1) w w' := by
  have hgl : g < w.heap.size := h.lt
  have hr := h.keep (al1 (o := (.cells #[.int .i64 0, .int .i64 0, .int .i64 0, .int .i64 0] 60)))
  have hcur := Only.refl g (g + 1) (w.alloc (.cells #[.int .i64 0, .int .i64 0, .int .i64 0, .int .i64 0] 60))
  clear h
  go_enter Try.func100, Try.ntmps100
  go_wp2_with fail
  refine (S_oneL g _ [0, 1, 2, 0, 1, 3] _ _ (by first | rfl | simp only [World.size_alloc]) hr (by omega) (by simp) (by simp)).mono ?_
  rintro e w1 ⟨t, rfl, tm, hr, ho⟩
  have hcur := hcur.trans ho
  try clear r1 m1
  have r1 := fun o => (ocell hcur).1 (w.heap.size) o (by omega) (by first | omega | (simp only [World.size_alloc]; omega))
  have m1 := fun o => (ocell hcur).2 (w.heap.size) o (by omega) (by first | omega | (simp only [World.size_alloc]; omega))
  have tm : 0 ≤ t ∧ t ≤ 7 := by simp at tm; omega
  go_wp2_with fail
  refine (S_pick g _ 12 _ hr (by omega)).mono ?_
  rintro e w2 ⟨c, rfl, c0, c1, hr, ho, hsz⟩
  clear hsz
  have hcur := hcur.trans ho
  try clear r1 m1
  have r1 := fun o => (ocell hcur).1 (w.heap.size) o (by omega) (by first | omega | (simp only [World.size_alloc]; omega))
  have m1 := fun o => (ocell hcur).2 (w.heap.size) o (by omega) (by first | omega | (simp only [World.size_alloc]; omega))
  have hc : c = 0 ∨ c = 1 ∨ c = 2 ∨ c = 3 ∨ c = 4 ∨ c = 5 ∨ c = 6 ∨ c = 7 ∨ c = 8 ∨ c = 9 ∨ c = 10 ∨ c = 11 := by omega
  rcases hc with rfl | rfl | rfl | rfl | rfl | rfl | rfl | rfl | rfl | rfl | rfl | rfl
  · skip
    go_wp2_with fail
    refine (S_pick g _ 20 _ hr (by omega)).mono ?_
    rintro e w3 ⟨y, rfl, y0, y1, hr, ho, hsz⟩
    clear hsz
    have hcur := hcur.trans ho
    try clear r1 m1
    have r1 := fun o => (ocell hcur).1 (w.heap.size) o (by omega) (by first | omega | (simp only [World.size_alloc]; omega))
    have m1 := fun o => (ocell hcur).2 (w.heap.size) o (by omega) (by first | omega | (simp only [World.size_alloc]; omega))
    go_wp2_with fail
    refine (S_oneL g _ [y, 99, 5] _ _ (by first | rfl | simp only [World.size_alloc]) hr (by omega) (by simp) (by simp)).mono ?_
    rintro e w4 ⟨z, rfl, zm, hr, ho⟩
    have hcur := hcur.trans ho
    try clear r1 m1
    have r1 := fun o => (ocell hcur).1 (w.heap.size) o (by omega) (by first | omega | (simp only [World.size_alloc]; omega))
    have m1 := fun o => (ocell hcur).2 (w.heap.size) o (by omega) (by first | omega | (simp only [World.size_alloc]; omega))
    go_wp2
    exact bodyPost_ret (v := St.val ⟨0, t, z, 0⟩) (by simp [results, Try.results100, go_sem, r1]) rfl ⟨⟨0, t, z, 0⟩, rfl, by first | exact tm | simp, ((((hr.store hgl _).store hgl _).store hgl _).store hgl _).mono (by omega), ((((((Only.of_below al1).trans hcur)).store (Nat.le_refl _) _).store (Nat.le_refl _) _).store (Nat.le_refl _) _).store (Nat.le_refl _) _⟩
  · skip
    go_wp2_with fail
    refine (S_pick g _ 20 _ hr (by omega)).mono ?_
    rintro e w3 ⟨y, rfl, y0, y1, hr, ho, hsz⟩
    clear hsz
    have hcur := hcur.trans ho
    try clear r1 m1
    have r1 := fun o => (ocell hcur).1 (w.heap.size) o (by omega) (by first | omega | (simp only [World.size_alloc]; omega))
    have m1 := fun o => (ocell hcur).2 (w.heap.size) o (by omega) (by first | omega | (simp only [World.size_alloc]; omega))
    go_wp2_with fail
    refine (S_oneL g _ [y, 99, 5] _ _ (by first | rfl | simp only [World.size_alloc]) hr (by omega) (by simp) (by simp)).mono ?_
    rintro e w4 ⟨z, rfl, zm, hr, ho⟩
    have hcur := hcur.trans ho
    try clear r1 m1
    have r1 := fun o => (ocell hcur).1 (w.heap.size) o (by omega) (by first | omega | (simp only [World.size_alloc]; omega))
    have m1 := fun o => (ocell hcur).2 (w.heap.size) o (by omega) (by first | omega | (simp only [World.size_alloc]; omega))
    go_wp2
    exact bodyPost_ret (v := St.val ⟨0, t, z, 0⟩) (by simp [results, Try.results100, go_sem, r1]) rfl ⟨⟨0, t, z, 0⟩, rfl, by first | exact tm | simp, ((((hr.store hgl _).store hgl _).store hgl _).store hgl _).mono (by omega), ((((((Only.of_below al1).trans hcur)).store (Nat.le_refl _) _).store (Nat.le_refl _) _).store (Nat.le_refl _) _).store (Nat.le_refl _) _⟩
  · skip
    go_wp2_with fail
    refine (S_pick g _ 20 _ hr (by omega)).mono ?_
    rintro e w3 ⟨y, rfl, y0, y1, hr, ho, hsz⟩
    clear hsz
    have hcur := hcur.trans ho
    try clear r1 m1
    have r1 := fun o => (ocell hcur).1 (w.heap.size) o (by omega) (by first | omega | (simp only [World.size_alloc]; omega))
    have m1 := fun o => (ocell hcur).2 (w.heap.size) o (by omega) (by first | omega | (simp only [World.size_alloc]; omega))
    go_wp2_with fail
    refine (S_oneL g _ [y, 99, 5] _ _ (by first | rfl | simp only [World.size_alloc]) hr (by omega) (by simp) (by simp)).mono ?_
    rintro e w4 ⟨z, rfl, zm, hr, ho⟩
    have hcur := hcur.trans ho
    try clear r1 m1
    have r1 := fun o => (ocell hcur).1 (w.heap.size) o (by omega) (by first | omega | (simp only [World.size_alloc]; omega))
    have m1 := fun o => (ocell hcur).2 (w.heap.size) o (by omega) (by first | omega | (simp only [World.size_alloc]; omega))
    go_wp2
    exact bodyPost_ret (v := St.val ⟨0, t, z, 0⟩) (by simp [results, Try.results100, go_sem, r1]) rfl ⟨⟨0, t, z, 0⟩, rfl, by first | exact tm | simp, ((((hr.store hgl _).store hgl _).store hgl _).store hgl _).mono (by omega), ((((((Only.of_below al1).trans hcur)).store (Nat.le_refl _) _).store (Nat.le_refl _) _).store (Nat.le_refl _) _).store (Nat.le_refl _) _⟩
  · skip
    go_wp2_with fail
    refine (S_aName g _ _ hr (by omega)).mono ?_
    rintro e w3 ⟨ya, rfl, yam, hr, ho⟩
    have hcur := hcur.trans ho
    try clear r1 m1
    have r1 := fun o => (ocell hcur).1 (w.heap.size) o (by omega) (by first | omega | (simp only [World.size_alloc]; omega))
    have m1 := fun o => (ocell hcur).2 (w.heap.size) o (by omega) (by first | omega | (simp only [World.size_alloc]; omega))
    go_wp2
    exact bodyPost_ret (v := St.val ⟨1, t, ya, 0⟩) (by simp [results, Try.results100, go_sem, r1]) rfl ⟨⟨1, t, ya, 0⟩, rfl, by first | exact tm | simp, ((((hr.store hgl _).store hgl _).store hgl _).store hgl _).mono (by omega), ((((((Only.of_below al1).trans hcur)).store (Nat.le_refl _) _).store (Nat.le_refl _) _).store (Nat.le_refl _) _).store (Nat.le_refl _) _⟩
  · skip
    go_wp2_with fail
    refine (S_aName g _ _ hr (by omega)).mono ?_
    rintro e w3 ⟨ya, rfl, yam, hr, ho⟩
    have hcur := hcur.trans ho
    try clear r1 m1
    have r1 := fun o => (ocell hcur).1 (w.heap.size) o (by omega) (by first | omega | (simp only [World.size_alloc]; omega))
    have m1 := fun o => (ocell hcur).2 (w.heap.size) o (by omega) (by first | omega | (simp only [World.size_alloc]; omega))
    go_wp2_with fail
    refine (S_aName g _ _ hr (by omega)).mono ?_
    rintro e w4 ⟨yb, rfl, ybm, hr, ho⟩
    have hcur := hcur.trans ho
    try clear r1 m1
    have r1 := fun o => (ocell hcur).1 (w.heap.size) o (by omega) (by first | omega | (simp only [World.size_alloc]; omega))
    have m1 := fun o => (ocell hcur).2 (w.heap.size) o (by omega) (by first | omega | (simp only [World.size_alloc]; omega))
    go_wp2
    exact bodyPost_ret (v := St.val ⟨2, t, ya, yb⟩) (by simp [results, Try.results100, go_sem, r1]) rfl ⟨⟨2, t, ya, yb⟩, rfl, by first | exact tm | simp, ((((hr.store hgl _).store hgl _).store hgl _).store hgl _).mono (by omega), ((((((Only.of_below al1).trans hcur)).store (Nat.le_refl _) _).store (Nat.le_refl _) _).store (Nat.le_refl _) _).store (Nat.le_refl _) _⟩
  · skip
    go_wp2_with fail
    refine (S_aName g _ _ hr (by omega)).mono ?_
    rintro e w3 ⟨ya, rfl, yam, hr, ho⟩
    have hcur := hcur.trans ho
    try clear r1 m1
    have r1 := fun o => (ocell hcur).1 (w.heap.size) o (by omega) (by first | omega | (simp only [World.size_alloc]; omega))
    have m1 := fun o => (ocell hcur).2 (w.heap.size) o (by omega) (by first | omega | (simp only [World.size_alloc]; omega))
    go_wp2
    exact bodyPost_ret (v := St.val ⟨7, 0, ya, 0⟩) (by simp [results, Try.results100, go_sem, r1]) rfl ⟨⟨7, 0, ya, 0⟩, rfl, by first | exact tm | simp, ((((hr.store hgl _).store hgl _).store hgl _).store hgl _).mono (by omega), ((((((Only.of_below al1).trans hcur)).store (Nat.le_refl _) _).store (Nat.le_refl _) _).store (Nat.le_refl _) _).store (Nat.le_refl _) _⟩
  · skip
    go_wp2_with fail
    refine (S_aName g _ _ hr (by omega)).mono ?_
    rintro e w3 ⟨ya, rfl, yam, hr, ho⟩
    have hcur := hcur.trans ho
    try clear r1 m1
    have r1 := fun o => (ocell hcur).1 (w.heap.size) o (by omega) (by first | omega | (simp only [World.size_alloc]; omega))
    have m1 := fun o => (ocell hcur).2 (w.heap.size) o (by omega) (by first | omega | (simp only [World.size_alloc]; omega))
    go_wp2
    exact bodyPost_ret (v := St.val ⟨7, 0, ya, 0⟩) (by simp [results, Try.results100, go_sem, r1]) rfl ⟨⟨7, 0, ya, 0⟩, rfl, by first | exact tm | simp, ((((hr.store hgl _).store hgl _).store hgl _).store hgl _).mono (by omega), ((((((Only.of_below al1).trans hcur)).store (Nat.le_refl _) _).store (Nat.le_refl _) _).store (Nat.le_refl _) _).store (Nat.le_refl _) _⟩
  · skip
    go_wp2_with fail
    refine (S_aName g _ _ hr (by omega)).mono ?_
    rintro e w3 ⟨ya, rfl, yam, hr, ho⟩
    have hcur := hcur.trans ho
    try clear r1 m1
    have r1 := fun o => (ocell hcur).1 (w.heap.size) o (by omega) (by first | omega | (simp only [World.size_alloc]; omega))
    have m1 := fun o => (ocell hcur).2 (w.heap.size) o (by omega) (by first | omega | (simp only [World.size_alloc]; omega))
    go_wp2_with fail
    refine (S_oneL g _ [4, 5, ya] _ _ (by first | rfl | simp only [World.size_alloc]) hr (by omega) (by simp) (by simp)).mono ?_
    rintro e w4 ⟨z, rfl, zm, hr, ho⟩
    have hcur := hcur.trans ho
    try clear r1 m1
    have r1 := fun o => (ocell hcur).1 (w.heap.size) o (by omega) (by first | omega | (simp only [World.size_alloc]; omega))
    have m1 := fun o => (ocell hcur).2 (w.heap.size) o (by omega) (by first | omega | (simp only [World.size_alloc]; omega))
    go_wp2_with fail
    refine (S_aName g _ _ hr (by omega)).mono ?_
    rintro e w5 ⟨yb, rfl, ybm, hr, ho⟩
    have hcur := hcur.trans ho
    try clear r1 m1
    have r1 := fun o => (ocell hcur).1 (w.heap.size) o (by omega) (by first | omega | (simp only [World.size_alloc]; omega))
    have m1 := fun o => (ocell hcur).2 (w.heap.size) o (by omega) (by first | omega | (simp only [World.size_alloc]; omega))
    go_wp2_with fail
    refine (S_oneL g _ [-1, -1, yb] _ _ (by first | rfl | simp only [World.size_alloc]) hr (by omega) (by simp) (by simp)).mono ?_
    rintro e w6 ⟨u, rfl, um, hr, ho⟩
    have hcur := hcur.trans ho
    try clear r1 m1
    have r1 := fun o => (ocell hcur).1 (w.heap.size) o (by omega) (by first | omega | (simp only [World.size_alloc]; omega))
    have m1 := fun o => (ocell hcur).2 (w.heap.size) o (by omega) (by first | omega | (simp only [World.size_alloc]; omega))
    go_wp2
    exact bodyPost_ret (v := St.val ⟨5, t, z, u⟩) (by simp [results, Try.results100, go_sem, r1]) rfl ⟨⟨5, t, z, u⟩, rfl, by first | exact tm | simp, ((((hr.store hgl _).store hgl _).store hgl _).store hgl _).mono (by omega), ((((((Only.of_below al1).trans hcur)).store (Nat.le_refl _) _).store (Nat.le_refl _) _).store (Nat.le_refl _) _).store (Nat.le_refl _) _⟩
  · skip
    go_wp2_with fail
    refine (S_aName g _ _ hr (by omega)).mono ?_
    rintro e w3 ⟨ya, rfl, yam, hr, ho⟩
    have hcur := hcur.trans ho
    try clear r1 m1
    have r1 := fun o => (ocell hcur).1 (w.heap.size) o (by omega) (by first | omega | (simp only [World.size_alloc]; omega))
    have m1 := fun o => (ocell hcur).2 (w.heap.size) o (by omega) (by first | omega | (simp only [World.size_alloc]; omega))
    go_wp2
    exact bodyPost_ret (v := St.val ⟨6, t, 6, ya⟩) (by simp [results, Try.results100, go_sem, r1]) rfl ⟨⟨6, t, 6, ya⟩, rfl, by first | exact tm | simp, ((((hr.store hgl _).store hgl _).store hgl _).store hgl _).mono (by omega), ((((((Only.of_below al1).trans hcur)).store (Nat.le_refl _) _).store (Nat.le_refl _) _).store (Nat.le_refl _) _).store (Nat.le_refl _) _⟩
  · skip
    by_cases hk : kind = 0
    · have hkb : (kind != 0) = false := by rw [hk]; rfl
      go_wp2_with fail
      refine (S_aName g _ _ hr (by omega)).mono ?_
      rintro e w3 ⟨ya, rfl, yam, hr, ho⟩
      have hcur := hcur.trans ho
      try clear r1 m1
      have r1 := fun o => (ocell hcur).1 (w.heap.size) o (by omega) (by first | omega | (simp only [World.size_alloc]; omega))
      have m1 := fun o => (ocell hcur).2 (w.heap.size) o (by omega) (by first | omega | (simp only [World.size_alloc]; omega))
      go_wp2
      exact bodyPost_ret (v := St.val ⟨7, 0, ya, 0⟩) (by simp [results, Try.results100, go_sem, r1]) rfl ⟨⟨7, 0, ya, 0⟩, rfl, by first | exact tm | simp, ((((hr.store hgl _).store hgl _).store hgl _).store hgl _).mono (by omega), ((((((Only.of_below al1).trans hcur)).store (Nat.le_refl _) _).store (Nat.le_refl _) _).store (Nat.le_refl _) _).store (Nat.le_refl _) _⟩
    · have hkb : (kind != 0) = true := by rw [bne_iff_ne]; exact hk
      go_wp2_with fail
      refine (S_oneL g _ [9, 10, 10] _ _ (by first | rfl | simp only [World.size_alloc]) hr (by omega) (by simp) (by simp)).mono ?_
      rintro e w3 ⟨z, rfl, zm, hr, ho⟩
      have hcur := hcur.trans ho
      try clear r1 m1
      have r1 := fun o => (ocell hcur).1 (w.heap.size) o (by omega) (by first | omega | (simp only [World.size_alloc]; omega))
      have m1 := fun o => (ocell hcur).2 (w.heap.size) o (by omega) (by first | omega | (simp only [World.size_alloc]; omega))
      go_wp2
      exact bodyPost_ret (v := St.val ⟨z, t, 0, 0⟩) (by simp [results, Try.results100, go_sem, r1]) rfl ⟨⟨z, t, 0, 0⟩, rfl, by first | exact tm | simp, ((((hr.store hgl _).store hgl _).store hgl _).store hgl _).mono (by omega), ((((((Only.of_below al1).trans hcur)).store (Nat.le_refl _) _).store (Nat.le_refl _) _).store (Nat.le_refl _) _).store (Nat.le_refl _) _⟩
  · skip
    go_wp2_with fail
    refine (S_pick g _ 3 _ hr (by omega)).mono ?_
    rintro e w3 ⟨y, rfl, y0, y1, hr, ho, hsz⟩
    clear hsz
    have hcur := hcur.trans ho
    try clear r1 m1
    have r1 := fun o => (ocell hcur).1 (w.heap.size) o (by omega) (by first | omega | (simp only [World.size_alloc]; omega))
    have m1 := fun o => (ocell hcur).2 (w.heap.size) o (by omega) (by first | omega | (simp only [World.size_alloc]; omega))
    by_cases hk : y = 0
    · subst hk
      go_wp2
      exact bodyPost_ret (v := St.val ⟨11, t, 0, 0⟩) (by simp [results, Try.results100, go_sem, r1]) rfl ⟨⟨11, t, 0, 0⟩, rfl, by first | exact tm | simp, ((((hr.store hgl _).store hgl _).store hgl _).store hgl _).mono (by omega), ((((((Only.of_below al1).trans hcur)).store (Nat.le_refl _) _).store (Nat.le_refl _) _).store (Nat.le_refl _) _).store (Nat.le_refl _) _⟩
    · have hkb : (y == 0) = false := by rw [beq_eq_false_iff_ne]; exact hk
      go_wp2_with fail
      refine (S_aName g _ _ hr (by omega)).mono ?_
      rintro e w3 ⟨ya, rfl, yam, hr, ho⟩
      have hcur := hcur.trans ho
      try clear r1 m1
      have r1 := fun o => (ocell hcur).1 (w.heap.size) o (by omega) (by first | omega | (simp only [World.size_alloc]; omega))
      have m1 := fun o => (ocell hcur).2 (w.heap.size) o (by omega) (by first | omega | (simp only [World.size_alloc]; omega))
      go_wp2
      exact bodyPost_ret (v := St.val ⟨7, 0, ya, 0⟩) (by simp [results, Try.results100, go_sem, r1]) rfl ⟨⟨7, 0, ya, 0⟩, rfl, by first | exact tm | simp, ((((hr.store hgl _).store hgl _).store hgl _).store hgl _).mono (by omega), ((((((Only.of_below al1).trans hcur)).store (Nat.le_refl _) _).store (Nat.le_refl _) _).store (Nat.le_refl _) _).store (Nat.le_refl _) _⟩
  · skip
    go_wp2_with fail
    refine (S_aName g _ _ hr (by omega)).mono ?_
    rintro e w3 ⟨ya, rfl, yam, hr, ho⟩
    have hcur := hcur.trans ho
    try clear r1 m1
    have r1 := fun o => (ocell hcur).1 (w.heap.size) o (by omega) (by first | omega | (simp only [World.size_alloc]; omega))
    have m1 := fun o => (ocell hcur).2 (w.heap.size) o (by omega) (by first | omega | (simp only [World.size_alloc]; omega))
    go_wp2
    exact bodyPost_ret (v := St.val ⟨7, 0, ya, 0⟩) (by simp [results, Try.results100, go_sem, r1]) rfl ⟨⟨7, 0, ya, 0⟩, rfl, by first | exact tm | simp, ((((hr.store hgl _).store hgl _).store hgl _).store hgl _).mono (by omega), ((((((Only.of_below al1).trans hcur)).store (Nat.le_refl _) _).store (Nat.le_refl _) _).store (Nat.le_refl _) _).store (Nat.le_refl _) _⟩

end Go.Proofs.Ytiemhadpepbcjaa

namespace Go.Proofs.Ytiemhadpepbcjaa
open Go.RowKit
set_option linter.unusedVariables false

theorem Only.grow {a b : Nat} {w w1 w2 : World} {row : Option Nat} (h : Only a b w w1) (hg : w1.grownBy w2 row) (hr : ∀ k, row = some k → w.heap.size ≤ k) : Only a b w w2 :=
  ⟨hg.os.trans h.os, hg.tape.trans h.tape, hg.output.trans h.output, Nat.le_trans h.size hg.size, fun k hk hx => (hg.block k (Nat.lt_of_lt_of_le hk h.size) (fun e => by have := hr k e.symm; omega)).trans (h.block k hk hx)⟩

/-! ### one block in a variable of its own -/
abbrev K1 (w : World) (lo kb : Nat) (K : Bk) (pv bv : Value) : Prop := PRow w lo (.slice (some ⟨kb, 0, none⟩) 1 1) (bkCells K pv bv) [K]
section
variable {w w' : World} {lo kb : Nat} {K : Bk} {pv bv : Value}
theorem K1.cells (h : K1 w lo kb K pv bv) : w.cell? ⟨kb, 0, none⟩ = some (.int .i64 K.kind) ∧ w.cell? ⟨kb, 1, none⟩ = some (.int .i64 K.parent) ∧ w.cell? ⟨kb, 2, none⟩ = some pv ∧ w.cell? ⟨kb, 3, none⟩ = some bv ∧
    (∀ j, w.frozen? ⟨kb, j, none⟩ = false) ∧ kb < w.heap.size ∧ lo ≤ kb ∧ Ints w lo pv K.params ∧ Stmts w lo bv K.body := by
  obtain ⟨g, C, e, _, _, h1, h2, hc, hf⟩ := PRowX.rd h (by simp)
  simp only [Value.slice.injEq, Option.some.injEq, Addr.mk.injEq, and_true] at e
  obtain ⟨rfl, _⟩ := e
  exact ⟨hc 0 (by simp), hc 1 (by simp), hc 2 (by simp), hc 3 (by simp), hf, h2, h1, h.pars 0 (by simp), PRowX.full h (i := 0) (by simp)⟩
theorem K1.new {B : Nat} {w : World} (hB : w.heap.size = B) (hl : lo ≤ B) (kind parent : Int) : K1 (w.alloc (.cells #[.int .i64 kind, .int .i64 parent, .slice none 0 0, .slice none 0 0] 56)) lo B ⟨kind, parent, [], []⟩ (.slice none 0 0) (.slice none 0 0) :=
  PRowX.lit (k := ⟨kind, parent, [], []⟩) hB hl (Ints.nil _ _) (Stmts.nil _ _)
theorem K1.setBody {U : Value} {l : List St} (h : K1 w lo kb K pv bv) (hg : w.grownBy w' bv.ownBlock) (hU : Stmts w' lo U l) : K1 (w'.setCell ⟨kb, 3, none⟩ U) lo kb { K with body := l } pv U :=
  PRowX.setBody (k := 0) (PRowX.grown h (k := 0) (by simp) hg) (by simp) hU (fun i hi hne => absurd hi (by simp; omega))
theorem K1.setParams {U : Value} {l : List Int} (h : K1 w lo kb K pv bv) (hU : Ints w lo U l) : K1 (w.setCell ⟨kb, 2, none⟩ U) lo kb { K with params := l } U bv :=
  PRowX.setParams (k := 0) h (by simp) hU
end

/-- Behind an append to the body: the variable's cells. -/
theorem cell_grown {w w' : World} {lo kb : Nat} {K : Bk} {pv bv : Value} (h : K1 w lo kb K pv bv) (hg : w.grownBy w' bv.ownBlock) : w'.cell? ⟨kb, 3, none⟩ = some bv ∧ w'.frozen? ⟨kb, 3, none⟩ = false := by
  obtain ⟨_, _, _, c3, hf, hlt, _, _, hbv⟩ := K1.cells h
  have hne : some kb ≠ bv.ownBlock := by
    rcases own_types h.own hbv (by decide) with e | e
    · cases e
    · exact e
  have hb := hg.block kb hlt hne
  exact ⟨(World.cell?_of_block (a := ⟨kb, 3, none⟩) hb).trans c3, (World.frozen?_of_block (a := ⟨kb, 3, none⟩) hb).trans (hf 3)⟩

set_option maxRecDepth 100000 in
set_option maxHeartbeats 8000000 in
theorem S_someBlock (g m : Nat) (kind parent : Int) (w : World) (h : Rdr w g m) (hm : m ≤ 800000) :
    Calls Try.prog 68 #[.pointer (some ⟨g, 0, none⟩), .int .i64 kind, .int .i64 parent] w fun e w' => ∃ (K : Bk) (pv bv : Value), e = .returned (bkVal K pv bv) ∧ K.kind = kind ∧ K.parent = parent ∧ K.params.length ≤ 1 ∧ 1 ≤ K.body.length ∧ K.body.length ≤ 6 ∧ (∀ s ∈ K.body, 0 ≤ s.to ∧ s.to ≤ 7) ∧
      Ints w' w.heap.size pv K.params ∧ Stmts w' w.heap.size bv K.body ∧ Rdr w' g (m + 60) ∧ Only g (g + 1) w w' := by
  have hgl : g < w.heap.size := h.lt
  have hr := (h.keep (al1 (o := (.cells #[.int .i64 0, .int .i64 0, .slice none 0 0, .slice none 0 0] 56)))).keep (al1 (o := .cells #[.int .i64 kind, .int .i64 parent, .slice none 0 0, .slice none 0 0] 56))
  have hcur := Only.of_below (lo := g) (hi := g + 1) (al1 (w := (w.alloc (.cells #[.int .i64 0, .int .i64 0, .slice none 0 0, .slice none 0 0] 56))) (o := .cells #[.int .i64 kind, .int .i64 parent, .slice none 0 0, .slice none 0 0] 56))
  have hrow := K1.new (w := (w.alloc (.cells #[.int .i64 0, .int .i64 0, .slice none 0 0, .slice none 0 0] 56))) (lo := w.heap.size + 1) (B := w.heap.size + 1) (by simp) (Nat.le_refl _) kind parent
  clear h
  by_cases hk : kind = 1
  · subst hk
    go_enter Try.func68, Try.ntmps68
    go_wp2_with fail
    refine (S_pick g _ 3 _ hr (by omega)).mono ?_
    rintro e wp ⟨y, rfl, y0, y1, hr, ho, hsz⟩
    clear hsz
    have hrow := PRowX.only hrow ho (by omega)
    have hcur := hcur.trans ho
    by_cases hy : y = 0
    · have hyb : (y == 0) = true := by rw [hy]; rfl
      go_wp2_with fail
      refine (S_pick g _ 3 _ hr (by omega)).mono ?_
      rintro e wq ⟨y2, rfl, y20, y21, hr, ho, hsz⟩
      clear hsz
      have hrow := PRowX.only hrow ho (by omega)
      have hcur := hcur.trans ho
      obtain ⟨c0, c1, c2, c3, hfz, hlt2, _, hpv, hbv⟩ := K1.cells hrow
      have f2 := hfz 2
      clear c0 c1 c3 hfz hpv hbv
      have hrow := K1.setParams (PRowX.keep hrow al1) (Ints.litB rfl (by omega) [y2] (by simp))
      have hr := (hr.keep (al1 (o := .cells #[.int .i64 y2] 3))).store (p := ⟨w.heap.size + 1, 2, none⟩) (by show g < w.heap.size + 1; omega) (.slice (some ⟨wq.heap.size, 0, none⟩) 1 1)
      have hcur := (hcur.alloc (.cells #[.int .i64 y2] 3)).store (p := ⟨w.heap.size + 1, 2, none⟩) (by simp) (.slice (some ⟨wq.heap.size, 0, none⟩) 1 1)
      rw [World.setCell_alloc_past _ _ _ _ hlt2] at hr hcur
      have hrow : K1 _ _ _ _ _ _ := World.setCell_alloc_past (w := wq) (.cells #[.int .i64 y2] 3) (w.heap.size + 1) 2 (.slice (some ⟨wq.heap.size, 0, none⟩) 1 1) hlt2 ▸ hrow
      go_wp2_with fail
      obtain ⟨ps, pv, hpl, hrow⟩ : ∃ ps pv, ps.length ≤ 1 ∧ K1 _ (w.heap.size + 1) (w.heap.size + 1) ⟨1, parent, ps, []⟩ pv _ := ⟨[y2], _, by simp, hrow⟩
      refine (S_oneL g _ [3, 2, 4, 1, 5] _ (wq.heap.size + 1) (by first | rfl | simp [World.size_alloc]) hr (by omega) (by simp) (by simp)).mono ?_
      rintro e wn ⟨N, rfl, hN, hr, ho⟩
      have hrow := PRowX.only hrow ho (by omega)
      have hcur := hcur.trans ho
      have hN2 : 1 ≤ N ∧ N ≤ 5 := by simp at hN; omega
      clear hN ho
      go_wp2
      go_loopw [8] (fun i wr => ∃ (r : Nat) (bv : Value) (l : List St), i = .int .i64 r ∧ (r : Int) + l.length = N ∧ (∀ s ∈ l, 0 ≤ s.to ∧ s.to ≤ 7) ∧ K1 wr (w.heap.size + 1) (w.heap.size + 1) ⟨1, parent, ps, l⟩ pv bv ∧ Rdr wr g (m + 4 + 6 * l.length) ∧ Only g (g + 1) (w.alloc (.cells #[.int .i64 0, .int .i64 0, .slice none 0 0, .slice none 0 0] 56)) wr) (fun i _ => (intOf i).toNat)
      case atStart => exact ⟨N.toNat, _, [], by rw [Int.toNat_of_nonneg (by omega)], by simp; omega, fun s hs => absurd hs (by simp), hrow, hr.mono (by simp; try omega), hcur⟩
      case round =>
        clear hrow hr hcur
        obtain ⟨r, bv, l, rfl, hrl, hto, hrow, hr, hcur⟩ := hrel
        have HTO := Lib.hid hto
        clear hto
        by_cases hlt : 0 < r
        · obtain ⟨c0, c1, c2, c3, hfz, hlt2, _, hpv, hbv⟩ := K1.cells hrow
          have hrow := PRowX.keep hrow (below0 wr).drew
          have hbv := hbv.keep (below0 wr).drew
          have hr := hr.drew
          have hcur := hcur.drew
          clear c0 c1 c2 hlt2 hpv
          go_wp2
          go_region_law (first
          | (go_simp
             go_at_call 100
             refine (S_someStmt g _ 1 _ hr (by omega)).mono ?_
             rintro e ws ⟨⟨sk, st, sa, sb⟩, rfl, hto, hr, ho⟩
             have hrow := PRowX.only hrow ho (by omega)
             have hcur := hcur.trans ho
             obtain ⟨c0, c1, c2, c3, hfz, hlt2, _, hpv, hbv⟩ := K1.cells hrow)
          | (refine step_append_stmts rfl _ _ rfl bv _ l [St.mk sk st sa sb] (w.heap.size + 1) rfl rfl (hbv.keep al1) (Stmts.feed (Stmts.one rfl (Nat.le_refl _) _ _ _ _)) (by simp only [List.length_cons, List.length_nil]; omega) (by have := hcur.size; simp only [World.size_alloc] at this ⊢; omega) ?_
             intro U w1 hU hg1 hb1 hf1
             obtain ⟨A1, C1, rfl⟩ := hU.form
             rw [show (l ++ [St.mk sk st sa sb]).length = (l).length + 1 by simp] at hU hf1
             have hrow2 := K1.setBody (PRowX.keep hrow al1) hg1 hU
             have hr2 := (hr.keep al1).grown hg1 (fun k hk => by have := own_block_ge hbv k hk; omega)
             have hcur2 := ((hcur.alloc _).grow hg1 (fun k hk => by have := own_block_ge hbv k hk; simp only [World.size_alloc]; omega))
             obtain ⟨z1, z2⟩ := cell_grown (w' := w1) (PRowX.keep hrow al1) hg1))
          all_goals
            go_wp2
            go_roundw
            case rel => exact ⟨r - 1, _, l ++ [⟨sk, st, sa, sb⟩], by go_num, by simp; omega, fun s hs => (by
              rcases List.mem_append.1 hs with h | h
              · exact HTO.out s h
              · rw [List.mem_singleton.1 h]; exact hto), hrow2, (hr2.store (by show g < w.heap.size + 1; omega) _).mono (by simp; omega), hcur2.store (by simp) _⟩
            case measure => simp [intOf]; omega
        · obtain rfl : r = 0 := by omega
          have hl1 : 1 ≤ l.length ∧ l.length ≤ 5 := by omega
          go_wp2_with fail
          refine (S_pick g _ 2 _ hr (by omega)).mono ?_
          rintro e wp2 ⟨z, rfl, z0, z1, hr, ho, hsz⟩
          clear hsz
          have hrow := PRowX.only hrow ho (by omega)
          have hcur := hcur.trans ho
          by_cases hz : z = 0
          · have hzb : (z == 0) = true := by rw [hz]; rfl
            obtain ⟨c0, c1, c2, c3, hfz, hlt2, _, hpv, hbv⟩ := K1.cells hrow
            have hrow := PRowX.keep hrow (below0 wp2).drew
            have hbv := hbv.keep (below0 wp2).drew
            have hr := hr.drew
            have hcur := hcur.drew
            clear c0 c1 c2 hpv
            go_wp2
            go_region_law (first
          | (go_simp
             go_at_call 69
             refine (S_oneL g _ [0, 1, 4, 5] _ _ (by first | rfl | simp [World.size_alloc]) hr (by omega) (by simp) (by simp)).mono ?_
             rintro e ws ⟨u, rfl, hu, hr, ho⟩
             have hrow := PRowX.only hrow ho (by omega)
             have hcur := hcur.trans ho
             obtain ⟨c0, c1, c2, c3, hfz, hlt2, _, hpv, hbv⟩ := K1.cells hrow)
          | (refine step_append_stmts rfl _ _ rfl bv _ l [St.mk 8 0 u 0] (w.heap.size + 1) rfl rfl (hbv.keep al1) (Stmts.feed (Stmts.one rfl (Nat.le_refl _) _ _ _ _)) (by simp only [List.length_cons, List.length_nil]; omega) (by have := hcur.size; simp only [World.size_alloc] at this ⊢; omega) ?_
             intro U w1 hU hg1 hb1 hf1
             obtain ⟨A1, C1, rfl⟩ := hU.form
             rw [show (l ++ [St.mk 8 0 u 0]).length = (l).length + 1 by simp] at hU hf1
             have hrow2 := K1.setBody (PRowX.keep hrow al1) hg1 hU
             have hr2 := (hr.keep al1).grown hg1 (fun k hk => by have := own_block_ge hbv k hk; omega)
             have hcur2 := ((hcur.alloc _).grow hg1 (fun k hk => by have := own_block_ge hbv k hk; simp only [World.size_alloc]; omega))
             obtain ⟨z1, z2⟩ := cell_grown (w' := w1) (PRowX.keep hrow al1) hg1))
            all_goals
              have hrow := hrow2
              have hr := hr2.store (p := ⟨w.heap.size + 1, 3, none⟩) (by show g < w.heap.size + 1; omega) (.slice A1 (l.length + 1) C1)
              have hcur := hcur2.store (p := ⟨w.heap.size + 1, 3, none⟩) (by simp) (.slice A1 (l.length + 1) C1)
              clear hrow2 hr2 hcur2 hU hf1 hb1 hg1 hbv hpv z1 z2 c3 hfz
              have r1 := fun o => (ocell hcur).1 w.heap.size o (by omega) (by simp)
              have m1 := fun o => (ocell hcur).2 w.heap.size o (by omega) (by simp)
              obtain ⟨c0, c1, c2, c3, hfz, hlt2, _, hpv, hbv⟩ := K1.cells hrow
              obtain ⟨A2, C2, rfl⟩ := hpv.form
              obtain ⟨A3, hA3⟩ : ∃ A3, A3 = A1 := ⟨_, rfl⟩
              obtain ⟨C3, hC3⟩ : ∃ C3, C3 = C1 := ⟨_, rfl⟩
              subst hA3 hC3
              clear hfz hlt2
              go_wp2
              exact bodyPost_ret (v := bkVal ⟨1, parent, ps, l ++ [St.mk 8 0 u 0]⟩ (.slice A2 ps.length C2) (.slice A3 (l.length + 1) C3)) (by simp [results, Try.results68, go_sem, r1]) rfl
                ⟨⟨1, parent, ps, l ++ [St.mk 8 0 u 0]⟩, _, _, rfl, rfl, rfl, hpl, by first | omega | (simp; done) | (simp; omega), by first | omega | (simp; done) | (simp; omega), (fun s hs => (List.mem_append.1 hs).elim (HTO.out s) (fun h => by rw [List.mem_singleton.1 h]; exact ⟨Int.le_refl 0, (by decide : (0 : Int) ≤ 7)⟩)),
                  ((((hpv.set (Nat.lt_succ_self _) _).set (Nat.lt_succ_self _) _).set (Nat.lt_succ_self _) _).set (Nat.lt_succ_self _) _).lo_ (by omega), ((((hbv.set (Nat.lt_succ_self _) _).set (Nat.lt_succ_self _) _).set (Nat.lt_succ_self _) _).set (Nat.lt_succ_self _) _).lo_ (by omega),
                  ((((hr.store hgl _).store hgl _).store hgl _).store hgl _).mono (by first | omega | (simp; omega)), (((((Only.of_below al1).trans hcur).store (Nat.le_refl _) _).store (Nat.le_refl _) _).store (Nat.le_refl _) _).store (Nat.le_refl _) _⟩
          · have hzb : (z == 0) = false := by rw [beq_eq_false_iff_ne]; exact hz
            have r1 := fun o => (ocell hcur).1 w.heap.size o (by omega) (by simp)
            have m1 := fun o => (ocell hcur).2 w.heap.size o (by omega) (by simp)
            obtain ⟨c0, c1, c2, c3, hfz, hlt2, _, hpv, hbv⟩ := K1.cells hrow
            obtain ⟨A2, C2, rfl⟩ := hpv.form
            obtain ⟨A3, C3, rfl⟩ := hbv.form
            clear hfz hlt2
            go_wp2
            exact bodyPost_ret (v := bkVal ⟨1, parent, ps, l⟩ (.slice A2 ps.length C2) (.slice A3 (l).length C3)) (by simp [results, Try.results68, go_sem, r1]) rfl
              ⟨⟨1, parent, ps, l⟩, _, _, rfl, rfl, rfl, hpl, by first | omega | (simp; done) | (simp; omega), by first | omega | (simp; done) | (simp; omega), HTO.out,
                ((((hpv.set (Nat.lt_succ_self _) _).set (Nat.lt_succ_self _) _).set (Nat.lt_succ_self _) _).set (Nat.lt_succ_self _) _).lo_ (by omega), ((((hbv.set (Nat.lt_succ_self _) _).set (Nat.lt_succ_self _) _).set (Nat.lt_succ_self _) _).set (Nat.lt_succ_self _) _).lo_ (by omega),
                ((((hr.store hgl _).store hgl _).store hgl _).store hgl _).mono (by first | omega | (simp; omega)), (((((Only.of_below al1).trans hcur).store (Nat.le_refl _) _).store (Nat.le_refl _) _).store (Nat.le_refl _) _).store (Nat.le_refl _) _⟩

    · have hyb : (y == 0) = false := by rw [beq_eq_false_iff_ne]; exact hy
      go_wp2_with fail
      obtain ⟨ps, pv, hpl, hrow⟩ : ∃ ps pv, ps.length ≤ 1 ∧ K1 _ (w.heap.size + 1) (w.heap.size + 1) ⟨1, parent, ps, []⟩ pv _ := ⟨[], _, by simp, hrow⟩
      refine (S_oneL g _ [3, 2, 4, 1, 5] _ _ (by first | rfl | simp [World.size_alloc]) hr (by omega) (by simp) (by simp)).mono ?_
      rintro e wn ⟨N, rfl, hN, hr, ho⟩
      have hrow := PRowX.only hrow ho (by omega)
      have hcur := hcur.trans ho
      have hN2 : 1 ≤ N ∧ N ≤ 5 := by simp at hN; omega
      clear hN ho
      go_wp2
      go_loopw [8] (fun i wr => ∃ (r : Nat) (bv : Value) (l : List St), i = .int .i64 r ∧ (r : Int) + l.length = N ∧ (∀ s ∈ l, 0 ≤ s.to ∧ s.to ≤ 7) ∧ K1 wr (w.heap.size + 1) (w.heap.size + 1) ⟨1, parent, ps, l⟩ pv bv ∧ Rdr wr g (m + 4 + 6 * l.length) ∧ Only g (g + 1) (w.alloc (.cells #[.int .i64 0, .int .i64 0, .slice none 0 0, .slice none 0 0] 56)) wr) (fun i _ => (intOf i).toNat)
      case atStart => exact ⟨N.toNat, _, [], by rw [Int.toNat_of_nonneg (by omega)], by simp; omega, fun s hs => absurd hs (by simp), hrow, hr.mono (by simp; try omega), hcur⟩
      case round =>
        clear hrow hr hcur
        obtain ⟨r, bv, l, rfl, hrl, hto, hrow, hr, hcur⟩ := hrel
        have HTO := Lib.hid hto
        clear hto
        by_cases hlt : 0 < r
        · obtain ⟨c0, c1, c2, c3, hfz, hlt2, _, hpv, hbv⟩ := K1.cells hrow
          have hrow := PRowX.keep hrow (below0 wr).drew
          have hbv := hbv.keep (below0 wr).drew
          have hr := hr.drew
          have hcur := hcur.drew
          clear c0 c1 c2 hlt2 hpv
          go_wp2
          go_region_law (first
          | (go_simp
             go_at_call 100
             refine (S_someStmt g _ 1 _ hr (by omega)).mono ?_
             rintro e ws ⟨⟨sk, st, sa, sb⟩, rfl, hto, hr, ho⟩
             have hrow := PRowX.only hrow ho (by omega)
             have hcur := hcur.trans ho
             obtain ⟨c0, c1, c2, c3, hfz, hlt2, _, hpv, hbv⟩ := K1.cells hrow)
          | (refine step_append_stmts rfl _ _ rfl bv _ l [St.mk sk st sa sb] (w.heap.size + 1) rfl rfl (hbv.keep al1) (Stmts.feed (Stmts.one rfl (Nat.le_refl _) _ _ _ _)) (by simp only [List.length_cons, List.length_nil]; omega) (by have := hcur.size; simp only [World.size_alloc] at this ⊢; omega) ?_
             intro U w1 hU hg1 hb1 hf1
             obtain ⟨A1, C1, rfl⟩ := hU.form
             rw [show (l ++ [St.mk sk st sa sb]).length = (l).length + 1 by simp] at hU hf1
             have hrow2 := K1.setBody (PRowX.keep hrow al1) hg1 hU
             have hr2 := (hr.keep al1).grown hg1 (fun k hk => by have := own_block_ge hbv k hk; omega)
             have hcur2 := ((hcur.alloc _).grow hg1 (fun k hk => by have := own_block_ge hbv k hk; simp only [World.size_alloc]; omega))
             obtain ⟨z1, z2⟩ := cell_grown (w' := w1) (PRowX.keep hrow al1) hg1))
          all_goals
            go_wp2
            go_roundw
            case rel => exact ⟨r - 1, _, l ++ [⟨sk, st, sa, sb⟩], by go_num, by simp; omega, fun s hs => (by
              rcases List.mem_append.1 hs with h | h
              · exact HTO.out s h
              · rw [List.mem_singleton.1 h]; exact hto), hrow2, (hr2.store (by show g < w.heap.size + 1; omega) _).mono (by simp; omega), hcur2.store (by simp) _⟩
            case measure => simp [intOf]; omega
        · obtain rfl : r = 0 := by omega
          have hl1 : 1 ≤ l.length ∧ l.length ≤ 5 := by omega
          go_wp2_with fail
          refine (S_pick g _ 2 _ hr (by omega)).mono ?_
          rintro e wp2 ⟨z, rfl, z0, z1, hr, ho, hsz⟩
          clear hsz
          have hrow := PRowX.only hrow ho (by omega)
          have hcur := hcur.trans ho
          by_cases hz : z = 0
          · have hzb : (z == 0) = true := by rw [hz]; rfl
            obtain ⟨c0, c1, c2, c3, hfz, hlt2, _, hpv, hbv⟩ := K1.cells hrow
            have hrow := PRowX.keep hrow (below0 wp2).drew
            have hbv := hbv.keep (below0 wp2).drew
            have hr := hr.drew
            have hcur := hcur.drew
            clear c0 c1 c2 hpv
            go_wp2
            go_region_law (first
          | (go_simp
             go_at_call 69
             refine (S_oneL g _ [0, 1, 4, 5] _ _ (by first | rfl | simp [World.size_alloc]) hr (by omega) (by simp) (by simp)).mono ?_
             rintro e ws ⟨u, rfl, hu, hr, ho⟩
             have hrow := PRowX.only hrow ho (by omega)
             have hcur := hcur.trans ho
             obtain ⟨c0, c1, c2, c3, hfz, hlt2, _, hpv, hbv⟩ := K1.cells hrow)
          | (refine step_append_stmts rfl _ _ rfl bv _ l [St.mk 8 0 u 0] (w.heap.size + 1) rfl rfl (hbv.keep al1) (Stmts.feed (Stmts.one rfl (Nat.le_refl _) _ _ _ _)) (by simp only [List.length_cons, List.length_nil]; omega) (by have := hcur.size; simp only [World.size_alloc] at this ⊢; omega) ?_
             intro U w1 hU hg1 hb1 hf1
             obtain ⟨A1, C1, rfl⟩ := hU.form
             rw [show (l ++ [St.mk 8 0 u 0]).length = (l).length + 1 by simp] at hU hf1
             have hrow2 := K1.setBody (PRowX.keep hrow al1) hg1 hU
             have hr2 := (hr.keep al1).grown hg1 (fun k hk => by have := own_block_ge hbv k hk; omega)
             have hcur2 := ((hcur.alloc _).grow hg1 (fun k hk => by have := own_block_ge hbv k hk; simp only [World.size_alloc]; omega))
             obtain ⟨z1, z2⟩ := cell_grown (w' := w1) (PRowX.keep hrow al1) hg1))
            all_goals
              have hrow := hrow2
              have hr := hr2.store (p := ⟨w.heap.size + 1, 3, none⟩) (by show g < w.heap.size + 1; omega) (.slice A1 (l.length + 1) C1)
              have hcur := hcur2.store (p := ⟨w.heap.size + 1, 3, none⟩) (by simp) (.slice A1 (l.length + 1) C1)
              clear hrow2 hr2 hcur2 hU hf1 hb1 hg1 hbv hpv z1 z2 c3 hfz
              have r1 := fun o => (ocell hcur).1 w.heap.size o (by omega) (by simp)
              have m1 := fun o => (ocell hcur).2 w.heap.size o (by omega) (by simp)
              obtain ⟨c0, c1, c2, c3, hfz, hlt2, _, hpv, hbv⟩ := K1.cells hrow
              obtain ⟨A2, C2, rfl⟩ := hpv.form
              obtain ⟨A3, hA3⟩ : ∃ A3, A3 = A1 := ⟨_, rfl⟩
              obtain ⟨C3, hC3⟩ : ∃ C3, C3 = C1 := ⟨_, rfl⟩
              subst hA3 hC3
              clear hfz hlt2
              go_wp2
              exact bodyPost_ret (v := bkVal ⟨1, parent, ps, l ++ [St.mk 8 0 u 0]⟩ (.slice A2 ps.length C2) (.slice A3 (l.length + 1) C3)) (by simp [results, Try.results68, go_sem, r1]) rfl
                ⟨⟨1, parent, ps, l ++ [St.mk 8 0 u 0]⟩, _, _, rfl, rfl, rfl, hpl, by first | omega | (simp; done) | (simp; omega), by first | omega | (simp; done) | (simp; omega), (fun s hs => (List.mem_append.1 hs).elim (HTO.out s) (fun h => by rw [List.mem_singleton.1 h]; exact ⟨Int.le_refl 0, (by decide : (0 : Int) ≤ 7)⟩)),
                  ((((hpv.set (Nat.lt_succ_self _) _).set (Nat.lt_succ_self _) _).set (Nat.lt_succ_self _) _).set (Nat.lt_succ_self _) _).lo_ (by omega), ((((hbv.set (Nat.lt_succ_self _) _).set (Nat.lt_succ_self _) _).set (Nat.lt_succ_self _) _).set (Nat.lt_succ_self _) _).lo_ (by omega),
                  ((((hr.store hgl _).store hgl _).store hgl _).store hgl _).mono (by first | omega | (simp; omega)), (((((Only.of_below al1).trans hcur).store (Nat.le_refl _) _).store (Nat.le_refl _) _).store (Nat.le_refl _) _).store (Nat.le_refl _) _⟩
          · have hzb : (z == 0) = false := by rw [beq_eq_false_iff_ne]; exact hz
            have r1 := fun o => (ocell hcur).1 w.heap.size o (by omega) (by simp)
            have m1 := fun o => (ocell hcur).2 w.heap.size o (by omega) (by simp)
            obtain ⟨c0, c1, c2, c3, hfz, hlt2, _, hpv, hbv⟩ := K1.cells hrow
            obtain ⟨A2, C2, rfl⟩ := hpv.form
            obtain ⟨A3, C3, rfl⟩ := hbv.form
            clear hfz hlt2
            go_wp2
            exact bodyPost_ret (v := bkVal ⟨1, parent, ps, l⟩ (.slice A2 ps.length C2) (.slice A3 (l).length C3)) (by simp [results, Try.results68, go_sem, r1]) rfl
              ⟨⟨1, parent, ps, l⟩, _, _, rfl, rfl, rfl, hpl, by first | omega | (simp; done) | (simp; omega), by first | omega | (simp; done) | (simp; omega), HTO.out,
                ((((hpv.set (Nat.lt_succ_self _) _).set (Nat.lt_succ_self _) _).set (Nat.lt_succ_self _) _).set (Nat.lt_succ_self _) _).lo_ (by omega), ((((hbv.set (Nat.lt_succ_self _) _).set (Nat.lt_succ_self _) _).set (Nat.lt_succ_self _) _).set (Nat.lt_succ_self _) _).lo_ (by omega),
                ((((hr.store hgl _).store hgl _).store hgl _).store hgl _).mono (by first | omega | (simp; omega)), (((((Only.of_below al1).trans hcur).store (Nat.le_refl _) _).store (Nat.le_refl _) _).store (Nat.le_refl _) _).store (Nat.le_refl _) _⟩

  · have hkb : (kind == 1) = false := by rw [beq_eq_false_iff_ne]; exact hk
    go_enter Try.func68, Try.ntmps68
    go_wp2_with fail
    obtain ⟨ps, pv, hpl, hrow⟩ : ∃ ps pv, ps.length ≤ 1 ∧ K1 _ (w.heap.size + 1) (w.heap.size + 1) ⟨kind, parent, ps, []⟩ pv _ := ⟨[], _, by simp, hrow⟩
    refine (S_oneL g _ [3, 2, 4, 1, 5] _ _ (by first | rfl | simp [World.size_alloc]) hr (by omega) (by simp) (by simp)).mono ?_
    rintro e wn ⟨N, rfl, hN, hr, ho⟩
    have hrow := PRowX.only hrow ho (by omega)
    have hcur := hcur.trans ho
    have hN2 : 1 ≤ N ∧ N ≤ 5 := by simp at hN; omega
    clear hN ho
    go_wp2
    go_loopw [8] (fun i wr => ∃ (r : Nat) (bv : Value) (l : List St), i = .int .i64 r ∧ (r : Int) + l.length = N ∧ (∀ s ∈ l, 0 ≤ s.to ∧ s.to ≤ 7) ∧ K1 wr (w.heap.size + 1) (w.heap.size + 1) ⟨kind, parent, ps, l⟩ pv bv ∧ Rdr wr g (m + 4 + 6 * l.length) ∧ Only g (g + 1) (w.alloc (.cells #[.int .i64 0, .int .i64 0, .slice none 0 0, .slice none 0 0] 56)) wr) (fun i _ => (intOf i).toNat)
    case atStart => exact ⟨N.toNat, _, [], by rw [Int.toNat_of_nonneg (by omega)], by simp; omega, fun s hs => absurd hs (by simp), hrow, hr.mono (by simp; try omega), hcur⟩
    case round =>
      clear hrow hr hcur
      obtain ⟨r, bv, l, rfl, hrl, hto, hrow, hr, hcur⟩ := hrel
      have HTO := Lib.hid hto
      clear hto
      by_cases hlt : 0 < r
      · obtain ⟨c0, c1, c2, c3, hfz, hlt2, _, hpv, hbv⟩ := K1.cells hrow
        have hrow := PRowX.keep hrow (below0 wr).drew
        have hbv := hbv.keep (below0 wr).drew
        have hr := hr.drew
        have hcur := hcur.drew
        clear c0 c1 c2 hlt2 hpv
        go_wp2
        go_region_law (first
          | (go_simp
             go_at_call 100
             refine (S_someStmt g _ kind _ hr (by omega)).mono ?_
             rintro e ws ⟨⟨sk, st, sa, sb⟩, rfl, hto, hr, ho⟩
             have hrow := PRowX.only hrow ho (by omega)
             have hcur := hcur.trans ho
             obtain ⟨c0, c1, c2, c3, hfz, hlt2, _, hpv, hbv⟩ := K1.cells hrow)
          | (refine step_append_stmts rfl _ _ rfl bv _ l [St.mk sk st sa sb] (w.heap.size + 1) rfl rfl (hbv.keep al1) (Stmts.feed (Stmts.one rfl (Nat.le_refl _) _ _ _ _)) (by simp only [List.length_cons, List.length_nil]; omega) (by have := hcur.size; simp only [World.size_alloc] at this ⊢; omega) ?_
             intro U w1 hU hg1 hb1 hf1
             obtain ⟨A1, C1, rfl⟩ := hU.form
             rw [show (l ++ [St.mk sk st sa sb]).length = (l).length + 1 by simp] at hU hf1
             have hrow2 := K1.setBody (PRowX.keep hrow al1) hg1 hU
             have hr2 := (hr.keep al1).grown hg1 (fun k hk => by have := own_block_ge hbv k hk; omega)
             have hcur2 := ((hcur.alloc _).grow hg1 (fun k hk => by have := own_block_ge hbv k hk; simp only [World.size_alloc]; omega))
             obtain ⟨z1, z2⟩ := cell_grown (w' := w1) (PRowX.keep hrow al1) hg1))
        all_goals
          go_wp2
          go_roundw
          case rel => exact ⟨r - 1, _, l ++ [⟨sk, st, sa, sb⟩], by go_num, by simp; omega, fun s hs => (by
            rcases List.mem_append.1 hs with h | h
            · exact HTO.out s h
            · rw [List.mem_singleton.1 h]; exact hto), hrow2, (hr2.store (by show g < w.heap.size + 1; omega) _).mono (by simp; omega), hcur2.store (by simp) _⟩
          case measure => simp [intOf]; omega
      · obtain rfl : r = 0 := by omega
        have hl1 : 1 ≤ l.length ∧ l.length ≤ 5 := by omega
        have r1 := fun o => (ocell hcur).1 w.heap.size o (by omega) (by simp)
        have m1 := fun o => (ocell hcur).2 w.heap.size o (by omega) (by simp)
        obtain ⟨c0, c1, c2, c3, hfz, hlt2, _, hpv, hbv⟩ := K1.cells hrow
        obtain ⟨A2, C2, rfl⟩ := hpv.form
        obtain ⟨A3, C3, rfl⟩ := hbv.form
        clear hfz hlt2
        go_wp2
        exact bodyPost_ret (v := bkVal ⟨kind, parent, ps, l⟩ (.slice A2 ps.length C2) (.slice A3 (l).length C3)) (by simp [results, Try.results68, go_sem, r1]) rfl
          ⟨⟨kind, parent, ps, l⟩, _, _, rfl, rfl, rfl, hpl, by first | omega | (simp; done) | (simp; omega), by first | omega | (simp; done) | (simp; omega), HTO.out,
            ((((hpv.set (Nat.lt_succ_self _) _).set (Nat.lt_succ_self _) _).set (Nat.lt_succ_self _) _).set (Nat.lt_succ_self _) _).lo_ (by omega), ((((hbv.set (Nat.lt_succ_self _) _).set (Nat.lt_succ_self _) _).set (Nat.lt_succ_self _) _).set (Nat.lt_succ_self _) _).lo_ (by omega),
            ((((hr.store hgl _).store hgl _).store hgl _).store hgl _).mono (by first | omega | (simp; omega)), (((((Only.of_below al1).trans hcur).store (Nat.le_refl _) _).store (Nat.le_refl _) _).store (Nat.le_refl _) _).store (Nat.le_refl _) _⟩


set_option maxRecDepth 100000 in
set_option maxHeartbeats 4000000 in
theorem S_making (g m : Nat) (K : Bk) (pv bv : Value) (b : Int) (lo1 lo2 : Nat) (w : World) (h : Rdr w g m) (hm : m ≤ 800000) (hpv : Ints w lo1 pv K.params) (hbv : Stmts w lo2 bv K.body) :
    Calls Try.prog 70 #[.pointer (some ⟨g, 0, none⟩), bkVal K pv bv, .int .i64 b] w fun e w' => ∃ (v' : Value) (l : List St), e = .returned v' ∧ Stmts w' w.heap.size v' l ∧ 1 ≤ l.length ∧ l.length ≤ 2 ∧ (∀ s ∈ l, 0 ≤ s.to ∧ s.to ≤ 7) ∧ Rdr w' g (m + 5) ∧ Only g (g + 1) w w' := by
  obtain ⟨A2, C2, rfl⟩ := hpv.form
  obtain ⟨A3, C3, rfl⟩ := hbv.form
  obtain ⟨kind, parent, ps, body⟩ := K
  have hgl : g < w.heap.size := h.lt
  have hr := h.keep (al1 (o := .cells #[.int .i64 kind, .int .i64 parent, .slice A2 ps.length C2, .slice A3 body.length C3] 56))
  have hcur := Only.of_below (lo := g) (hi := g + 1) (al1 (w := w) (o := .cells #[.int .i64 kind, .int .i64 parent, .slice A2 ps.length C2, .slice A3 body.length C3] 56))
  have hcur0 := Only.refl g (g + 1) (w.alloc (.cells #[.int .i64 kind, .int .i64 parent, .slice A2 ps.length C2, .slice A3 body.length C3] 56))
  clear h hpv hbv
  by_cases hk : kind = 2
  · subst hk
    go_enter Try.func70, Try.ntmps70
    go_wp2
    go_ret
    exact ⟨_, [⟨4, 6, b, 0⟩], rfl, Stmts.one (by simp) (by omega) _ _ _ _, by simp, by simp, by simp, (hr.keep al1).mono (by omega), hcur.alloc _⟩
  · have hkb : (kind == 2) = false := by rw [beq_eq_false_iff_ne]; exact hk
    go_enter Try.func70, Try.ntmps70
    go_wp2_with fail
    refine (S_oneL g _ [4, 5] _ _ (by first | rfl | simp [World.size_alloc]) hr (by omega) (by simp) (by simp)).mono ?_
    rintro e w1 ⟨f, rfl, hf, hr, ho⟩
    have hf7 : 0 ≤ f ∧ f ≤ 7 := by simp at hf; omega
    have hcur := hcur.trans ho
    have hcur0 := hcur0.trans ho
    clear ho hf
    have hrow := Stmts.one (w := w1) (lo := w.heap.size) rfl hcur.size 3 f b 0
    have hcur := hcur.alloc (.cells #[.int .i64 3, .int .i64 f, .int .i64 b, .int .i64 0] 60)
    have hcur0 := hcur0.alloc (.cells #[.int .i64 3, .int .i64 f, .int .i64 b, .int .i64 0] 60)
    have hr := hr.keep (al1 (o := .cells #[.int .i64 3, .int .i64 f, .int .i64 b, .int .i64 0] 60))
    go_wp2_with fail
    refine (S_pick g _ 3 _ hr (by omega)).mono ?_
    rintro e w2 ⟨c, rfl, c0, c1, hr, ho, hsz⟩
    have hrow := Stmts.only hrow ho (by omega)
    have hcur := hcur.trans ho
    have hcur0 := hcur0.trans ho
    clear hsz ho
    by_cases hc : 0 < c
    · by_cases hp : ps.length = 1
      · have hpb : ((ps.length : Int) == 1) = true := by rw [hp]; rfl
        have r1 := fun o => (ocell hcur0).1 w.heap.size o (by omega) (by simp)
        go_wp2_with fail
        refine (S_aName g _ _ hr (by omega)).mono ?_
        rintro e w3 ⟨a, rfl, ha, hr, ho⟩
        have hrow := Stmts.only hrow ho (by omega)
        have hcur := hcur.trans ho
        clear ho r1
        go_wp2_with fail
        refine (S_oneL g _ [0, 1, 5] _ _ (by first | rfl | simp [World.size_alloc]) hr (by omega) (by simp) (by simp)).mono ?_
        rintro e w4 ⟨u, rfl, hu, hr, ho⟩
        have hu7 : 0 ≤ u ∧ u ≤ 7 := by simp at hu; omega
        have hrow := Stmts.only hrow ho (by omega)
        have hcur := hcur.trans ho
        clear ho hu
        go_wp2_with (at_builtin; refine wpList_append_stmts rfl _ _ rfl _ _ [⟨3, f, b, 0⟩] [⟨5, u, f, a⟩] w.heap.size rfl rfl (hrow.keep al1) (Stmts.feed (Stmts.one (lo := 0) rfl (Nat.zero_le _) 5 u f (a))) (by simp) (by have := hcur.size; rw [World.size_alloc]; omega) ?_; intro v' w5 hown hg5 hb5 hf5)
        go_ret
        exact ⟨_, _, rfl, hown, by simp, by simp, (fun s hs => by simp at hs; rcases hs with rfl | rfl; exact hf7; exact hu7), ((hr.keep al1).grown hg5 (fun k hk => by have := own_block_ge hrow k hk; omega)).mono (by omega), (hcur.alloc _).grow hg5 (fun k hk => own_block_ge hrow k hk)⟩
      · have hpb : ((ps.length : Int) == 1) = false := by rw [beq_eq_false_iff_ne]; omega
        have r1 := fun o => (ocell hcur0).1 w.heap.size o (by omega) (by simp)
        go_wp2_with fail
        refine (S_oneL g _ [0, 1, 5] _ _ (by first | rfl | simp [World.size_alloc]) hr (by omega) (by simp) (by simp)).mono ?_
        rintro e w4 ⟨u, rfl, hu, hr, ho⟩
        have hu7 : 0 ≤ u ∧ u ≤ 7 := by simp at hu; omega
        have hrow := Stmts.only hrow ho (by omega)
        have hcur := hcur.trans ho
        clear ho hu
        go_wp2_with (at_builtin; refine wpList_append_stmts rfl _ _ rfl _ _ [⟨3, f, b, 0⟩] [⟨5, u, f, -1⟩] w.heap.size rfl rfl (hrow.keep al1) (Stmts.feed (Stmts.one (lo := 0) rfl (Nat.zero_le _) 5 u f (-1))) (by simp) (by have := hcur.size; rw [World.size_alloc]; omega) ?_; intro v' w5 hown hg5 hb5 hf5)
        go_ret
        exact ⟨_, _, rfl, hown, by simp, by simp, (fun s hs => by simp at hs; rcases hs with rfl | rfl; exact hf7; exact hu7), ((hr.keep al1).grown hg5 (fun k hk => by have := own_block_ge hrow k hk; omega)).mono (by omega), (hcur.alloc _).grow hg5 (fun k hk => own_block_ge hrow k hk)⟩
    · go_wp2
      go_ret
      exact ⟨_, _, rfl, hrow, by simp, by simp, (fun s hs => by rw [List.mem_singleton.1 hs]; exact hf7), hr.mono (by omega), hcur⟩

end Go.Proofs.Ytiemhadpepbcjaa

namespace Go.Proofs.Ytiemhadpepbcjaa
open Go.RowKit
set_option linter.unusedVariables false

/-! ### a region that draws its order, the last operations of which wait for all the others: a condition S is held behind the operations before number n alone -/
section
variable {P : Program} {ops : Array Oper} {Q : Exit → Act → World → Prop} {md : Region.Mode} {S : World → Prop} {n : Nat}

/-- Whatever order is picked from here on; behind each operation before number n S holds. -/
def wpAnyT (P : Program) (md : Region.Mode) (ops : Array Oper) (Q : Exit → Act → World → Prop) (S : World → Prop) (n : Nat) : Nat → Array Bool → Act → World → Prop
  | 0, listed, a, w => Region.ready md ops listed = [] ∧ Q .normal a w
  | fuel + 1, listed, a, w =>
    (Region.ready md ops listed = [] → Q .normal a w) ∧
    ∀ i ∈ Region.ready md ops listed, wpOp P ops Q i (fun a' w' => (i < n → S w') ∧ wpAnyT P md ops Q S n fuel (listed.setIfInBounds i true) a' w') a w

theorem wpAny_of_T : ∀ (fuel : Nat) (listed : Array Bool) (a : Act) (w : World), wpAnyT P md ops Q S n fuel listed a w → wpAny P md ops Q fuel listed a w
  | 0, _, _, _, h => h
  | fuel + 1, _, _, _, h => ⟨h.1, fun i hi => wpOp_mono (fun a' w' h' => wpAny_of_T fuel _ a' w' h'.2) (h.2 i hi)⟩

/-- The operations from number n on wait for all before it. -/
def Waits (md : Region.Mode) (ops : Array Oper) (n : Nat) : Bool :=
  (List.range ops.size).all fun j => decide (j < n) || (List.range n).all fun i => ((ops[j]?).map (·.after.any fun e => Region.binds md e && e.on == i)).getD false
theorem Waits.spec {j i : Nat} {oj : Oper} (h : Waits md ops n = true) (hj : ops[j]? = some oj) (hn : n ≤ j) (hi : i < n) : ∃ e ∈ oj.after, Region.binds md e = true ∧ e.on = i := by
  have h1 := List.all_eq_true.1 h j (List.mem_range.2 (Array.getElem?_eq_some_iff.1 hj).1)
  rw [Bool.or_eq_true, decide_eq_true_iff] at h1
  have h2 := List.all_eq_true.1 (h1.resolve_left (by omega)) i (List.mem_range.2 hi)
  rw [hj] at h2
  simp only [Option.map_some, Option.getD_some] at h2
  obtain ⟨e, he, hb⟩ := Array.any_eq_true'.1 h2
  rw [Bool.and_eq_true, beq_iff_eq] at hb
  exact ⟨e, he, hb.1, hb.2⟩

theorem wpAnyT_first {i : Nat} {oi : Oper} {v : Value} (hW : Waits md ops n = true) (hin : i < n) (hi : ops[i]? = some oi) (hsel : ∀ (j : Nat) (o : Oper) cs b, ops[j]? = some o → o.op ≠ .select cs b)
    (hQ : ∀ c a w, Q (.panic c) (a.put oi.dst v) w → Q (.panic c) a w) :
    ∀ (fuel : Nat) (listed : Array Bool) (a : Act) (w : World),
      (∀ j oj, ops[j]? = some oj → j ≠ i → listed.getD j true = false → (∀ e ∈ oj.after, Region.binds md e = true → e.on ≠ i) → oi.apart ops oj = true) →
      i ∈ Region.ready md ops listed → YieldsIf P ops S oi v a → S w →
      wpAnyT P md ops Q S n fuel (listed.setIfInBounds i true) (a.put oi.dst v) w → wpAnyT P md ops Q S n (fuel + 1) listed a w := by
  intro fuel
  induction fuel with
  | zero =>
    intro listed a w _ hr hy hS H
    refine ⟨fun h => (by rw [h] at hr; cases hr), fun j hj => ?_⟩
    by_cases hji : j = i
    · subst hji; exact hy.wpOp hi hS ⟨fun _ => hS, H⟩
    · have := ready_mono hj hji
      rw [H.1] at this
      cases this
  | succ fuel ih =>
    intro listed a w hfree hr hy hS H
    refine ⟨fun h => (by rw [h] at hr; cases hr), fun j hj => ?_⟩
    by_cases hji : j = i
    · subst hji; exact hy.wpOp hi hS ⟨fun _ => hS, H⟩
    · have h1 := H.2 j (ready_mono hj hji)
      obtain ⟨hjun, oj, hoj, hall⟩ := mem_ready.1 hj
      have hnot : ∀ e ∈ oj.after, Region.binds md e = true → e.on ≠ i := fun e he hb heq => by
        have h1 := hall e he hb
        have h0 := (mem_ready.1 hr).1
        rw [heq] at h1
        rcases Nat.lt_or_ge i listed.size with h' | h'
        · simp [h'] at h0 h1; rw [h0] at h1; cases h1
        · simp [Array.getElem?_eq_none h'] at h1
      have hjn : j < n := by
        rcases Nat.lt_or_ge j n with h | h
        · exact h
        · obtain ⟨e, he, hb, hon⟩ := Waits.spec hW hoj h hin
          exact absurd hon (hnot e he hb)
      have h2 := wpOp_putIf hoj (hfree j oj hoj hji hjun hnot) (fun cs b => hsel i oi cs b hi) (fun cs b => hsel j oj cs b hoj) hQ hy h1
      have hfree' : ∀ k ok, ops[k]? = some ok → k ≠ i → (listed.setIfInBounds j true).getD k true = false →
          (∀ e ∈ ok.after, Region.binds md e = true → e.on ≠ i) → oi.apart ops ok = true := fun k ok hk hki hun hno => by
        refine hfree k ok hk hki ?_ hno
        by_cases hjk : j = k
        · subst hjk; exact hjun
        · rw [Go.getD_set_ne true hjk] at hun; exact hun
      refine wpOp_mono (fun a' w' h3 => ⟨fun _ => h3.2.1 hjn, ih (listed.setIfInBounds j true) a' w' hfree' (ready_mono hr (Ne.symm hji)) h3.1 (h3.2.1 hjn) ?_⟩) h2
      rw [Array.setIfInBounds_comm _ _ hji]
      exact h3.2.2

theorem wpAnyT_take {i : Nat} {oi : Oper} {v : Value} {fuel : Nat} {listed : Array Bool} {a : Act} {w : World} (hW : Waits md ops n = true) (hin : i < n) (hi : ops[i]? = some oi)
    (hs : Region.noSelect ops = true) (hf : Region.free md ops listed i = true) (hr : (Region.ready md ops listed).contains i = true)
    (hQ : ∀ c a w, Q (.panic c) (a.put oi.dst v) w → Q (.panic c) a w) (hy : YieldsIf P ops S oi v a) (hS : S w)
    (h : wpAnyT P md ops Q S n fuel (listed.setIfInBounds i true) (a.put oi.dst v) w) : wpAnyT P md ops Q S n (fuel + 1) listed a w :=
  wpAnyT_first hW hin hi (Region.noSelect_spec hs) hQ fuel listed a w (Region.free_spec hi hf) (by simpa using hr) hy hS h

/-- The step of one operation that may come up; what follows is asked behind it. -/
theorem wpAnyT_one {i : Nat} {o : Oper} {fuel : Nat} {listed : Array Bool} {a : Act} {w : World} (ho : ops[i]? = some o)
    (h : ∀ K : Act → World → Prop, (∀ a w, (i < n → S w) → wpAnyT P md ops Q S n fuel (listed.setIfInBounds i true) a w → K a w) → if Region.wanted o (yielded ops a.tmps) = true then Oper.wp P o a w K Q else K (a.put o.dst undef) w) :
    wpOp P ops Q i (fun a' w' => (i < n → S w') ∧ wpAnyT P md ops Q S n fuel (listed.setIfInBounds i true) a' w') a w :=
  wpOp_step ho fun K hK => h K fun a w h1 h2 => hK a w ⟨h1, h2⟩
theorem wpAnyT_ready1 {i : Nat} {o : Oper} {fuel : Nat} {listed : Array Bool} {a : Act} {w : World} (hr : Region.ready md ops listed = [i]) (ho : ops[i]? = some o)
    (h : ∀ K : Act → World → Prop, (∀ a w, (i < n → S w) → wpAnyT P md ops Q S n fuel (listed.setIfInBounds i true) a w → K a w) → if Region.wanted o (yielded ops a.tmps) = true then Oper.wp P o a w K Q else K (a.put o.dst undef) w) :
    wpAnyT P md ops Q S n (fuel + 1) listed a w :=
  ⟨fun h0 => (by rw [hr] at h0; cases h0), fun j hj => by
    rw [hr, List.mem_singleton] at hj
    subst hj
    exact wpAnyT_one ho h⟩
theorem wpAnyT_ready2 {i j : Nat} {o o' : Oper} {fuel : Nat} {listed : Array Bool} {a : Act} {w : World} (hr : Region.ready md ops listed = [i, j]) (ho : ops[i]? = some o) (ho' : ops[j]? = some o')
    (h : ∀ K : Act → World → Prop, (∀ a w, (i < n → S w) → wpAnyT P md ops Q S n fuel (listed.setIfInBounds i true) a w → K a w) → if Region.wanted o (yielded ops a.tmps) = true then Oper.wp P o a w K Q else K (a.put o.dst undef) w)
    (h' : ∀ K : Act → World → Prop, (∀ a w, (j < n → S w) → wpAnyT P md ops Q S n fuel (listed.setIfInBounds j true) a w → K a w) → if Region.wanted o' (yielded ops a.tmps) = true then Oper.wp P o' a w K Q else K (a.put o'.dst undef) w) :
    wpAnyT P md ops Q S n (fuel + 1) listed a w :=
  ⟨fun h0 => (by rw [hr] at h0; cases h0), fun k hk => by
    rw [hr] at hk
    rcases List.mem_cons.1 hk with rfl | hk
    · exact wpAnyT_one ho h
    · rw [List.mem_singleton] at hk
      subst hk
      exact wpAnyT_one ho' h'⟩
theorem wpAnyT_done {listed : Array Bool} {a : Act} {w : World} (hr : Region.ready md ops listed = []) (h : Q .normal a w) :
    ∀ fuel, wpAnyT P md ops Q S n fuel listed a w
  | 0 => ⟨hr, h⟩
  | _ + 1 => ⟨fun _ => h, by rw [hr]; simp⟩
theorem wp_region_T (n : Nat) {id : Nat} {a : Act} {w : World} (hm : P.follows .mixedOrders = true) (S : World → Prop)
    (h : wpAnyT P .any ops Q S n ops.size (Array.replicate ops.size false) a w.drew) : (Code.region id ops true).wp P Q a w :=
  wp_region_any hm (wpAny_of_T _ _ _ _ h)
end

end Go.Proofs.Ytiemhadpepbcjaa
