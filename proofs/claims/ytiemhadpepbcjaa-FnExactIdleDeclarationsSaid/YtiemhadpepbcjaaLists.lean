/-
  Lists of lists of numbers: eqIntSS, markIntSS, heldIntSS of the laws. Condition: the rows lie in memory as data.
-/
import Derived.Test.YtiemhadpepbcjaaSpec11
import Derived.Test.YtiemhadpepbcjaaMark
import Derived.Test.YtiemhadpepbcjaaEq
import Derived.StillTailTactics
namespace Go.Proofs.Ytiemhadpepbcjaa
open Go.RowKit
set_option linter.unusedVariables false

/-- A list of lists of numbers, in rows of its own, the inner rows apart from each other; us: the values of the inner rows. -/
def RowsOf (w : World) (lo : Nat) (v : Value) (us : List Value) (ll : List (List Int)) : Prop :=
  w.ownsRow lo 31 1 v ll.length us ∧ (∀ i, i < ll.length → Ints w lo (us.getD i undef) (ll.getD i [])) ∧
    ∀ i j, i < ll.length → j < ll.length → i ≠ j → Apart (us.getD i undef) (us.getD j undef)
theorem RowsOf.keep {w w' : World} {lo : Nat} {v : Value} {us : List Value} {ll : List (List Int)} (h : RowsOf w lo v us ll) (hb : Below w.heap.size w w') : RowsOf w' lo v us ll :=
  ⟨own_keep h.1 hb, fun i hi => (h.2.1 i hi).keep hb, h.2.2⟩
theorem RowsOf.lo_ {w : World} {lo lo' : Nat} {v : Value} {us : List Value} {ll : List (List Int)} (h : RowsOf w lo v us ll) (hl : lo' ≤ lo) : RowsOf w lo' v us ll :=
  ⟨own_lo h.1 hl, fun i hi => (h.2.1 i hi).lo_ hl, h.2.2⟩

set_option maxRecDepth 100000 in
theorem eqIntSS_any (va vb : Value) (ua ub : List Value) (la lb : List (List Int)) (l1 l2 : Nat) (w : World) (ha : RowsOf w l1 va ua la) (hb : RowsOf w l2 vb ub lb) :
    Calls Try.prog 22 #[va, vb] w fun e w' => e = .returned (.bool (la == lb)) ∧ Below w.heap.size w w' := by
  obtain ⟨A, C, g, rfl, hn, hc, hA, hg, hcell, hf⟩ := own_rd ha.1
  obtain ⟨A', C', g', rfl, hn', hc', hA', hg', hcell', hf'⟩ := own_rd hb.1
  have hia := ha.2.1
  have hib := hb.2.1
  have HIA := Lib.hid hia
  have HIB := Lib.hid hib
  clear ha hb hf hf' hia hib
  unfold maxLen at hc hc'
  by_cases hl : la.length = lb.length
  · have H := Lib.hid hl
    have hb0 : ((la.length : Int) != (lb.length : Int)) = false := by rw [hl]; simp
    have hn1 : la.length ≤ lb.length := by omega
    clear hl
    go_enter Try.func22, Try.ntmps22
    go_wp2
    go_loopw [5] (fun i wr => ∃ k : Nat, k ≤ la.length ∧ i = .int .i64 k ∧ Below w.heap.size w wr ∧ ∀ j, j < k → la.getD j [] = lb.getD j []) (fun i _ => la.length - (intOf i).toNat)
    case atStart => exact ⟨0, Nat.zero_le _, rfl, Below.refl _ _, fun j hj => absurd hj (Nat.not_lt_zero _)⟩
    case round =>
      obtain ⟨k, hk, rfl, hB, hp⟩ := hrel
      have HP := Lib.hid hp
      clear hp
      by_cases hlt : k < la.length
      · have c1 := hcell k (by omega)
        have d1 := hcell' k (by omega)
        have hp1 := HIA.out k hlt
        have hp2 := HIB.out k (by omega)
        have hgl := (hg (by omega)).2
        have hgl' := (hg' (by omega)).2
        rw [← hB.cell (p := ⟨g, _, none⟩) hgl] at c1
        rw [← hB.cell (p := ⟨g', _, none⟩) hgl'] at d1
        obtain rfl := hA (by omega)
        obtain rfl := hA' (by omega)
        clear hA hA' hcell hcell' hg hg'
        generalize hx : la.getD k [] = x at hp1
        generalize hy : lb.getD k [] = y at hp2
        have HX := Lib.hid hx
        have HY := Lib.hid hy
        obtain ⟨A1, C1, e1⟩ := hp1.form
        obtain ⟨A2, C2, e2⟩ := hp2.form
        rw [e1] at c1 hp1
        rw [e2] at d1 hp2
        clear hx hy e1 e2
        have hi1 : (k : Int) < (la.length : Int) := by omega
        have hi2 : (k : Int) < (lb.length : Int) := by omega
        go_wp2
        go_still_tail 8, (by kernel_rfl)
        change wpList _ _ _ _ _ wr.drew
        have hB1 : Below w.heap.size w wr.drew := hB.drew
        generalize wr.drew = w2 at hB1
        clear c1 d1 hB
        by_cases hxy : x = y
        · have HE := Lib.hid hxy
          have hbq : (x == y) = true := by simp [hxy]
          clear hxy
          go_wp2_with (go_at_call 58; refine (eqIntS_any _ _ x y l1 l2 _ (hp1.keep hB1) (hp2.keep hB1)).mono ?_; rintro e w3 ⟨rfl, hb3⟩)
          go_roundw
          case rel => exact ⟨k + 1, by omega, by go_num, hB1.trans (hb3.mono hB1.size), fun j hj => by
            rcases Nat.lt_succ_iff_lt_or_eq.1 hj with h | rfl
            · exact HP.out j h
            · rw [HX.out, HY.out, HE.out]⟩
          case measure => simp [intOf]; omega
        · have HE := Lib.hid hxy
          have hbq : (x == y) = false := by simp [hxy]
          clear hxy
          go_wp2_with (go_at_call 58; refine (eqIntS_any _ _ x y l1 l2 _ (hp1.keep hB1) (hp2.keep hB1)).mono ?_; rintro e w3 ⟨rfl, hb3⟩)
          go_ret
          refine ⟨ret_bool ?_, hB1.trans (hb3.mono hB1.size)⟩
          rw [eq_comm, beq_eq_false_iff_ne]
          rintro rfl
          exact HE.out (by rw [← HX.out, ← HY.out])
      · go_wp2
        go_ret
        refine ⟨ret_bool ?_, hB⟩
        obtain rfl : k = la.length := by omega
        rw [eq_comm, beq_iff_eq]
        refine List.ext_getElem H.out fun i h1 h2 => ?_
        have := HP.out i h1
        simpa [List.getD, h1, h2] using this
  · have hb0 : ((la.length : Int) != (lb.length : Int)) = true := by simp; omega
    go_enter Try.func22, Try.ntmps22
    go_wp2
    go_ret
    refine ⟨ret_bool ?_, Below.refl _ _⟩
    rw [eq_comm, beq_eq_false_iff_ne]
    intro h
    exact absurd (congrArg _ h) hl

/-- Marks cut into rows of given lengths. -/
def seqs (k : Int) : List Nat → List (List Int)
  | [] => []
  | n :: ns => seqI k n :: seqs (k + n) ns
def upSum (ns : List Nat) (j : Nat) : Nat := (ns.take j).sum
theorem upSum_zero (ns : List Nat) : upSum ns 0 = 0 := by simp [upSum]
theorem upSum_succ : ∀ (ns : List Nat) (j : Nat), j < ns.length → upSum ns (j + 1) = upSum ns j + ns.getD j 0
  | [], j, h => absurd h (Nat.not_lt_zero _)
  | n :: ns, 0, _ => by simp [upSum]
  | n :: ns, j + 1, h => by
    have := upSum_succ ns j (by simpa using h)
    unfold upSum at this ⊢
    simp only [List.take_succ_cons, List.sum_cons, List.getD_cons_succ]
    omega
theorem upSum_le (ns : List Nat) : ∀ j, upSum ns j ≤ ns.sum := fun j => by
  unfold upSum
  conv => rhs; rw [← List.take_append_drop j ns]
  rw [List.sum_append]
  omega
theorem upSum_all (ns : List Nat) : upSum ns ns.length = ns.sum := by unfold upSum; rw [List.take_length]
theorem length_seqs : ∀ (ns : List Nat) (k : Int), (seqs k ns).length = ns.length
  | [], _ => rfl
  | n :: ns, k => by simp [seqs, length_seqs ns]
theorem seqs_getD : ∀ (ns : List Nat) (k : Int) (j : Nat), j < ns.length → (seqs k ns).getD j [] = seqI (k + upSum ns j) (ns.getD j 0)
  | [], _, j, h => absurd h (Nat.not_lt_zero _)
  | n :: ns, k, 0, _ => by simp [seqs, upSum]
  | n :: ns, k, j + 1, h => by
    have := seqs_getD ns (k + n) j (by simpa using h)
    unfold upSum at this ⊢
    simp only [seqs, List.getD_cons_succ, List.take_succ_cons, List.sum_cons] at this ⊢
    rw [this]
    congr 1
    omega

set_option maxRecDepth 100000 in
theorem heldIntSS_any (v : Value) (us : List Value) (ns : List Nat) (lo : Nat) (k : Int) (w : World) (hv : RowsOf w lo v us (seqs k ns)) (hk : 0 ≤ k) (hk2 : k + ns.sum ≤ 1099511627776) :
    Calls Try.prog 26 #[v, .int .i64 k] w fun e w' => e = .returned (.int .i64 (k + ns.sum)) ∧ w = w' := by
  obtain ⟨A, C, g, rfl, hn, hc, hA, hg, hcell, hf⟩ := own_rd hv.1
  have hin := hv.2.1
  rw [length_seqs] at hn hA hg hcell hin ⊢
  unfold maxLen at hc
  have HIN := Lib.hid hin
  have hus := upSum_succ ns
  have HUS := Lib.hid hus
  have hle := upSum_le ns
  have HLE := Lib.hid hle
  have hal := upSum_all ns
  have hgd := seqs_getD ns k
  have HGD := Lib.hid hgd
  have h0 := upSum_zero ns
  generalize ns.sum = T at *
  generalize upSum ns = S at *
  clear hf hv hin hus hle hgd
  go_enter Try.func26, Try.ntmps26
  go_wp2
  go_loop [1, 5] (fun q i => ∃ j : Nat, j ≤ ns.length ∧ i = .int .i64 j ∧ q = .int .i64 (k + S j)) (fun _ i => ns.length - (intOf i).toNat)
  case atStart => exact ⟨0, Nat.zero_le _, rfl, by rw [h0]; simp⟩
  case round =>
    obtain ⟨j, hj, rfl, rfl⟩ := hrel
    by_cases hlt : j < ns.length
    · obtain rfl := hA (by omega)
      have hc1 := hcell j (by omega)
      have hr := HIN.out j hlt
      rw [HGD.out j hlt] at hr
      have hgl := (hg (by omega)).2
      have hS := HUS.out j hlt
      have hL := HLE.out (j + 1)
      obtain ⟨A1, C1, e1⟩ := hr.form
      rw [length_seqI] at e1
      rw [e1] at hc1 hr
      have HRR := Lib.hid hr
      generalize ns.getD j 0 = n at *
      have hnn : (decide (k + ↑(S j) + (n : Int) < 0)) = false := by simp; omega
      have hge : ¬ (k + ↑(S j) + (n : Int) < 0) := by omega
      clear hA hg hcell hr e1 h0 hal
      go_wp2_with (go_at_call 62; refine (heldIntS_any _ n lo _ _ HRR.out (by omega) (by omega)).mono ?_; rintro e w' ⟨rfl, rfl⟩)
      go_round
      case rel => exact ⟨j + 1, by omega, by go_num, by rw [hS]; go_num⟩
      case measure => simp [intOf]; omega
    · obtain rfl : j = ns.length := by omega
      rw [hal]
      go_wp2
      go_ret
      exact ⟨rfl, rfl⟩

theorem own_types {w : World} {lo lo' e e' size size' n n' : Nat} {v v' : Value} {xs xs' : List Value} (h1 : w.ownsRow lo e size v n xs) (h2 : w.ownsRow lo' e' size' v' n' xs') (hne : e ≠ e') : v.ownBlock = none ∨ v.ownBlock ≠ v'.ownBlock := by
  rcases h1.2 with ⟨rfl, _⟩ | ⟨g, cap, cur, rfl, hg, hh, _⟩
  · exact .inl rfl
  · right
    intro hc
    rcases h2.2 with ⟨rfl, _⟩ | ⟨g', cap', cur', rfl, hg', hh', _⟩
    · simp [Value.ownBlock] at hc
    · have e0 : g = g' := by simpa [Value.ownBlock] using hc
      subst e0
      rw [hh] at hh'
      simp at hh'
      exact hne hh'.2

set_option maxRecDepth 100000 in
theorem markIntSS_any (v : Value) (us : List Value) (ll : List (List Int)) (lo : Nat) (k : Int) (w : World) (hlo : lo ≤ w.heap.size) (hv : RowsOf w lo v us ll) (hk : 0 ≤ k) (hk2 : k + (ll.map List.length).sum ≤ 1099511627776) :
    Calls Try.prog 25 #[v, .int .i64 k] w fun e w' => e = .returned (.int .i64 (k + (ll.map List.length).sum)) ∧ RowsOf w' lo v us (seqs k (ll.map List.length)) ∧ Below lo w w' := by
  obtain ⟨A, C, g, rfl, hn, hc, hA, hg, _, _⟩ := own_rd hv.1
  unfold maxLen at hc
  have ho := hv.1
  have hin := hv.2.1
  have hap := hv.2.2
  obtain ⟨ns, hns⟩ : ∃ ns : List Nat, ns = ll.map List.length := ⟨_, rfl⟩
  have hnl : ns.length = ll.length := by rw [hns, List.length_map]
  have hng : ∀ i, i < ll.length → ns.getD i 0 = (ll.getD i []).length := fun i hi => by rw [hns]; simp [List.getD, hi]
  rw [← hns] at hk2 ⊢
  have hus := upSum_succ ns
  have hle := upSum_le ns
  have hal := upSum_all ns
  have hgd := seqs_getD ns k
  have hsl := length_seqs ns k
  have h0 := upSum_zero ns
  rw [hnl] at hal hsl
  generalize seqs k ns = Q at *
  generalize ns.sum = T at *
  generalize upSum ns = S at *
  have HIN := Lib.hid hin
  have HAP := Lib.hid hap
  have HUS := Lib.hid hus
  have HLE := Lib.hid hle
  have HGD := Lib.hid hgd
  have HNG := Lib.hid hng
  have HO := Lib.hid ho
  have HSL := Lib.hid hsl
  clear hv hin hus hle hgd hns hng ho hap hsl
  go_enter Try.func25, Try.ntmps25
  go_wp2
  go_loopw [1, 5] (fun q i wr => ∃ j : Nat, j ≤ ll.length ∧ i = .int .i64 j ∧ q = .int .i64 (k + S j) ∧ wr.ownsRow lo 31 1 (.slice A ll.length C) ll.length us ∧ (∀ i, i < j → Ints wr lo (us.getD i undef) (seqI (k + S i) (ns.getD i 0))) ∧ (∀ i, j ≤ i → i < ll.length → Ints wr lo (us.getD i undef) (ll.getD i [])) ∧ Below lo w wr) (fun _ i _ => ll.length - (intOf i).toNat)
  case atStart => exact ⟨0, Nat.zero_le _, rfl, by rw [h0]; simp, HO.out, fun i hi => absurd hi (Nat.not_lt_zero _), fun i _ hi => HIN.out i hi, Below.refl _ _⟩
  case round =>
    obtain ⟨j, hj, rfl, rfl, hown, hdone, htodo, hB⟩ := hrel
    have HOW := Lib.hid hown
    have HD := Lib.hid hdone
    have HT := Lib.hid htodo
    clear hdone htodo
    by_cases hlt : j < ll.length
    · obtain ⟨_, C', g', e', _, _, hA', hg', hcell', _⟩ := own_rd hown
      obtain rfl := hA (by omega)
      obtain ⟨rfl, rfl⟩ : g = g' ∧ C = C' := by
        rw [hA' (by omega)] at e'
        simp only [Value.slice.injEq, Option.some.injEq, Addr.mk.injEq, and_true, true_and] at e'
        exact e'
      have hc1 := hcell' j (by omega)
      have hgl := (hg' (by omega)).2
      have hr := HT.out j (Nat.le_refl _) hlt
      have hS := HUS.out j (by omega)
      have hL := HLE.out (j + 1)
      have hnj := HNG.out j hlt
      have hne := own_types HOW.out hr (by decide)
      obtain ⟨U, hU⟩ : ∃ U : Value, us.getD j undef = U := ⟨_, rfl⟩
      rw [hU] at hc1 hr hne
      obtain ⟨A1, C1, e1⟩ := hr.form
      have HU := Lib.hid hU
      have HNJ := Lib.hid hnj
      have HSS := Lib.hid hS
      have hge := own_block_ge hr
      have HGE := Lib.hid hge
      have HNE := Lib.hid hne
      have hlj : S (j + 1) = S j + (ll.getD j []).length := by rw [hS, hnj]
      generalize ll.getD j [] = L at *
      rw [e1] at hc1
      have HRR := Lib.hid hr
      have HE1 := Lib.hid e1
      clear hown e' hA' hg' hcell' hr hU hnj hS hge hne e1 hA hg h0 hal
      go_wp2_with (go_at_call 61; rw [← HE1.out]; refine (markIntS_any _ L lo _ _ HRR.out (by omega) (by omega)).mono ?_; rintro e w2 ⟨rfl, hi2, hgr, hkr⟩)
      go_roundw
      case rel =>
        refine ⟨j + 1, by omega, by go_num, by rw [hlj]; go_num, World.ownsRow.kept HOW.out hgr HNE.out, fun i hi => ?_, fun i h1 h2 => ?_, hB.trans ((Below.refl lo wr).grown hgr (Nat.le_trans hlo (by have := hB.size; omega)) HGE.out)⟩
        · rcases Nat.lt_succ_iff_lt_or_eq.1 hi with h | rfl
          · exact Ints.kept (HD.out i h) hgr (by have := (HAP.out j i hlt (by omega) (by omega)).kept; rwa [HU.out] at this)
          · rw [HU.out, HNJ.out]; exact hi2
        · exact Ints.kept (HT.out i (by omega) h2) hgr (by have := (HAP.out j i hlt h2 (by omega)).kept; rwa [HU.out] at this)
      case measure => simp [intOf]; omega
    · obtain rfl : j = ll.length := by omega
      rw [hal]
      go_wp2
      go_ret
      exact ⟨rfl, ⟨by rw [HSL.out]; exact hown, fun i hi => by rw [HSL.out] at hi; rw [HGD.out i (by omega)]; exact HD.out i hi, fun i j hi hj => by rw [HSL.out] at hi hj; exact HAP.out i j hi hj⟩, hB⟩

theorem own_one {w : World} {B lo : Nat} (hB : w.heap.size = B) (hl : lo ≤ B) (U : Value) : (w.alloc (.cells #[U] 31)).ownsRow lo 31 1 (.slice (some ⟨B, 0, none⟩) 1 1) 1 [U] := by
  subst hB
  have h := World.ownsRow_lit (base := lo) (e := 31) (size := 1) w #[U] 1 hl (by unfold maxLen; omega) (by simp)
  simpa using h

/-- append of one inner row. -/
theorem wpList_append_row {w : World} {ops : Array Oper} {rest : List Oper} {o : Oper} {a : Act} {Q : Exit → Act → World → Prop} (hgd : o.guard = none) (s x : Operand)
    (ho : o.op = .call { callee := .builtin .append, args := #[s, x], argTypes := #[38, 38] })
    (v U : Value) (us : List Value) (ll : List (List Int)) (L : List Int) (base B : Nat) (hB : w.heap.size = B) (hs : a.eval s = v) (hx : a.eval x = .slice (some ⟨B, 0, none⟩) 1 1)
    (hr : RowsOf w base v us ll) (hu : Ints w base U L) (hap : ∀ i, i < ll.length → Apart (us.getD i undef) U) (hlen : ll.length + 1 ≤ 1000) (hbase : base ≤ w.heap.size)
    (h : ∀ v' w', RowsOf w' base v' (us ++ [U]) (ll ++ [L]) → Below base w w' → wpList Try.prog ops Q rest (a.put o.dst v') w') :
    wpList Try.prog ops Q (o :: rest) a (w.alloc (.cells #[U] 31)) := by
  obtain ⟨A1, C1, e1⟩ := hu.form
  have hul : us.length = ll.length := by have := hr.1.1; omega
  refine wpList_append_rows hgd s x _ ho base base 31 (.slice none 0 0) 1 24 Try.underlying38 (by kernel_rfl) rfl (by decide) v _ ll.length 1 us [U] hs hx (own_keep hr.1 al1) (own_one hB (by omega) U) (fun u hu' => by rw [List.mem_singleton.1 hu', e1]; rfl) (by unfold maxLen; omega) (by omega) (by rw [World.size_alloc]; omega) ?_
  intro v' w' h2 h3 h4 _
  have hk : ∀ (V : Value) (l : List Int), Ints w base V l → Ints w' base V l := fun V l hV => by
    have hV1 : Ints (w.alloc (.cells #[U] 31)) base V l := hV.keep al1
    have hr1 : (w.alloc (.cells #[U] 31)).ownsRow base 31 1 v ll.length us := own_keep hr.1 al1
    exact Ints.kept hV1 h3 (own_types hV1 hr1 (by decide))
  have hg : ∀ i, i < us.length → (us ++ [U]).getD i undef = us.getD i undef := fun i hi => by simp [List.getD, List.getElem?_append_left hi]
  have hgl : (us ++ [U]).getD us.length undef = U := by simp [List.getD]
  refine h v' w' ⟨by rw [List.length_append]; exact h2, fun i hi => ?_, fun i j hi hj hij => ?_⟩ ((al1.mono hbase).trans h4)
  · rw [List.length_append] at hi
    by_cases e : i < ll.length
    · rw [hg i (by omega), show (ll ++ [L]).getD i [] = ll.getD i [] by simp [List.getD, List.getElem?_append_left e]]
      exact hk _ _ (hr.2.1 i e)
    · obtain rfl : i = ll.length := by simp at hi; omega
      rw [← hul, hgl, show (ll ++ [L]).getD us.length [] = L by rw [hul]; simp [List.getD]]
      exact hk _ _ hu
  · rw [List.length_append] at hi hj
    simp at hi hj
    by_cases ei : i < ll.length
    · rw [hg i (by omega)]
      by_cases ej : j < ll.length
      · rw [hg j (by omega)]
        exact hr.2.2 i j ei ej hij
      · obtain rfl : j = ll.length := by omega
        rw [← hul, hgl]
        exact hap i ei
    · obtain rfl : i = ll.length := by omega
      have ej : j < ll.length := by omega
      rw [← hul, hgl, hg j (by omega)]
      exact fun k hk1 hk2 => hap j ej k hk2 hk1

end Go.Proofs.Ytiemhadpepbcjaa
