/-
  Walks: the reference's ownersOf, OwnersOf. Condition: what the arguments name stands in memory.
-/
import Derived.Test.YtelhemhbgpfokaaSpec16
import Derived.Test.YtelhemhbgpfokaaDwA
import Derived.Test.YtelhemhbgpfokaaImpl9
import Derived.Test.YtelhemhbgpfokaaDwD
namespace Go.Proofs.Ytelhemhbgpfokaa
open Go.RowKit
set_option linter.unusedVariables false

/-- Who owns the names that a block reads or binds; -2 where it does neither. -/
def ownAt (p : Pr) (c x : Int) : Int := if (p.bk c).readB x || (p.bk c).boundB x then ownerF p c x else -2
def ownTo (p : Pr) (c : Int) : Nat → List Int
  | 0 => []
  | m + 1 => ownTo p c m ++ [ownAt p c m]
def ownRows (p : Pr) : Nat → List (List Int)
  | 0 => []
  | c + 1 => ownRows p c ++ [ownTo p c 8]
def rOwners (p : Pr) : List (List Int) := if validP p then ownRows p p.length else []
theorem ownTo_len (p : Pr) (c : Int) : ∀ m, (ownTo p c m).length = m
  | 0 => rfl
  | m + 1 => by rw [ownTo, List.length_append, ownTo_len p c m]; rfl
theorem ownRows_len (p : Pr) : ∀ m, (ownRows p m).length = m
  | 0 => rfl
  | m + 1 => by rw [ownRows, List.length_append, ownRows_len p m]; rfl
theorem ownAt_eq {p : Pr} {c x : Int} (h0 : 0 ≤ x) (h1 : x ≤ 7) : ownAt p c x = if hasF (readF p c ++ boundF p c) x then ownerF p c x else -2 := by
  have e : ∀ l : List Int, hasF l x = l.contains x := fun _ => rfl
  rw [e, List.contains_append, ← e, ← e]
  unfold readF boundF ownAt
  rw [hasF_nms _ x h0 h1, hasF_nms _ x h0 h1]
theorem RowsOf.zero {w : World} {B lo : Nat} (hB : w.heap.size = B) (hl : lo ≤ B) : RowsOf (w.alloc (.cells #[] 31)) lo (.slice (some ⟨B, 0, none⟩) 0 0) [] [] := by
  subst hB
  refine ⟨?_, fun i hi => absurd hi (Nat.not_lt_zero _), fun i j hi => absurd hi (Nat.not_lt_zero _)⟩
  have h := World.ownsRow_lit (base := lo) (e := 31) (size := 1) w #[] 0 hl (by unfold maxLen; omega) (by simp)
  simpa using h
theorem RowsOf.form {w : World} {lo : Nat} {v : Value} {us : List Value} {ll : List (List Int)} (h : RowsOf w lo v us ll) : ∃ A C, v = .slice A ll.length C := by
  obtain ⟨A, C, _, hv, _⟩ := own_rd h.1
  exact ⟨A, C, hv⟩
theorem RowsOf.nil (w : World) (lo : Nat) : RowsOf w lo (.slice none 0 0) [] [] :=
  ⟨World.ownsRow_nil w lo _ _, fun i hi => absurd hi (Nat.not_lt_zero _), fun i j hi => absurd hi (Nat.not_lt_zero _)⟩

end Go.Proofs.Ytelhemhbgpfokaa

namespace Go.Proofs.Ytelhemhbgpfokaa
open Go.RowKit
set_option linter.unusedVariables false

set_option maxRecDepth 100000 in
set_option maxHeartbeats 8000000 in
theorem S_ownersOf (sl : Value) (p : Pr) (lo : Nat) (w : World) (hv : Blks w lo sl p) (hs : shape p = true) :
    Calls Try.prog 44 #[.agg #[sl]] w fun e w' => ∃ v' us, e = .returned v' ∧ RowsOf w' w.heap.size v' us (ownRows p p.length) ∧ Below w.heap.size w w' := by
  have hl := shape_len hs
  obtain ⟨g, C, rfl, hg⟩ := hv.formS (by omega)
  have HV := Lib.hid hv
  have HSH := Lib.hid hs
  clear hv hs
  go_enter Try.func44, Try.ntmps44
  go_wp2
  obtain ⟨W0, hW0⟩ : ∃ W0 : World, W0 = w.alloc (.cells #[.slice (some ⟨g, 0, none⟩) p.length C] 25) := ⟨_, rfl⟩
  have c0 : W0.cell? ⟨w.heap.size, 0, none⟩ = some (.slice (some ⟨g, 0, none⟩) p.length C) := by rw [hW0]; simp [go_sem]
  have hb0 : Below w.heap.size w W0 := by rw [hW0]; exact al1
  have z0 : W0.heap.size = w.heap.size + 1 := by rw [hW0]; simp
  have HZ := Lib.hid z0
  have hz0 : w.heap.size ≤ W0.heap.size := by omega
  have HB0 := Lib.hid hb0
  rw [← hW0]
  clear hW0 hb0 z0
  go_loopw [3, 4] (fun o i wi => ∃ (k : Nat) (us : List Value), k ≤ p.length ∧ i = .int .i64 k ∧ RowsOf wi W0.heap.size o us (ownRows p k) ∧ Below W0.heap.size W0 wi) (fun _ i _ => p.length - (intOf i).toNat)
  case atStart => exact ⟨0, [], Nat.zero_le _, rfl, RowsOf.zero HZ.out (Nat.le_of_eq HZ.out), al1⟩
  case round =>
    obtain ⟨wo, rfl⟩ : ∃ wo : World, wo = wr := ⟨_, rfl⟩
    obtain ⟨k, us, hk, rfl, hrow, hB⟩ := hrel
    have c1 := cell_later hB c0
    have HV1 := Lib.hid (HV.out.keep (bthen HB0.out hB))
    have HROW := Lib.hid hrow
    have hzo := hB.size
    clear hrow
    by_cases hlt : k < p.length
    · have hlr : (readF p k).length ≤ 8 := nms_len _
      have hlb : (boundF p k).length ≤ 8 := nms_len _
      have hat := fun (x : Nat) (h : x < 8) => ownAt_eq (p := p) (c := (k : Int)) (x := (x : Int)) (by omega) (by omega)
      have hk0 : (0 : Int) ≤ (k : Int) := by omega
      have hk1 : (k : Int) < (p.length : Int) := by omega
      have HAT := Lib.hid hat
      clear hat
      go_wp2
      obtain ⟨W1, hW1⟩ : ∃ W1 : World, W1 = wo.alloc (.cells #[] 3) := ⟨_, rfl⟩
      have hx : Below wo.heap.size wo W1 := by rw [hW1]; exact al1
      have li : Ints W1 wo.heap.size (.slice (some ⟨wo.heap.size, 0, none⟩) 0 0) [] := by rw [hW1]; exact Ints.zero wo _ (Nat.le_refl _)
      have c2 := cell_later hx c1
      have HV2 := Lib.hid (HV1.out.keep hx)
      have hz1 := hx.size
      rw [← hW1]
      have hcur : Below W1.heap.size W1 W1.drew := (below0 _).drew
      have HX := Lib.hid hx
      have HLI := Lib.hid li
      clear hW1 hx li
      go_region_held3 (fun w' => w'.cell? ⟨w.heap.size, 0, none⟩ = some (.slice (some ⟨g, 0, none⟩) p.length C))
        (first | go_keep | exact cell_later hcur c2)
        (first
          | (go_at_call 85
             refine (S_read _ p lo k _ ⟨_, rfl, HV2.out.keep hcur⟩ hk0 hk1 (by omega) (Nat.le_trans (shape_body HSH.out k hk0 hk1) (by omega))).mono ?_
             rintro e wa ⟨vr, rfl, ir, br⟩
             have ir := ir.lo_ hcur.size
             have hcur := bthen hcur br)
          | (go_at_call 86
             refine (S_bound _ p lo k _ ⟨_, rfl, HV2.out.keep hcur⟩ hk0 hk1 (by omega) (Nat.le_trans (shape_body HSH.out k hk0 hk1) (by omega)) (Nat.le_trans (shape_params HSH.out k hk0 hk1).1 (by omega))).mono ?_
             rintro e wb ⟨vb, rfl, ib, bb⟩
             have ib := ib.lo_ hcur.size
             have ir := ir.keep bb
             have hcur := bthen hcur bb)
          | (refine step_append_ints rfl _ _ rfl vr vb _ _ W1.heap.size _ rfl rfl ir ib (by omega) hcur.size ?_
             intro v1 w1 i1 g1 b1 f1
             have hcur := hcur.trans b1))
      obtain ⟨LS, hLS⟩ : ∃ LS : List Int, LS = readF p k ++ boundF p k := ⟨_, rfl⟩
      have hat := HAT.out
      rw [← hLS] at i1 hat
      have HAT2 := Lib.hid hat
      obtain ⟨vA, vC, rfl⟩ := i1.form
      have c3 := cell_later hcur c2
      have hBw := bthen HX.out hcur
      have HV3 := Lib.hid (HV2.out.keep hcur)
      have hap0 : Apart (.slice (some ⟨wo.heap.size, 0, none⟩) 0 0) (.slice vA LS.length vC) := Apart.mk_ HLI.out i1 (Nat.le_refl _)
      have HI := Lib.hid i1
      have HLI2 := Lib.hid (HLI.out.keep hcur)
      clear hat hLS i1
      go_wp2
      go_loopw [5, 7] (fun r i wi => ∃ m : Nat, m ≤ 8 ∧ i = .int .i64 m ∧ Ints wi wo.heap.size r (ownTo p k m) ∧ Apart r (.slice vA LS.length vC) ∧ Ints wi W1.heap.size (.slice vA LS.length vC) LS ∧ Below wo.heap.size wo wi) (fun _ i _ => 8 - (intOf i).toNat)
      case atStart => exact ⟨0, by omega, rfl, HLI2.out, hap0, HI.out, hBw⟩
      case round =>
        obtain ⟨m, hm, rfl, hr, hap, hi, hBi⟩ := hrel
        have c4 := cell_later hBi c1
        have HV4 := Lib.hid (HV1.out.keep hBi)
        have hzi := hBi.size
        by_cases hlm : m < 8
        · have hle : (m : Int) ≤ 7 := by omega
          have hat := HAT2.out m hlm
          cases hh : hasF LS m
          · rw [hh] at hat
            have hat : ownAt p k m = -2 := hat
            have HE := Lib.hid hat
            clear hat
            go_wp2_with (first
              | (go_at_call 83; refine (S_has _ LS _ m _ hi).mono ?_; rintro e w' ⟨rfl, rfl⟩; rw [hh])
              | (at_builtin; refine wpList_append_ints rfl _ _ rfl _ _ _ [-2] wo.heap.size _ rfl rfl (hr.keep al1) (Ints.one' _ _ (by first | rfl | simp only [World.size_alloc]) _ _ (Nat.le_refl _)) (by show _ + 1 ≤ _; rw [ownTo_len]; omega) (by simp only [World.size_alloc]; omega) ?_; intro v9 w9 hown9 hgrow9 hbel9 hfrom9))
            have hi9 := (hi.keep al1).kept hgrow9 hap.kept
            have hap9 := hap.from hfrom9 (fun r hr => own_block_lt (hi.keep al1) r hr)
            go_roundw
            case rel => exact ⟨m + 1, by omega, by go_num, by rw [ownTo, HE.out]; exact hown9, hap9, hi9, (bal hBi _).trans hbel9⟩
            case measure => simp [intOf]; omega
          · rw [hh] at hat
            have hat : ownAt p k m = ownerF p k m := hat
            have HE := Lib.hid hat
            clear hat
            go_wp2_with fail
            refine (S_has _ LS _ m _ hi).mono ?_
            rintro e w' ⟨rfl, rfl⟩
            rw [hh]
            go_wp2_with fail
            refine (S_owner _ p lo k m _ HV4.out HSH.out hk0 hk1 (by omega) (by omega)).mono ?_
            rintro e w7 ⟨rfl, hb7⟩
            have hr := hr.keep hb7
            have hi := hi.keep hb7
            have hBi := bthen hBi hb7
            have hzi := hBi.size
            go_wp2_with (at_builtin; refine wpList_append_ints rfl _ _ rfl _ _ _ [(ownerF p k m)] wo.heap.size _ rfl rfl (hr.keep al1) (Ints.one' _ _ (by first | rfl | simp only [World.size_alloc]) _ _ (Nat.le_refl _)) (by show _ + 1 ≤ _; rw [ownTo_len]; omega) (by simp only [World.size_alloc]; omega) ?_; intro v9 w9 hown9 hgrow9 hbel9 hfrom9)
            have hi9 := (hi.keep al1).kept hgrow9 hap.kept
            have hap9 := hap.from hfrom9 (fun r hr => own_block_lt (hi.keep al1) r hr)
            go_roundw
            case rel => exact ⟨m + 1, by omega, by go_num, by rw [ownTo, HE.out]; exact hown9, hap9, hi9, (bal hBi _).trans hbel9⟩
            case measure => simp [intOf]; omega
        · obtain rfl : m = 8 := by omega
          have hle : ¬ (((8 : Nat) : Int) ≤ 7) := by omega
          have hrl := ownTo_len p k 8
          have hrows := HROW.out.keep hBi
          have hapr : ∀ i, i < (ownRows p k).length → Apart (us.getD i undef) _ := fun i hi' => Apart.mk_ (HROW.out.2.1 i hi') hr (Nat.le_refl _)
          obtain ⟨rA, rC, rfl⟩ := hr.form
          obtain ⟨oA, oC, rfl⟩ := HROW.out.form
          clear hrl
          go_wp2_with (at_builtin; go_loud (refine wpList_append_row rfl _ _ rfl (.slice oA (ownRows p k).length oC) (.slice rA (ownTo p k 8).length rC) us (ownRows p k) (ownTo p k 8) W0.heap.size _ rfl rfl rfl hrows (hr.lo_ hzo) hapr (by rw [ownRows_len]; omega) (by omega) ?_); intro v9 w9 hrow9 hbel9)
          go_roundw
          case rel => exact ⟨k + 1, _, by omega, by go_num, hrow9, (bthen hB hBi).trans hbel9⟩
          case measure => simp [intOf]; omega
    · obtain rfl : k = p.length := by omega
      go_wp2
      go_ret
      exact ⟨_, us, rfl, HROW.out.lo_ hz0, HB0.out.trans (hB.mono hz0)⟩

set_option maxRecDepth 100000 in
theorem S_OwnersOf (v : Value) (p : Pr) (lo : Nat) (w : World) (hv : Prog w lo v p) :
    Calls Try.prog 13 #[v] w fun e w' => ∃ v' us, e = .returned v' ∧ RowsOf w' w.heap.size v' us (rOwners p) ∧ Below w.heap.size w w' := by
  obtain ⟨sl, rfl, hv⟩ := hv
  have HV := Lib.hid hv
  obtain ⟨A, C, rfl⟩ := hv.form
  clear hv
  cases hp : validP p
  · have HP := Lib.hid hp
    have hR : rOwners p = [] := by unfold rOwners; rw [hp]; rfl
    rw [hR]
    clear hp hR
    go_enter Try.func13, Try.ntmps13
    go_wp2_with (go_at_call 43; refine (S_validProgram _ p lo _ (HV.out.keep al1)).mono ?_; rintro e w1 ⟨rfl, hb1'⟩; rw [HP.out]; have cb1 := boxAt1 hb1'; have hB1 := bthen (al1 (w := w)) hb1'; have hz1 := hB1.size; clear hb1')
    go_ret
    exact ⟨_, [], rfl, RowsOf.nil _ _, hB1⟩
  · have HP := Lib.hid hp
    have hR : rOwners p = ownRows p p.length := by unfold rOwners; rw [hp]; rfl
    rw [hR]
    clear hp hR
    go_enter Try.func13, Try.ntmps13
    go_wp2_with (first
      | (go_at_call 43; refine (S_validProgram _ p lo _ (HV.out.keep al1)).mono ?_; rintro e w1 ⟨rfl, hb1'⟩; rw [HP.out]; have cb1 := boxAt1 hb1'; have hB1 := bthen (al1 (w := w)) hb1'; have hz1 := hB1.size; clear hb1')
      | (go_at_call 44; refine (S_ownersOf _ p lo _ (HV.out.keep hB1) (validP_shape HP.out)).mono ?_; rintro e w2 ⟨v2, us, rfl, hr2, hb2⟩; have hB2 := bthen hB1 hb2))
    go_ret
    exact ⟨_, us, rfl, hr2.lo_ (by omega), hB2⟩

end Go.Proofs.Ytelhemhbgpfokaa

namespace Go.Proofs.Ytelhemhbgpfokaa
open Go.RowKit
set_option linter.unusedVariables false

set_option maxRecDepth 100000 in
theorem L_equalLists (va vb : Value) (ua ub : List Value) (la lb : List (List Int)) (l1 l2 : Nat) (w : World) (ha : RowsOf w l1 va ua la) (hb : RowsOf w l2 vb ub lb) :
    Calls Try.prog 12 #[va, vb] w fun e w' => e = .returned (.bool (la == lb)) ∧ Below w.heap.size w w' := by
  obtain ⟨A, C, g, rfl, hn, hc, hA, hg, hcell, hf⟩ := own_rd ha.1
  obtain ⟨A', C', g', rfl, hn', hc', hA', hg', hcell', hf'⟩ := own_rd hb.1
  have hia := ha.2.1
  have hib := hb.2.1
  have HIA := Lib.hid hia
  have HIB := Lib.hid hib
  clear ha hb hf hf' hia hib
  unfold maxLen at hc hc'
  by_cases hl : la.length = lb.length
  · have H := Lib.hid hl
    have hb0 : ((la.length : Int) != (lb.length : Int)) = false := by rw [hl]; simp
    have hn1 : la.length ≤ lb.length := by omega
    clear hl
    go_enter Try.func12, Try.ntmps12
    go_wp2
    go_loopw [5] (fun i wr => ∃ k : Nat, k ≤ la.length ∧ i = .int .i64 k ∧ Below w.heap.size w wr ∧ ∀ j, j < k → la.getD j [] = lb.getD j []) (fun i _ => la.length - (intOf i).toNat)
    case atStart => exact ⟨0, Nat.zero_le _, rfl, Below.refl _ _, fun j hj => absurd hj (Nat.not_lt_zero _)⟩
    case round =>
      obtain ⟨k, hk, rfl, hB, hp⟩ := hrel
      have HP := Lib.hid hp
      clear hp
      by_cases hlt : k < la.length
      · have c1 := hcell k (by omega)
        have d1 := hcell' k (by omega)
        have hp1 := HIA.out k hlt
        have hp2 := HIB.out k (by omega)
        have hgl := (hg (by omega)).2
        have hgl' := (hg' (by omega)).2
        rw [← hB.cell (p := ⟨g, _, none⟩) hgl] at c1
        rw [← hB.cell (p := ⟨g', _, none⟩) hgl'] at d1
        obtain rfl := hA (by omega)
        obtain rfl := hA' (by omega)
        clear hA hA' hcell hcell' hg hg'
        generalize hx : la.getD k [] = x at hp1
        generalize hy : lb.getD k [] = y at hp2
        have HX := Lib.hid hx
        have HY := Lib.hid hy
        obtain ⟨A1, C1, e1⟩ := hp1.form
        obtain ⟨A2, C2, e2⟩ := hp2.form
        rw [e1] at c1 hp1
        rw [e2] at d1 hp2
        clear hx hy e1 e2
        have hi1 : (k : Int) < (la.length : Int) := by omega
        have hi2 : (k : Int) < (lb.length : Int) := by omega
        go_wp2
        go_still_tail 8, (by kernel_rfl)
        change wpList _ _ _ _ _ wr.drew
        have hB1 : Below w.heap.size w wr.drew := hB.drew
        generalize wr.drew = w2 at hB1
        clear c1 d1 hB
        by_cases hxy : x = y
        · have HE := Lib.hid hxy
          have hbq : (x == y) = true := by simp [hxy]
          clear hxy
          go_wp2_with (go_at_call 42; refine (L_equalInts _ _ x y l1 l2 _ (hp1.keep hB1) (hp2.keep hB1)).mono ?_; rintro e w3 ⟨rfl, hb3⟩)
          go_roundw
          case rel => exact ⟨k + 1, by omega, by go_num, hB1.trans (hb3.mono hB1.size), fun j hj => by
            rcases Nat.lt_succ_iff_lt_or_eq.1 hj with h | rfl
            · exact HP.out j h
            · rw [HX.out, HY.out, HE.out]⟩
          case measure => simp [intOf]; omega
        · have HE := Lib.hid hxy
          have hbq : (x == y) = false := by simp [hxy]
          clear hxy
          go_wp2_with (go_at_call 42; refine (L_equalInts _ _ x y l1 l2 _ (hp1.keep hB1) (hp2.keep hB1)).mono ?_; rintro e w3 ⟨rfl, hb3⟩)
          go_ret
          refine ⟨ret_bool ?_, hB1.trans (hb3.mono hB1.size)⟩
          rw [eq_comm, beq_eq_false_iff_ne]
          rintro rfl
          exact HE.out (by rw [← HX.out, ← HY.out])
      · go_wp2
        go_ret
        refine ⟨ret_bool ?_, hB⟩
        obtain rfl : k = la.length := by omega
        rw [eq_comm, beq_iff_eq]
        refine List.ext_getElem H.out fun i h1 h2 => ?_
        have := HP.out i h1
        simpa [List.getD, h1, h2] using this
  · have hb0 : ((la.length : Int) != (lb.length : Int)) = true := by simp; omega
    go_enter Try.func12, Try.ntmps12
    go_wp2
    go_ret
    refine ⟨ret_bool ?_, Below.refl _ _⟩
    rw [eq_comm, beq_eq_false_iff_ne]
    intro h
    exact absurd (congrArg _ h) hl

/-- append of one inner row. -/
theorem wpList_append_rowT (T : TypeId) (hT : Try.prog.underlying T = some (.slice 31)) {w : World} {ops : Array Oper} {rest : List Oper} {o : Oper} {a : Act} {Q : Exit → Act → World → Prop} (hgd : o.guard = none) (s x : Operand)
    (ho : o.op = .call { callee := .builtin .append, args := #[s, x], argTypes := #[T, T] })
    (v U : Value) (us : List Value) (ll : List (List Int)) (L : List Int) (base B : Nat) (hB : w.heap.size = B) (hs : a.eval s = v) (hx : a.eval x = .slice (some ⟨B, 0, none⟩) 1 1)
    (hr : RowsOf w base v us ll) (hu : Ints w base U L) (hap : ∀ i, i < ll.length → Apart (us.getD i undef) U) (hlen : ll.length + 1 ≤ 1000) (hbase : base ≤ w.heap.size)
    (h : ∀ v' w', RowsOf w' base v' (us ++ [U]) (ll ++ [L]) → Below base w w' → wpList Try.prog ops Q rest (a.put o.dst v') w') :
    wpList Try.prog ops Q (o :: rest) a (w.alloc (.cells #[U] 31)) := by
  obtain ⟨A1, C1, e1⟩ := hu.form
  have hul : us.length = ll.length := by have := hr.1.1; omega
  refine wpList_append_rows hgd s x _ ho base base 31 (.slice none 0 0) 1 24 hT (by kernel_rfl) rfl (by decide) v _ ll.length 1 us [U] hs hx (own_keep hr.1 al1) (own_one hB (by omega) U) (fun u hu' => by rw [List.mem_singleton.1 hu', e1]; rfl) (by unfold maxLen; omega) (by omega) (by rw [World.size_alloc]; omega) ?_
  intro v' w' h2 h3 h4 _
  have hk : ∀ (V : Value) (l : List Int), Ints w base V l → Ints w' base V l := fun V l hV => by
    have hV1 : Ints (w.alloc (.cells #[U] 31)) base V l := hV.keep al1
    have hr1 : (w.alloc (.cells #[U] 31)).ownsRow base 31 1 v ll.length us := own_keep hr.1 al1
    exact Ints.kept hV1 h3 (own_types hV1 hr1 (by decide))
  have hg : ∀ i, i < us.length → (us ++ [U]).getD i undef = us.getD i undef := fun i hi => by simp [List.getD, List.getElem?_append_left hi]
  have hgl : (us ++ [U]).getD us.length undef = U := by simp [List.getD]
  refine h v' w' ⟨by rw [List.length_append]; exact h2, fun i hi => ?_, fun i j hi hj hij => ?_⟩ ((al1.mono hbase).trans h4)
  · rw [List.length_append] at hi
    by_cases e : i < ll.length
    · rw [hg i (by omega), show (ll ++ [L]).getD i [] = ll.getD i [] by simp [List.getD, List.getElem?_append_left e]]
      exact hk _ _ (hr.2.1 i e)
    · obtain rfl : i = ll.length := by simp at hi; omega
      rw [← hul, hgl, show (ll ++ [L]).getD us.length [] = L by rw [hul]; simp [List.getD]]
      exact hk _ _ hu
  · rw [List.length_append] at hi hj
    simp at hi hj
    by_cases ei : i < ll.length
    · rw [hg i (by omega)]
      by_cases ej : j < ll.length
      · rw [hg j (by omega)]
        exact hr.2.2 i j ei ej hij
      · obtain rfl : j = ll.length := by omega
        rw [← hul, hgl]
        exact hap i ei
    · obtain rfl : i = ll.length := by omega
      have ej : j < ll.length := by omega
      rw [← hul, hgl, hg j (by omega)]
      exact fun k hk1 hk2 => hap j ej k hk2 hk1


theorem RowsOf.only {w w' : World} {lo hi b : Nat} {v : Value} {us : List Value} {ll : List (List Int)} (h : RowsOf w b v us ll) (ho : Only lo hi w w') (hb : hi ≤ b) : RowsOf w' b v us ll :=
  ⟨own_only h.1 ho fun r hr => .inr (Nat.le_trans hb (own_block_ge h.1 r hr)), fun i hi => own_only (h.2.1 i hi) ho fun r hr => .inr (Nat.le_trans hb (own_block_ge (h.2.1 i hi) r hr)), h.2.2⟩
theorem ownRows_sum (p : Pr) : ∀ n, ((ownRows p n).map List.length).sum = 8 * n
  | 0 => rfl
  | n + 1 => by rw [ownRows, List.map_append, List.sum_append, ownRows_sum p n]; simp [ownTo_len]; omega
theorem rOwners_sum (p : Pr) : ((rOwners p).map List.length).sum ≤ 56 := by
  unfold rOwners
  cases h : validP p
  · simp
  · have := shape_len (validP_shape h)
    simp only [if_true]
    rw [ownRows_sum]
    omega
theorem ownTo_succ (p : Pr) (c : Int) (m : Nat) (l : List Int) (r : Nat) (hr : r = 8 - m) (hm : m < 8) (y : Int) (hy : ownAt p c m = y) : (ownTo p c m ++ List.replicate r 0).set m y = ownTo p c (m + 1) ++ List.replicate (8 - (m + 1)) 0 := by
  subst hy hr
  rw [List.set_append_right _ _ (by rw [ownTo_len]; exact Nat.le_refl _), ownTo_len, Nat.sub_self, show 8 - m = (8 - (m + 1)) + 1 by omega, List.replicate_succ, List.set_cons_zero, ownTo, List.append_assoc]
  rfl
theorem ownAt_if (p : Pr) (k : Nat) (m : Nat) : ownAt p k m = if (p.bk k).readB m || (p.bk k).boundB m then ownerF p k m else -2 := rfl
theorem ints_made (w : World) (n : Nat) (hn : n ≤ 1000) : Ints (w.alloc (.cells (madeCells #[.int .i64 0] n) 3)) w.heap.size (.slice (some ⟨w.heap.size, 0, none⟩) n n) (List.replicate n 0) := by
  have h := ints_of_row (w := w.alloc (.cells (madeCells #[.int .i64 0] n) 3)) (lo := w.heap.size) (b := w.heap.size) (l := List.replicate n 0) (f := fun _ => .int .i64 0) (by rw [List.length_replicate]; exact World.rowIs_made w (.int .i64 0) n 3) (Nat.le_refl _) (by rw [List.length_replicate]; unfold maxLen; omega) (fun j hj => by rw [List.length_replicate] at hj; simp [List.getD, hj])
  rwa [List.length_replicate] at h

theorem owners_valid {p : Pr} (h : (rOwners p).length ≠ 0) : validP p = true := by
  unfold rOwners at h
  cases hv : validP p
  · rw [hv] at h; exact absurd rfl h
  · rfl
theorem owners_len {p : Pr} (h : validP p = true) : (rOwners p).length = p.length := by unfold rOwners; rw [if_pos h, ownRows_len]
theorem ownRows_getD (p : Pr) : ∀ n k : Nat, k < n → (ownRows p n).getD k [] = ownTo p k 8
  | 0, _, h => absurd h (Nat.not_lt_zero _)
  | n + 1, k, h => by
    rw [ownRows, List.getD_eq_getElem?_getD]
    by_cases e : k < n
    · rw [List.getElem?_append_left (by rw [ownRows_len]; exact e), ← List.getD_eq_getElem?_getD, ownRows_getD p n k e]
    · obtain rfl : k = n := by omega
      rw [List.getElem?_append_right (by rw [ownRows_len]; exact Nat.le_refl _), ownRows_len, Nat.sub_self]
      rfl
theorem ownTo_getD (p : Pr) (c : Int) : ∀ n k : Nat, k < n → (ownTo p c n).getD k 0 = ownAt p c k
  | 0, _, h => absurd h (Nat.not_lt_zero _)
  | n + 1, k, h => by
    rw [ownTo, List.getD_eq_getElem?_getD]
    by_cases e : k < n
    · rw [List.getElem?_append_left (by rw [ownTo_len]; exact e), ← List.getD_eq_getElem?_getD, ownTo_getD p c n k e]
    · obtain rfl : k = n := by omega
      rw [List.getElem?_append_right (by rw [ownTo_len]; exact Nat.le_refl _), ownTo_len, Nat.sub_self]
      rfl
theorem owners_row {p : Pr} (h : validP p = true) (k : Nat) (hk : k < p.length) : (rOwners p).getD k [] = ownTo p k 8 := by unfold rOwners; rw [if_pos h, ownRows_getD p _ k hk]
theorem owners_law {p : Pr} (hv : validP p = true) (k m : Nat) (hk : k < p.length) (hm : m < 8) : ownAt p k m = if hasF (rRead p k) m || hasF (rBound p k) m then rOwner p k m else -2 := by
  have h1 : shapeAt p k = true := shapeAt_iff.2 ⟨validP_shape hv, by omega, by omega⟩
  have h2 : (validB p k && isNm (m : Int)) = true := by rw [validB_iff.2 ⟨hv, by omega, by omega⟩, isNm_iff.2 ⟨by omega, by omega⟩]; rfl
  unfold rRead rBound rOwner
  rw [if_pos h1, if_pos h1, if_pos h2]
  unfold readF boundF ownAt
  rw [hasF_nms _ _ (by omega) (by omega), hasF_nms _ _ (by omega) (by omega)]

set_option maxRecDepth 100000 in
set_option maxHeartbeats 1000000 in
theorem I_ownersOf (sl : Value) (p : Pr) (lo : Nat) (w : World) (hv : Blks w lo sl p) (hs : shape p = true) :
    Calls Try.prog 41 #[.agg #[sl]] w fun e w' => ∃ v' us, e = .returned v' ∧ RowsOf w' w.heap.size v' us (ownRows p p.length) ∧ Below w.heap.size w w' := by
  have hl := shape_len hs
  have HV := Lib.hid hv
  have HSH := Lib.hid hs
  obtain ⟨A, C, rfl⟩ := hv.form
  clear hv hs
  have hmk : ∀ W : World, (Instr.makeSlice 31 (.int .i64 8) (.int .i64 8)).run Try.prog W = .ok (.slice (some ⟨W.heap.size, 0, none⟩) 8 8) (W.alloc (.cells (madeCells #[.int .i64 0] 8) 3)) :=
    fun W => run_make_row' (P := Try.prog) 31 3 (.int .i64 0) 8 Try.underlying31 Try.info3 rfl .i64 .i64 8 (by omega) (by omega) W
  go_enter Try.func41, Try.ntmps41
  go_wp2_with fail
  refine (I_scopesOf _ p lo _ (HV.out.keep al1) HSH.out).mono ?_
  rintro e w5 ⟨A', Bs, rfl, hBs, hrow, hsc, hb5⟩
  have hB5 := bthen (al1 (w := w)) hb5
  have hz5 := hB5.size
  have HROW := Lib.hid hrow
  have HSC := Lib.hid hsc
  clear hrow hsc hb5
  go_wp2
  go_loopw [3, 11] (fun o v wr => ∃ (k : Nat) (us : List Value), k ≤ p.length ∧ v = .int .i64 k ∧ RowsOf wr w5.heap.size o us (ownRows p k) ∧ Below w5.heap.size w5 wr) (fun _ v _ => p.length - (intOf v).toNat)
  case atStart => exact ⟨0, [], Nat.zero_le _, rfl, RowsOf.nil _ _, Below.refl _ _⟩
  case round =>
    obtain ⟨wo, rfl⟩ : ∃ wo : World, wo = wr := ⟨_, rfl⟩
    obtain ⟨k, us, hk, rfl, hrowo, hB⟩ := hrel
    have hsz := hB.size
    obtain ⟨oA, oC, rfl⟩ := hrowo.form
    have HO := Lib.hid hrowo
    clear hrowo
    by_cases hlt : k < p.length
    · have hrow := World.rowIs.of_block HROW.out (hB.block Bs (World.rowIs.lt HROW.out))
      have cr := hrow.cell (i := k) hlt
      have hgr := World.rowIs.lt hrow
      have HSK := Lib.hid (HSC.out.keep hB)
      have hgk := World.rowIs.lt (HSK.out k hlt).2
      have hmw := hmk wo
      have hi0 := ints_made wo 8 (by omega)
      have hbm : Below wo.heap.size wo (wo.alloc (.cells (madeCells #[.int .i64 0] 8) 3)) := al1
      clear hrow hmk
      go_wp2
      clear hmw
      generalize wo.alloc (.cells (madeCells #[.int .i64 0] 8) 3) = W1 at *
      go_loopw [18] (fun v wi => ∃ m : Nat, m ≤ 8 ∧ v = .int .i64 m ∧ Ints wi wo.heap.size (.slice (some ⟨wo.heap.size, 0, none⟩) 8 8) (ownTo p k m ++ List.replicate (8 - m) 0) ∧ Below wo.heap.size wo wi) (fun v _ => 8 - (intOf v).toNat)
      case atStart => exact ⟨0, by omega, rfl, hi0, hbm⟩
      case round =>
        clear hi0 hbm
        obtain ⟨m, hm, rfl, hi, hBi⟩ := hrel
        by_cases hlm : m < 8
        · have hlen : (ownTo p k m ++ List.replicate (8 - m) 0).length = 8 := by rw [List.length_append, ownTo_len, List.length_replicate]; omega
          obtain ⟨_, _, g1, e1, _, _, hA1, hg1, hcell, hf⟩ := hi.rd
          rw [hlen] at e1 hA1 hg1 hcell hf
          have e2 := hA1 (by omega)
          subst e2
          simp only [Value.slice.injEq, Option.some.injEq, Addr.mk.injEq, and_true, true_and] at e1
          obtain ⟨rfl, rfl⟩ := e1
          have c0 := hcell m hlm
          have f0 := hf (by omega) m
          have hgl := (hg1 (by omega)).2
          have hsc := HSK.out.keep hBi
          obtain ⟨_, hs⟩ := hsc k hlt
          have c1 : wr.cell? ⟨A' k, 11 + m, none⟩ = some (.bool ((p.bk k).readB m)) := by simpa using hs.cR m (by omega) (by omega)
          have c2 : wr.cell? ⟨A' k, 19 + m, none⟩ = some (.bool ((p.bk k).boundB m)) := by simpa using hs.cB m (by omega) (by omega)
          have hne : A' k ≠ wo.heap.size := by omega
          have hne' : wo.heap.size ≠ A' k := by omega
          have hm1 : (m : Int) < 8 := by omega
          have hgs := World.rowIs.lt hs
          have HI := Lib.hid hi
          have HSI := Lib.hid hsc
          have HST := Lib.hid (fun y => ownTo_succ p k m [] (8 - m) rfl hlm y)
          have hif := ownAt_if p k m
          clear hlen hA1 hg1 hcell hf hsc hs hi
          by_cases hrb : ((p.bk k).readB m || (p.bk k).boundB m) = true
          · have HE := Lib.hid (show ownAt p k m = ownerF p k m by rw [hif, if_pos hrb])
            generalize (p.bk k).readB m = R1 at *
            generalize (p.bk k).boundB m = R2 at *
            clear hif
            have fin : ∀ (w' : World), Below (wr.setCell ⟨wo.heap.size, m, none⟩ (.int .i64 (-2))).heap.size (wr.setCell ⟨wo.heap.size, m, none⟩ (.int .i64 (-2))) w' → w'.cell? ⟨wo.heap.size, m, none⟩ = some (.int .i64 (-2)) ∧ w'.frozen? ⟨wo.heap.size, m, none⟩ = false := fun w' hb => by
              have h2 := (HI.out.stored m (-2)).1
              have h3 := h2.keep hb
              obtain ⟨_, _, g1, e1, _, _, hA1, hg1, hcell, hf⟩ := h3.rd
              have hlen : ((ownTo p k m ++ List.replicate (8 - m) 0).set m (-2)).length = 8 := by rw [List.length_set, List.length_append, ownTo_len, List.length_replicate]; omega
              rw [hlen] at e1 hA1 hg1 hcell hf
              have e2 := hA1 (by omega)
              subst e2
              simp only [Value.slice.injEq, Option.some.injEq, Addr.mk.injEq, and_true, true_and] at e1
              obtain ⟨rfl, rfl⟩ := e1
              refine ⟨?_, hf (by omega) m⟩
              rw [hcell m hlm, getD_set_eq _ _ _ _ (by rw [← List.length_set, hlen]; omega)]
            have FIN := Lib.hid fin
            have hB2 := hBi.setCell (p := ⟨wo.heap.size, m, none⟩) (Nat.le_refl _) (.int .i64 (-2))
            have HB2 := Lib.hid hB2
            have HI2 := Lib.hid (HI.out.stored m (-2)).1
            have HS2 := Lib.hid (HSK.out.keep hB2)
            clear fin hB2
            have arm : R1 = true ∨ R1 = false ∧ R2 = true := by
              rcases R1 with _ | _
              · right; exact ⟨rfl, by simpa using hrb⟩
              · left; rfl
            clear hrb
            rcases arm with rfl | ⟨rfl, rfl⟩
            all_goals
              go_wp2_with fail
              refine (I_owner A' p _ k _ m HS2.out hlt HSH.out (by omega) (by omega)).mono ?_
              rintro e w7 ⟨rfl, hb7⟩
              obtain ⟨d0, d1⟩ := FIN.out w7 hb7
              have hz7 := hb7.size
              rw [World.size_setCell] at hz7
              have HI3 := Lib.hid (HI2.out.keep hb7)
              have HB3 := Lib.hid (bthen HB2.out hb7)
              clear hb7 c0 f0 c1 c2
              go_wp2
              go_roundw
              case rel =>
                have h4 := (HI3.out.stored m (ownerF p k m)).1
                rw [List.set_set, HST.out _ HE.out] at h4
                exact ⟨m + 1, by omega, by go_num, h4, HB3.out.setCell (p := ⟨wo.heap.size, m, none⟩) (Nat.le_refl _) _⟩
              case measure => simp [intOf]; omega
          · have HE := Lib.hid (show ownAt p k m = -2 by rw [hif, if_neg hrb])
            obtain ⟨h1, h2⟩ : (p.bk k).readB m = false ∧ (p.bk k).boundB m = false := by simpa using hrb
            rw [h1] at c1
            rw [h2] at c2
            clear hif hrb h1 h2
            go_wp2
            go_roundw
            case rel =>
              have h4 := (HI.out.stored m (-2)).1
              rw [HST.out _ HE.out] at h4
              exact ⟨m + 1, by omega, by go_num, h4, hBi.setCell (p := ⟨wo.heap.size, m, none⟩) (Nat.le_refl _) _⟩
            case measure => simp [intOf]; omega
        · obtain rfl : m = 8 := by omega
          rw [Nat.sub_self, List.replicate_zero, List.append_nil] at hi
          have hrows := HO.out.keep hBi
          have hapr : ∀ i, i < (ownRows p k).length → Apart (us.getD i undef) (.slice (some ⟨wo.heap.size, 0, none⟩) 8 8) := fun i hi' => Apart.mk_ (HO.out.2.1 i hi') hi (Nat.le_refl _)
          have HR := Lib.hid hrows
          have HAP := Lib.hid hapr
          have HI := Lib.hid hi
          clear hrows hapr hi
          go_wp2_with (at_builtin; refine wpList_append_rowT 50 Try.underlying50 rfl _ _ rfl (.slice oA (ownRows p k).length oC) (.slice (some ⟨wo.heap.size, 0, none⟩) 8 8) us (ownRows p k) (ownTo p k 8) w5.heap.size _ rfl rfl rfl HR.out (HI.out.lo_ hsz) HAP.out (by rw [ownRows_len]; omega) (by have := hBi.size; omega) ?_; intro v9 w9 hrow9 hbel9)
          go_roundw
          case rel => exact ⟨k + 1, _, by omega, by go_num, hrow9, (bthen hB hBi).trans hbel9⟩
          case measure => simp [intOf]; omega
    · obtain rfl : k = p.length := by omega
      go_wp2
      go_ret
      exact ⟨_, us, rfl, HO.out.lo_ hz5, hB5.trans (hB.mono hz5)⟩

set_option maxRecDepth 100000 in
theorem I_OwnersOf (v : Value) (p : Pr) (lo : Nat) (w : World) (hv : Prog w lo v p) :
    Calls Try.prog 11 #[v] w fun e w' => ∃ v' us, e = .returned v' ∧ RowsOf w' w.heap.size v' us (rOwners p) ∧ Below w.heap.size w w' := by
  obtain ⟨sl, rfl, hv⟩ := hv
  have HV := Lib.hid hv
  obtain ⟨A, C, rfl⟩ := hv.form
  clear hv
  cases hp : validP p
  · have HP := Lib.hid hp
    have hR : rOwners p = [] := by unfold rOwners; rw [hp]; rfl
    rw [hR]
    clear hp hR
    go_enter Try.func11, Try.ntmps11
    go_wp2_with (go_at_call 26; refine (I_ValidProgram _ p lo _ ⟨_, rfl, HV.out.keep al1⟩).mono ?_; rintro e w3 ⟨rfl, hb3⟩; rw [HP.out]; have cb3 := boxAt1 hb3; have hB3 := bthen (al1 (w := w)) hb3; have hz3 := hB3.size; clear hb3)
    go_ret
    exact ⟨_, [], rfl, RowsOf.nil _ _, hB3⟩
  · have HP := Lib.hid hp
    have hR : rOwners p = ownRows p p.length := by unfold rOwners; rw [hp]; rfl
    rw [hR]
    clear hp hR
    go_enter Try.func11, Try.ntmps11
    go_wp2_with (first
      | (go_at_call 26; refine (I_ValidProgram _ p lo _ ⟨_, rfl, HV.out.keep al1⟩).mono ?_; rintro e w3 ⟨rfl, hb3⟩; rw [HP.out]; have cb3 := boxAt1 hb3; have hB3 := bthen (al1 (w := w)) hb3; have hz3 := hB3.size; clear hb3)
      | (go_at_call 41; refine (I_ownersOf _ p lo _ (HV.out.keep hB3) (validP_shape HP.out)).mono ?_; rintro e w2 ⟨v2, us, rfl, hr2, hb2⟩; have hB2 := bthen hB3 hb2))
    go_ret
    exact ⟨_, us, rfl, hr2.lo_ (by omega), hB2⟩

end Go.Proofs.Ytelhemhbgpfokaa
