/-
  Walks: the program's owner, validDeclarations. Condition: the scopes lie in memory as data.
-/
import Derived.Test.YtiemhadpepbcjaaSc4
import Derived.Test.YtiemhadpepbcjaaSpec8
namespace Go.Proofs.Ytiemhadpepbcjaa
open Go.RowKit
set_option linter.unusedVariables false

def vdecl (p : Pr) (i : Nat) : Bool := (List.range 8).all fun x => declOk p i x
theorem vdecl_no {p : Pr} {i x : Nat} (hx : x < 8) (h : declOk p i x = false) : vdecl p i = false := by
  rw [Bool.eq_false_iff]
  intro hv
  unfold vdecl at hv
  rw [List.all_eq_true] at hv
  have := hv x (by simpa using hx)
  rw [h] at this
  cases this
theorem vdecl_yes {p : Pr} {i : Nat} (h : ∀ x : Nat, x < 8 → declOk p i x = true) : vdecl p i = true := by
  unfold vdecl
  rw [List.all_eq_true]
  exact fun x hx => h x (by simpa using hx)
theorem declOk_zero {p : Pr} (hs : shape p = true) (x : Int) : declOk p 0 x = true := by
  have hl := shape_len hs
  have no : ∀ d : Int, d = 9 ∨ d = 10 → (p.bk 0).declB d x = false := fun d hd => by
    rw [Bool.eq_false_iff]
    intro h
    obtain ⟨s, hs1, hs2, _⟩ := declB_iff.1 h
    exact stmtS_decl (shape_stmt hs 0 (by omega) (by omega) s hs1) (by omega) (shape_par0 hs).2.1
  unfold declOk
  rw [no 9 (.inl rfl), no 10 (.inr rfl)]
  rfl
theorem validP_all {p : Pr} (hs : shape p = true) : validP p = (List.range p.length).all fun i => vdecl p i := by
  rw [Bool.eq_iff_iff, List.all_eq_true]
  constructor
  · intro h i hi
    refine vdecl_yes fun x hx => ?_
    rcases Nat.eq_zero_or_pos i with e | e
    · subst e; exact declOk_zero hs x
    · exact validP_decl h i (by omega) (by simpa using hi) x (by omega) (by omega)
  · intro h
    refine validP_yes hs fun b h0 h1 x hx => ?_
    have := h b (by simpa using h1)
    unfold vdecl at this
    rw [List.all_eq_true] at this
    exact this x (by simpa using hx)

section
variable (A : Nat → Nat) (p : Pr) (lo i : Nat) (w : World)

set_option maxRecDepth 100000 in
theorem I_owner (x : Int) (hv : Scopes w lo A p) (hi : i < p.length) (hsh : shape p = true) (hx0 : 0 ≤ x) (hx1 : x ≤ 7) :
    Calls Try.prog 52 #[.pointer (some ⟨A i, 0, none⟩), .int .i64 x] w fun e w' => e = .returned (.int .i64 (ownerF p i x)) ∧ Below w.heap.size w w' := by
  obtain ⟨_, hs⟩ := hv i hi
  have HV := Lib.hid hv
  have HSH := Lib.hid hsh
  have c0 := hs.c0
  have c1 := hs.c1
  have cG := hs.cG x hx0 hx1
  have hk0 := shape_kind0 hsh i (by omega) (by omega)
  have hR : ownerF p i x = if (i : Int) = 0 then -1 else if (p.bk i).declB 9 x then -1 else if (p.bk i).locB x then (i : Int) else outerF p i x := rfl
  have hx2 : x < 8 := by omega
  have hgl := World.rowIs.lt hs
  clear hs hv hsh
  generalize ownerF p i x = R at *
  by_cases h0 : (i : Int) = 0
  · have hkd : ((p.bk i).kind == 0) = true := by simp [hk0.2 h0]
    rw [if_pos h0] at hR
    have HR := Lib.hid hR
    generalize (p.bk i).kind = K at *
    clear hR h0 hk0
    go_enter Try.func52, Try.ntmps52
    go_wp2
    go_ret
    exact ⟨ret_int HR.out.symm, Below.refl _ _⟩
  · have hkd : ((p.bk i).kind == 0) = false := by simp; intro h; exact h0 (hk0.1 h)
    rw [if_neg h0] at hR
    have hLOC : locP p i x = (p.bk i).locB x := by unfold locP; rw [decide_eq_true (by omega), Bool.true_and]
    generalize (p.bk i).kind = K at *
    cases hd : (p.bk i).declB 9 x
    · rw [hd, if_neg (by simp)] at hR
      rw [hd] at cG
      cases hloc : (p.bk i).locB x
      · rw [hloc, if_neg (by simp)] at hR
        rw [hloc] at hLOC
        have HR := Lib.hid hR
        have HL := Lib.hid hLOC
        clear hR h0 hk0 hd hloc hLOC
        go_enter Try.func52, Try.ntmps52
        go_wp2_with (first
          | (go_at_call 87; refine (I_isLocal A p lo i x _ HV.out hi HSH.out hx0 hx1).mono ?_; rintro e w' ⟨rfl, rfl⟩; rw [HL.out])
          | (go_at_call 75; refine (I_outerOwner A p lo i x _ HV.out hi HSH.out hx0 hx1).mono ?_; rintro e w1 ⟨rfl, hb1⟩))
        go_ret
        exact ⟨ret_int HR.out.symm, hb1⟩
      · rw [hloc, if_pos rfl] at hR
        rw [hloc] at hLOC
        have HR := Lib.hid hR
        have HL := Lib.hid hLOC
        clear hR h0 hk0 hd hloc hLOC
        go_enter Try.func52, Try.ntmps52
        go_wp2_with (go_at_call 87; refine (I_isLocal A p lo i x _ HV.out hi HSH.out hx0 hx1).mono ?_; rintro e w' ⟨rfl, rfl⟩; rw [HL.out])
        go_ret
        exact ⟨ret_int HR.out.symm, Below.refl _ _⟩
    · rw [hd, if_pos rfl] at hR
      rw [hd] at cG
      have HR := Lib.hid hR
      clear hR h0 hk0 hd hLOC
      go_enter Try.func52, Try.ntmps52
      go_wp2
      go_ret
      exact ⟨ret_int HR.out.symm, Below.refl _ _⟩

set_option maxRecDepth 100000 in
set_option maxHeartbeats 2000000 in
theorem I_validDeclarations (hv : Scopes w lo A p) (hi : i < p.length) (hsh : shape p = true) :
    Calls Try.prog 34 #[.pointer (some ⟨A i, 0, none⟩)] w fun e w' => e = .returned (.bool (vdecl p i)) ∧ Below w.heap.size w w' := by
  have hS : ScopesIn w.heap.size w A p := hv.inn
  have HS := Lib.hid hS
  have HSH := Lib.hid hsh
  generalize hR : vdecl p i = R
  have HR := Lib.hid hR
  clear hS hsh hR hv
  go_enter Try.func34, Try.ntmps34
  go_wp2
  go_loopw [4] (fun v wr => ∃ m : Nat, m ≤ 8 ∧ v = .int .i64 m ∧ (∀ x : Nat, x < m → declOk p i x = true) ∧ Below w.heap.size w wr) (fun v _ => 8 - (intOf v).toNat)
  case atStart => exact ⟨0, Nat.zero_le _, rfl, fun x hx => absurd hx (Nat.not_lt_zero _), Below.refl _ _⟩
  case round =>
    obtain ⟨m, hm, rfl, hq, hB⟩ := hrel
    have HQ := Lib.hid hq
    have hSC := (HS.out.below hB).out
    have HSC := Lib.hid hSC
    clear hq
    by_cases hml : m < 8
    · have hmle : (m : Int) ≤ 7 := by omega
      have hsc := (hSC i hi).2
      have cG := hsc.cG m (by omega) hmle
      have cN := hsc.cN m (by omega) hmle
      have cP := hsc.cP m (by omega) hmle
      rw [Int.toNat_natCast] at cG cN cP
      have hgl := World.rowIs.lt hsc
      have hok : declOk p i m = !(((p.bk i).declB 9 m && ((p.bk i).declB 10 m || (p.bk i).params.contains (m : Int))) || ((p.bk i).declB 10 m && ((p.bk i).params.contains (m : Int) || decide (outerF p i m < 0)))) := rfl
      have hds : (p.bk i).declsB m = ((p.bk i).declB 9 m || (p.bk i).declB 10 m) := rfl
      have hoc : -1 ≤ outerF p i m := by
        rcases outerF_cases p i m (by omega) with h | h
        · omega
        · omega
      clear hsc hSC
      cases hg : (p.bk i).declB 9 m
      · cases hn : (p.bk i).declB 10 m
        · cases hpa : (p.bk i).params.contains (m : Int)
          · rw [hg] at hok hds cG
            rw [hn] at hok hds cN
            rw [hpa] at hok cP
            have HDS := Lib.hid hds
            have HOK := Lib.hid hok
            clear hok hds hg hn hoc hpa
            go_wp2
            go_roundw
            case rel => exact ⟨m + 1, by omega, by go_num, fun y hy => by
              rcases Nat.lt_succ_iff_lt_or_eq.1 hy with h | rfl
              · exact HQ.out y h
              · rw [HOK.out]; rfl, hB⟩
            case measure => simp [intOf]; omega
          · rw [hg] at hok hds cG
            rw [hn] at hok hds cN
            rw [hpa] at hok cP
            have HDS := Lib.hid hds
            have HOK := Lib.hid hok
            clear hok hds hg hn hoc hpa
            go_wp2_with fail
            refine (I_declares A p 0 i m _ HSC.out hi (by omega) (by omega)).mono ?_
            rintro e w' ⟨rfl, rfl⟩
            rw [HDS.out]
            go_wp2
            go_roundw
            case rel => exact ⟨m + 1, by omega, by go_num, fun y hy => by
              rcases Nat.lt_succ_iff_lt_or_eq.1 hy with h | rfl
              · exact HQ.out y h
              · rw [HOK.out]; rfl, hB⟩
            case measure => simp [intOf]; omega
        · cases hpa : (p.bk i).params.contains (m : Int)
          · cases ho : decide (outerF p i m < 0)
            · rw [hg] at hok hds cG
              rw [hn] at hok hds cN
              rw [hpa] at hok cP
              rw [ho] at hok
              obtain ⟨ov, hov⟩ : ∃ ov : Int, outerF p i m = ov := ⟨_, rfl⟩
              rw [hov] at ho hoc
              have hoi : (ov == -1) = false := by have := of_decide_eq_false ho; simp; omega
              have HOV := Lib.hid hov
              have HDS := Lib.hid hds
              have HOK := Lib.hid hok
              clear hok hds hg hn hoc hpa ho hov
              go_wp2_with fail
              refine (I_outerOwner A p 0 i m _ HSC.out hi HSH.out (by omega) (by omega)).mono ?_
              rintro e w6 ⟨rfl, hb6⟩
              rw [HOV.out]
              go_wp2
              go_roundw
              case rel => exact ⟨m + 1, by omega, by go_num, fun y hy => by
                rcases Nat.lt_succ_iff_lt_or_eq.1 hy with h | rfl
                · exact HQ.out y h
                · rw [HOK.out]; rfl, bthen hB hb6⟩
              case measure => simp [intOf]; omega
            · rw [hg] at hok hds cG
              rw [hn] at hok hds cN
              rw [hpa] at hok cP
              rw [ho] at hok
              obtain ⟨ov, hov⟩ : ∃ ov : Int, outerF p i m = ov := ⟨_, rfl⟩
              rw [hov] at ho hoc
              have hoi : (ov == -1) = true := by have := of_decide_eq_true ho; simp; omega
              have HOV := Lib.hid hov
              have HDS := Lib.hid hds
              have HOK := Lib.hid hok
              clear hok hds hg hn hoc hpa ho hov
              go_wp2_with fail
              refine (I_outerOwner A p 0 i m _ HSC.out hi HSH.out (by omega) (by omega)).mono ?_
              rintro e w6 ⟨rfl, hb6⟩
              rw [HOV.out]
              go_wp2
              go_ret
              exact ⟨ret_bool (by rw [← HR.out, vdecl_no hml (by rw [HOK.out]; rfl)]), bthen hB hb6⟩
          · rw [hg] at hok hds cG
            rw [hn] at hok hds cN
            rw [hpa] at hok cP
            have HDS := Lib.hid hds
            have HOK := Lib.hid hok
            clear hok hds hg hn hoc hpa
            go_wp2_with fail
            refine (I_declares A p 0 i m _ HSC.out hi (by omega) (by omega)).mono ?_
            rintro e w' ⟨rfl, rfl⟩
            rw [HDS.out]
            go_wp2
            go_ret
            exact ⟨ret_bool (by rw [← HR.out, vdecl_no hml (by rw [HOK.out]; rfl)]), hB⟩
      · cases hn : (p.bk i).declB 10 m
        · cases hpa : (p.bk i).params.contains (m : Int)
          · rw [hg] at hok hds cG
            rw [hn] at hok hds cN
            rw [hpa] at hok cP
            have HDS := Lib.hid hds
            have HOK := Lib.hid hok
            clear hok hds hg hn hoc hpa
            go_wp2
            go_roundw
            case rel => exact ⟨m + 1, by omega, by go_num, fun y hy => by
              rcases Nat.lt_succ_iff_lt_or_eq.1 hy with h | rfl
              · exact HQ.out y h
              · rw [HOK.out]; rfl, hB⟩
            case measure => simp [intOf]; omega
          · rw [hg] at hok hds cG
            rw [hn] at hok hds cN
            rw [hpa] at hok cP
            have HDS := Lib.hid hds
            have HOK := Lib.hid hok
            clear hok hds hg hn hoc hpa
            go_wp2_with fail
            refine (I_declares A p 0 i m _ HSC.out hi (by omega) (by omega)).mono ?_
            rintro e w' ⟨rfl, rfl⟩
            rw [HDS.out]
            go_wp2
            go_ret
            exact ⟨ret_bool (by rw [← HR.out, vdecl_no hml (by rw [HOK.out]; rfl)]), hB⟩
        · rw [hg] at hok hds cG
          rw [hn] at hok hds cN
          have HDS := Lib.hid hds
          have HOK := Lib.hid hok
          clear hok hds hg hn hoc
          go_wp2
          go_ret
          exact ⟨ret_bool (by rw [← HR.out, vdecl_no hml (by rw [HOK.out]; rfl)]), hB⟩
    · obtain rfl : m = 8 := by omega
      clear hSC
      go_wp2
      go_ret
      exact ⟨ret_bool (by rw [← HR.out, vdecl_yes HQ.out]), hB⟩
end

end Go.Proofs.Ytiemhadpepbcjaa
