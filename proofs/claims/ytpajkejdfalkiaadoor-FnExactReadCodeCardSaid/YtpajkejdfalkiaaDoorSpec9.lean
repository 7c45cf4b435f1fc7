/-
  Walks: the reference's used. Condition: the argument reads as a program of a valid shape, the block is one of it.
-/
import Derived.Test.YtpajkejdfalkiaaDoorSpec8
import Derived.Test.YtpajkejdfalkiaaDoorHeld
import Derived.Deep.AppendLies
namespace Go.Proofs.YtpajkejdfalkiaaDoor
open Go.RowKit
set_option linter.unusedVariables false

/-- append on lists of numbers, at a step of a region that draws its order. -/
theorem step_append_ints {w : World} {ops : Array Oper} {o : Oper} {a : Act} {K : Act → World → Prop} {Q : Exit → Act → World → Prop} {E : Prop} (hgd : o.guard = none) (s x : Operand)
    (ho : o.op = .call { callee := .builtin .append, args := #[s, x], argTypes := #[50, 50] })
    (v v2 : Value) (l l2 : List Int) (base lo2 : Nat) (hs : a.eval s = v) (hx : a.eval x = v2) (hown : Ints w base v l) (hown2 : Ints w lo2 v2 l2) (hlen : l.length + l2.length ≤ 1048576) (hbase : base ≤ w.heap.size)
    (h : ∀ v' w', Ints w' base v' (l ++ l2) → w.grownBy w' v.ownBlock → Below base w w' → RowFrom v v' w.heap.size → K (a.put o.dst v') w') :
    if Region.wanted o (yielded ops a.tmps) = true then Oper.wp Tryd.prog o a w K Q else E := by
  have hw : Region.wanted o (yielded ops a.tmps) = true := by simp [Region.wanted, hgd]
  rw [if_pos hw]
  obtain ⟨i, hi, hz0, hz1, hz2⟩ := info_parts Tryd.info3
  have hfin : ∀ u ∈ l2.map (Value.int .i64), u.oneCell' = true := ints_oneCell _ _
  rcases hown2.2 with ⟨rfl, h0⟩ | ⟨g, cap, cur, rfl, hg, hh, hr⟩
  · have hl := hown2.1
    have e : l2 = [] := List.eq_nil_of_length_eq_zero h0
    subst e
    have hrun := run_append_owned_none (P := Tryd.prog) (w := w) base 50 o.type 3 i 1 Tryd.underlying50 hi v l.length _ hown
    unfold Oper.wp
    simp [execOp, ho, resolve, invoke, builtin, hs, hx, hrun, Result.andThen]
    exact h v w (by simpa using hown) (World.grownBy.refl w _) (Below.refl _ _) (.inl rfl)
  · obtain ⟨v', w', hrun, h2, h3, _, h5⟩ := run_append_own_at (P := Tryd.prog) w base 50 o.type 3 i (.int .i64 0) 1 8 Tryd.underlying50 hi hz0 hz1 hz2 rfl (by decide) v l.length _ hown ⟨g, 0, none⟩ l2.length cap _ hown2.1 (own_news hown2) hfin (by unfold maxLen; omega) (by omega) hbase
    unfold Oper.wp execOp
    simp only [ho, resolve, invoke, builtin, Sem.run_bind, Sem.run_pure, Result.andThen_ok, List.map_toArray, List.map_cons, List.map_nil, hs, hx, hrun]
    refine h v' w' ?_ h3 ((Below.refl base w).grown h3 hbase (own_block_ge hown)) ?_
    · unfold Ints
      rw [List.length_append, List.map_append]
      exact h2
    · rcases h5 with h5 | h5
      · exact .inl h5
      · exact .inr ⟨_, h5, Nat.le_refl _⟩

theorem Ints.kept {w w' : World} {lo : Nat} {v : Value} {l : List Int} {row : Option Nat} (h : Ints w lo v l) (hg : w.grownBy w' row) (hne : v.ownBlock = none ∨ v.ownBlock ≠ row) : Ints w' lo v l := World.ownsRow.kept h hg hne

theorem usedF_eq (p : Pr) (b : Int) : nms (hasF (((readF p b ++ boundF p b) ++ declF p b 9) ++ declF p b 10)) = usedF p b := by
  refine nms_congr fun x h0 h1 => ?_
  have e : ∀ l : List Int, hasF l x = l.contains x := fun _ => rfl
  rw [e, List.contains_append, List.contains_append, List.contains_append, ← e, ← e, ← e, ← e]
  unfold readF boundF declF
  rw [hasF_nms _ x h0 h1, hasF_nms _ x h0 h1, hasF_nms _ x h0 h1, hasF_nms _ x h0 h1]
  unfold Bk.usesB Bk.declsB
  rw [Bool.or_assoc ((p.bk b).readB x || (p.bk b).boundB x)]

set_option maxRecDepth 100000 in
set_option maxHeartbeats 4000000 in
theorem S_used (sl : Value) (p : Pr) (lo : Nat) (b : Int) (w : World) (hv : Blks w lo sl p) (hs : shape p = true) (hb0 : 0 ≤ b) (hb1 : b < p.length) :
    Calls Tryd.prog 44 #[.agg #[sl], .int .i64 b] w fun e w' => ∃ v', e = .returned v' ∧ Ints w' w.heap.size v' (usedF p b) ∧ Below w.heap.size w w' := by
  have hl := shape_len hs
  obtain ⟨g, C, rfl, hg⟩ := hv.formS (by omega)
  have HV := Lib.hid hv
  have HSH := Lib.hid hs
  have hR := usedF_eq p b
  have hlr : (readF p b).length ≤ 8 := nms_len _
  have hlb : (boundF p b).length ≤ 8 := nms_len _
  have hld : (declF p b 9).length ≤ 8 := nms_len _
  have hle : (declF p b 10).length ≤ 8 := nms_len _
  generalize usedF p b = R at *
  have HR := Lib.hid hR
  clear hv hs hR
  go_enter Tryd.func44, Tryd.ntmps44
  go_wp2
  obtain ⟨W0, hW0⟩ : ∃ W0 : World, W0 = w.alloc (.cells #[.slice (some ⟨g, 0, none⟩) p.length C] 35) := ⟨_, rfl⟩
  have c0 : W0.cell? ⟨w.heap.size, 0, none⟩ = some (.slice (some ⟨g, 0, none⟩) p.length C) := by rw [hW0]; simp [go_sem]
  have hb : Below w.heap.size w W0 := by rw [hW0]; exact al1
  have z0 : w.heap.size + 1 ≤ W0.heap.size := by rw [hW0]; simp
  rw [← hW0]
  have HV0 := Lib.hid (HV.out.keep hb)
  have HB0 := Lib.hid hb
  clear hW0 hb
  have hcur : Below W0.heap.size W0 W0.drew := (Below.refl _ _).drew
  have zc : W0.heap.size ≤ W0.drew.heap.size := Nat.le_refl _
  go_region_held3 (fun w' => w'.cell? ⟨w.heap.size, 0, none⟩ = some (.slice (some ⟨g, 0, none⟩) p.length C))
    (first | go_keep | exact cell_later hcur c0)
    (first
      | (go_at_call 75
         refine (S_read _ p lo b _ ⟨_, rfl, HV0.out.keep hcur⟩ hb0 hb1 (by omega) (Nat.le_trans (shape_body HSH.out b hb0 hb1) (by omega))).mono ?_
         rintro e wr ⟨vr, rfl, ir, br⟩
         have gr := own_block_ge ir
         have lr := own_block_lt ir
         have zr := br.size
         have ir := ir.lo_ hcur.size
         have hcur := bthen hcur br)
      | (go_at_call 76
         refine (S_bound _ p lo b _ ⟨_, rfl, HV0.out.keep hcur⟩ hb0 hb1 (by omega) (Nat.le_trans (shape_body HSH.out b hb0 hb1) (by omega)) (Nat.le_trans (shape_params HSH.out b hb0 hb1).1 (by omega))).mono ?_
         rintro e wb ⟨vb, rfl, ib, bb⟩
         have gb := own_block_ge ib
         have lb := own_block_lt ib
         have zb := bb.size
         have ib := ib.lo_ hcur.size
         have ir := ir.keep bb
         have hcur := bthen hcur bb)
      | (go_at_call_of 70 (Value.int .i64 9)
         refine (S_declared _ p lo b 9 _ ⟨_, rfl, HV0.out.keep hcur⟩ hb0 hb1 (by omega) (Nat.le_trans (shape_body HSH.out b hb0 hb1) (by omega))).mono ?_
         rintro e wd ⟨vd, rfl, id_, bd⟩
         have gd := own_block_ge id_
         have ld := own_block_lt id_
         have zd := bd.size
         have id_ := id_.lo_ hcur.size
         try have ir := ir.keep bd
         try have ib := ib.keep bd
         try have i1 := i1.keep bd
         have hcur := bthen hcur bd)
      | (go_at_call_of 70 (Value.int .i64 10)
         refine (S_declared _ p lo b 10 _ ⟨_, rfl, HV0.out.keep hcur⟩ hb0 hb1 (by omega) (Nat.le_trans (shape_body HSH.out b hb0 hb1) (by omega))).mono ?_
         rintro e we ⟨ve, rfl, ie, be⟩
         have ge := own_block_ge ie
         have le := own_block_lt ie
         have ze := be.size
         have ie := ie.lo_ hcur.size
         try have ir := ir.keep be
         try have ib := ib.keep be
         try have id_ := id_.keep be
         try have i1 := i1.keep be
         try have i2 := i2.keep be
         have hcur := bthen hcur be)
      | (refine step_append_ints rfl _ _ rfl vr vb _ _ W0.heap.size _ rfl rfl ir ib (by omega) hcur.size ?_
         intro v1 w1 i1 g1 b1 f1
         have l1 := own_block_lt i1
         have z1 := b1.size
         try have id_ := Ints.kept id_ g1 (by (rcases hq : vd.ownBlock with _ | k); · exact .inl rfl; · (right; intro hc; have a1 := gd k hq; have a2 := ld k hq; have a3 := gr k hc.symm; have a4 := lr k hc.symm; omega))
         try have ie := Ints.kept ie g1 (by (rcases hq : ve.ownBlock with _ | k); · exact .inl rfl; · (right; intro hc; have a1 := ge k hq; have a2 := le k hq; have a3 := gr k hc.symm; have a4 := lr k hc.symm; omega))
         have hcur := hcur.trans b1)
      | (refine step_append_ints rfl _ _ rfl v1 vd _ _ W0.heap.size _ rfl rfl i1 id_ (by rw [List.length_append]; omega) hcur.size ?_
         intro v2 w2 i2 g2 b2 f2
         have l2 := own_block_lt i2
         have z2 := b2.size
         try have ie := Ints.kept ie g2 (by (rcases hq : ve.ownBlock with _ | k); · exact .inl rfl; · (right; intro hc; have a1 := ge k hq; have a2 := le k hq; (rcases f1 with f1 | ⟨gg, f1, f1'⟩; · (have a3 := gr k (f1.symm.trans hc.symm); have a4 := lr k (f1.symm.trans hc.symm); omega); · (have a4 := l1 k hc.symm; have a5 : gg = k := (by rw [f1] at hc; exact (Option.some.inj hc).symm); omega))))
         have hcur := hcur.trans b2)
      | (refine step_append_ints rfl _ _ rfl v2 ve _ _ W0.heap.size _ rfl rfl i2 ie (by rw [List.length_append, List.length_append]; omega) hcur.size ?_
         intro v3 w3 i3 g3 b3 f3
         have hcur := hcur.trans b3)
      | (go_at_call 74
         refine (S_sorted v3 _ _ _ i3).mono ?_
         rintro e w9 ⟨v9, rfl, i9, b9⟩
         have i9 := i9.lo_ hcur.size
         have hcur := bthen hcur b9))
  all_goals
    go_wp2
    go_ret
    exact ⟨_, rfl, by rw [← HR.out]; exact i9.lo_ (by omega), HB0.out.trans (hcur.mono (by omega))⟩

end Go.Proofs.YtpajkejdfalkiaaDoor
