/-
  Walks: the reference's names that a block reads, binds, declares. Condition: the argument reads as a program, the block is one of it, its lists are short.
-/
import Derived.Test.YtpajkejdfalkiaaDoorSpec4
namespace Go.Proofs.YtpajkejdfalkiaaDoor
open Go.RowKit
set_option linter.unusedVariables false

/-- What is known of a program in a box, in any world that has only grown. -/
theorem knd {w W3 : World} {lo bx n C g : Nat} {p : Pr} (B3 : Nat) (hB3 : W3.heap.size = B3) (hbox : W3.cell? ⟨bx, 0, none⟩ = some (.slice (some ⟨g, 0, none⟩) n C)) (hbx : bx < B3) (hv : Blks W3 lo (.slice (some ⟨g, 0, none⟩) n C) p) (hB : Below w.heap.size w W3) :
    ∀ W, Below B3 W3 W → W.cell? ⟨bx, 0, none⟩ = some (.slice (some ⟨g, 0, none⟩) n C) ∧ Blks W lo (.slice (some ⟨g, 0, none⟩) n C) p ∧ Below w.heap.size w W ∧ B3 ≤ W.heap.size := by
  subst hB3
  exact fun W h => ⟨(h.cell (p := ⟨bx, 0, none⟩) hbx).trans hbox, hv.keep h, bthen hB h, h.size⟩

theorem Ints.zero1 (w : World) (o : Obj) : Ints ((w.alloc o).alloc (.cells #[] 3)) (w.heap.size + 1) (.slice (some ⟨w.heap.size + 1, 0, none⟩) 0 0) [] := by
  have h := Ints.zero (w.alloc o) (w.heap.size + 1) (by simp)
  rwa [World.size_alloc] at h

theorem al1' {w : World} {o o' : Obj} : Below (w.heap.size + 1) (w.alloc o) ((w.alloc o).alloc o') := by
  have h := al1 (w := w.alloc o) (o := o')
  rwa [World.size_alloc] at h

theorem Blks.formS {w : World} {lo : Nat} {v : Value} {p : Pr} (h : Blks w lo v p) (hp : 0 < p.length) : ∃ (g C : Nat), v = .slice (some ⟨g, 0, none⟩) p.length C ∧ g < w.heap.size := by
  obtain ⟨A, C, g, hv, _, _, hA, hg, _⟩ := h.rd
  exact ⟨g, C, by rw [hv, hA hp], (hg hp).2⟩

def readsTo (l : List St) (k : Nat) : List Int := (l.take k).flatMap St.reads
theorem readsTo_succ (l : List St) (k : Nat) (h : k < l.length) : readsTo l (k + 1) = readsTo l k ++ (l.getD k default).reads := by
  unfold readsTo
  rw [List.take_succ_eq_append_getElem h, List.flatMap_append]
  simp [List.getD, h]
theorem reads_len (s : St) : s.reads.length ≤ 2 := by
  unfold St.reads
  repeat' split
  all_goals simp
theorem readsTo_len (l : List St) (k : Nat) (h : k ≤ l.length) : (readsTo l k).length ≤ 2 * k := by
  induction k with
  | zero => simp [readsTo]
  | succ k ih =>
    rw [readsTo_succ l k (by omega), List.length_append]
    have := ih (by omega)
    have := reads_len (l.getD k default)
    omega
theorem readsTo_all (k : Bk) : nms (hasF (readsTo k.body k.body.length)) = nms k.readB := by
  refine nms_congr fun x _ _ => ?_
  rw [Bool.eq_iff_iff, hasF_iff]
  unfold readsTo Bk.readB
  rw [List.take_length, List.mem_flatMap, List.any_eq_true]
  simp

set_option maxRecDepth 100000 in
theorem S_read (v : Value) (p : Pr) (lo : Nat) (b : Int) (w : World) (hv : Prog w lo v p) (h0 : 0 ≤ b) (h1 : b < p.length) (hl : p.length ≤ 1000) (hbl : (p.bk b).body.length ≤ 1000) :
    Calls Tryd.prog 75 #[v, .int .i64 b] w fun e w' => ∃ v', e = .returned v' ∧ Ints w' w.heap.size v' (readF p b) ∧ Below w.heap.size w w' := by
  obtain ⟨sl, rfl, hv⟩ := hv
  obtain ⟨g, C, rfl, hg⟩ := hv.formS (by omega)
  have kn := knd (w := w) (W3 := w.alloc (.cells #[.slice (some ⟨g, 0, none⟩) p.length C] 35)) (lo := lo) (bx := w.heap.size) (w.heap.size + 1) (by simp) (by simp [go_sem]) (by omega) (hv.keep al1) al1
  have KN := Lib.hid kn
  have hR : nms (hasF (readsTo (p.bk b).body (p.bk b).body.length)) = readF p b := readsTo_all _
  generalize readF p b = R at *
  have HR := Lib.hid hR
  clear kn hv hR
  go_enter Tryd.func75, Tryd.ntmps75
  go_wp2
  go_loopw [5, 6] (fun o i wr => ∃ k : Nat, k ≤ (p.bk b).body.length ∧ i = .int .i64 k ∧ Ints wr (w.heap.size + 1) o (readsTo (p.bk b).body k) ∧ Below (w.heap.size + 1) (w.alloc (.cells #[.slice (some ⟨g, 0, none⟩) p.length C] 35)) wr) (fun _ i _ => (p.bk b).body.length - (intOf i).toNat)
  case atStart => exact ⟨0, Nat.zero_le _, rfl, Ints.zero1 _ _, al1'⟩
  case round =>
    obtain ⟨k, hk, rfl, hown, hB⟩ := hrel
    obtain ⟨cb, hvr, hBw, hsz⟩ := KN.out wr hB
    obtain ⟨hgr, A2, A3, C2, C3, c0, c1, c2, c3, hps, hbs⟩ := Prog.atg hvr b h0 h1
    have hlen := readsTo_len (p.bk b).body k hk
    by_cases hlt : k < (p.bk b).body.length
    · obtain ⟨A4, C4, r, e4, hn4, hC4, hA4, hr4, hcell4, _⟩ := hbs.rd
      obtain ⟨rfl, rfl⟩ : A3 = A4 ∧ C3 = C4 := by simpa using e4
      obtain ⟨d0, d1, d2, d3⟩ := hcell4 k hlt
      obtain rfl := hA4 (by omega)
      have hs := readsTo_succ (p.bk b).body k hlt
      have hrl := reads_len ((p.bk b).body.getD k default)
      clear e4 hA4 hr4 hcell4 hn4 c0 c1 c2 hps hbs hvr
      unfold maxLen at hC4
      generalize hx : (p.bk b).body.getD k default = x at *
      have HS := Lib.hid hs
      have HO := Lib.hid hown
      clear hs hown hx
      go_wp2_with (first
        | (go_at_call 103; refine (S_readsOf x _).mono ?_; rintro e w1 ⟨rv, rfl, hi1, hb1⟩; have hz1 := hb1.size)
        | (at_builtin; go_loud (refine wpList_append_ints rfl _ _ rfl _ _ _ x.reads (w.heap.size + 1) _ rfl rfl (HO.out.keep hb1) hi1 (by omega) (by omega) ?_; intro v' w2 hown1 hgrow hbel hfrom)))
      go_roundw
      case rel => exact ⟨k + 1, by omega, by go_num, by rw [HS.out]; exact hown1, hB.trans ((hb1.mono hsz).trans hbel)⟩
      case measure => simp [intOf]; omega
    · obtain rfl : k = (p.bk b).body.length := by omega
      go_wp2_with (go_at_call 74; refine (S_sorted _ _ _ _ hown).mono ?_; rintro e w1 ⟨rv, rfl, hi1, hb1⟩)
      go_ret
      exact ⟨_, rfl, by rw [← HR.out]; exact hi1.lo_ (by omega), bthen hBw hb1⟩

/-- The names of those of the first k statements for which f holds. -/
def selTo (f : St → Bool) (l : List St) (k : Nat) : List Int := ((l.take k).filter f).map St.to
theorem selTo_yes (f : St → Bool) (l : List St) (k : Nat) (h : k < l.length) (hf : f (l.getD k default) = true) : selTo f l (k + 1) = selTo f l k ++ [(l.getD k default).to] := by
  unfold selTo
  rw [List.take_succ_eq_append_getElem h, List.filter_append]
  have e : l.getD k default = l[k] := by simp [List.getD, h]
  rw [e] at hf ⊢
  simp [hf]
theorem selTo_no (f : St → Bool) (l : List St) (k : Nat) (h : k < l.length) (hf : f (l.getD k default) = false) : selTo f l (k + 1) = selTo f l k := by
  unfold selTo
  rw [List.take_succ_eq_append_getElem h, List.filter_append]
  have e : l.getD k default = l[k] := by simp [List.getD, h]
  rw [e] at hf
  simp [hf]
theorem selTo_len (f : St → Bool) (l : List St) (k : Nat) : (selTo f l k).length ≤ k := by
  unfold selTo
  rw [List.length_map]
  have h1 := List.length_filter_le f (l.take k)
  have h2 := List.length_take_le k l
  omega
theorem selTo_bound (k : Bk) : nms (hasF (k.params ++ selTo St.binds k.body k.body.length)) = nms k.boundB := by
  refine nms_congr fun x _ _ => ?_
  rw [Bool.eq_iff_iff, hasF_iff, boundB_iff, List.mem_append]
  unfold selTo
  rw [List.take_length, List.mem_map]
  simp [and_assoc]
theorem selTo_decl (k : Bk) (d : Int) : nms (hasF (selTo (fun s => s.kind == d) k.body k.body.length)) = nms (k.declB d) := by
  refine nms_congr fun x _ _ => ?_
  rw [Bool.eq_iff_iff, hasF_iff, declB_iff]
  unfold selTo
  rw [List.take_length, List.mem_map]
  simp [and_assoc]
theorem binds_eq (s : St) : s.binds = (s.sets || s.kind == 11) := by
  rw [Bool.eq_iff_iff]
  unfold St.binds St.sets
  rw [decide_eq_true_iff, Bool.or_eq_true, inR_iff, beq_iff_eq]

set_option maxRecDepth 100000 in
theorem S_declared (v : Value) (p : Pr) (lo : Nat) (b d : Int) (w : World) (hv : Prog w lo v p) (h0 : 0 ≤ b) (h1 : b < p.length) (hl : p.length ≤ 1000) (hbl : (p.bk b).body.length ≤ 1000) :
    Calls Tryd.prog 70 #[v, .int .i64 b, .int .i64 d] w fun e w' => ∃ v', e = .returned v' ∧ Ints w' w.heap.size v' (declF p b d) ∧ Below w.heap.size w w' := by
  obtain ⟨sl, rfl, hv⟩ := hv
  obtain ⟨g, C, rfl, hg⟩ := hv.formS (by omega)
  have kn := knd (w := w) (W3 := w.alloc (.cells #[.slice (some ⟨g, 0, none⟩) p.length C] 35)) (lo := lo) (bx := w.heap.size) (w.heap.size + 1) (by simp) (by simp [go_sem]) (by omega) (hv.keep al1) al1
  have KN := Lib.hid kn
  have hR : nms (hasF (selTo (fun s => s.kind == d) (p.bk b).body (p.bk b).body.length)) = declF p b d := selTo_decl _ d
  obtain ⟨f, hf⟩ : ∃ f : St → Bool, f = fun s => s.kind == d := ⟨_, rfl⟩
  rw [← hf] at hR
  have hfd : ∀ s : St, f s = (s.kind == d) := fun s => by rw [hf]
  generalize declF p b d = R at *
  have HR := Lib.hid hR
  have HF := Lib.hid hfd
  clear kn hv hR hf hfd
  go_enter Tryd.func70, Tryd.ntmps70
  go_wp2
  go_loopw [7, 8] (fun o i wr => ∃ k : Nat, k ≤ (p.bk b).body.length ∧ i = .int .i64 k ∧ Ints wr (w.heap.size + 1) o (selTo f (p.bk b).body k) ∧ Below (w.heap.size + 1) (w.alloc (.cells #[.slice (some ⟨g, 0, none⟩) p.length C] 35)) wr) (fun _ i _ => (p.bk b).body.length - (intOf i).toNat)
  case atStart => exact ⟨0, Nat.zero_le _, rfl, Ints.zero1 _ _, al1'⟩
  case round =>
    obtain ⟨k, hk, rfl, hown, hB⟩ := hrel
    obtain ⟨cb, hvr, hBw, hsz⟩ := KN.out wr hB
    obtain ⟨hgr, A2, A3, C2, C3, c0, c1, c2, c3, hps, hbs⟩ := Prog.atg hvr b h0 h1
    have hlen := selTo_len f (p.bk b).body k
    by_cases hlt : k < (p.bk b).body.length
    · obtain ⟨A4, C4, r, e4, hn4, hC4, hA4, hr4, hcell4, _⟩ := hbs.rd
      obtain ⟨rfl, rfl⟩ : A3 = A4 ∧ C3 = C4 := by simpa using e4
      obtain ⟨d0, d1, d2, d3⟩ := hcell4 k hlt
      obtain rfl := hA4 (by omega)
      have hr := (hr4 (by omega)).2
      clear e4 hA4 hr4 hcell4 hn4 c0 c1 c2 hps hbs hvr
      unfold maxLen at hC4
      have HO := Lib.hid hown
      by_cases hfx : f ((p.bk b).body.getD k default) = true
      · have hs := selTo_yes f _ k hlt hfx
        have ht := (HF.out _).symm.trans hfx
        generalize hx : (p.bk b).body.getD k default = x at *
        have HS := Lib.hid hs
        clear hs hown hx hfx
        go_wp2_with (at_builtin; refine wpList_append_ints rfl _ _ rfl _ _ _ [x.to] (w.heap.size + 1) _ rfl rfl (HO.out.keep al1) (Ints.one _ _ _ (Nat.le_refl _)) (by show _ + 1 ≤ _; omega) (by rw [World.size_alloc]; omega) ?_; intro v' w2 hown1 hgrow hbel hfrom)
        go_roundw
        case rel => exact ⟨k + 1, by omega, by go_num, by rw [HS.out]; exact hown1, (hB.alloc hsz _).trans hbel⟩
        case measure => simp [intOf]; omega
      · have hfx := Bool.eq_false_iff.2 hfx
        have hs := selTo_no f _ k hlt hfx
        have ht := (HF.out _).symm.trans hfx
        generalize hx : (p.bk b).body.getD k default = x at *
        have HS := Lib.hid hs
        clear hs hown hx hfx
        go_wp2
        go_roundw
        case rel => exact ⟨k + 1, by omega, by go_num, by rw [HS.out]; exact HO.out, hB⟩
        case measure => simp [intOf]; omega
    · obtain rfl : k = (p.bk b).body.length := by omega
      go_wp2_with (go_at_call 74; refine (S_sorted _ _ _ _ hown).mono ?_; rintro e w1 ⟨rv, rfl, hi1, hb1⟩)
      go_ret
      exact ⟨_, rfl, by rw [← HR.out]; exact hi1.lo_ (by omega), bthen hBw hb1⟩

set_option maxRecDepth 100000 in
theorem S_bound (v : Value) (p : Pr) (lo : Nat) (b : Int) (w : World) (hv : Prog w lo v p) (h0 : 0 ≤ b) (h1 : b < p.length) (hl : p.length ≤ 1000) (hbl : (p.bk b).body.length ≤ 1000) (hpl : (p.bk b).params.length ≤ 1000) :
    Calls Tryd.prog 76 #[v, .int .i64 b] w fun e w' => ∃ v', e = .returned v' ∧ Ints w' w.heap.size v' (boundF p b) ∧ Below w.heap.size w w' := by
  obtain ⟨sl, rfl, hv⟩ := hv
  obtain ⟨g, C, rfl, hg⟩ := hv.formS (by omega)
  have kn := knd (w := w) (W3 := w.alloc (.cells #[.slice (some ⟨g, 0, none⟩) p.length C] 35)) (lo := lo) (bx := w.heap.size) (w.heap.size + 1) (by simp) (by simp [go_sem]) (by omega) (hv.keep al1) al1
  have KN := Lib.hid kn
  have hR : nms (hasF ((p.bk b).params ++ selTo St.binds (p.bk b).body (p.bk b).body.length)) = boundF p b := selTo_bound _
  generalize boundF p b = R at *
  have HR := Lib.hid hR
  obtain ⟨hg0, A0, B0, C0, D0, e0, e1, e2, e3, hps, hbs⟩ := Prog.atg hv b h0 h1
  clear kn hv hR hbs e0 e1 e3
  go_enter Tryd.func76, Tryd.ntmps76
  go_wp2_with (go_at_call 104; refine (S_copyInts _ _ _ _ (hps.keep al1) (by omega)).mono ?_; rintro e w1 ⟨rv, rfl, hi1, hb1⟩)
  have hi2 : Ints w1 (w.heap.size + 1) rv (p.bk b).params := hi1.lo_ (by simp)
  have hB1 : Below (w.heap.size + 1) (w.alloc (.cells #[.slice (some ⟨g, 0, none⟩) p.length C] 35)) w1 := hb1.mono (by simp)
  clear e2 hps hi1 hb1
  go_loopw [5, 6] (fun o i wr => ∃ k : Nat, k ≤ (p.bk b).body.length ∧ i = .int .i64 k ∧ Ints wr (w.heap.size + 1) o ((p.bk b).params ++ selTo St.binds (p.bk b).body k) ∧ Below (w.heap.size + 1) (w.alloc (.cells #[.slice (some ⟨g, 0, none⟩) p.length C] 35)) wr) (fun _ i _ => (p.bk b).body.length - (intOf i).toNat)
  case atStart => exact ⟨0, Nat.zero_le _, rfl, by simpa [selTo] using hi2, hB1⟩
  case round =>
    clear hi2 hB1
    obtain ⟨k, hk, rfl, hown, hB⟩ := hrel
    obtain ⟨cb, hvr, hBw, hsz⟩ := KN.out wr hB
    obtain ⟨hgr, A2, A3, C2, C3, c0, c1, c2, c3, hps, hbs⟩ := Prog.atg hvr b h0 h1
    have hlen := selTo_len St.binds (p.bk b).body k
    by_cases hlt : k < (p.bk b).body.length
    · obtain ⟨A4, C4, r, e4, hn4, hC4, hA4, hr4, hcell4, _⟩ := hbs.rd
      obtain ⟨rfl, rfl⟩ : A3 = A4 ∧ C3 = C4 := by simpa using e4
      obtain ⟨d0, d1, d2, d3⟩ := hcell4 k hlt
      obtain rfl := hA4 (by omega)
      have hr := (hr4 (by omega)).2
      clear e4 hA4 hr4 hcell4 hn4 c0 c1 c2 hps hbs hvr
      unfold maxLen at hC4
      have HO := Lib.hid hown
      clear hown
      have hbd := binds_eq ((p.bk b).body.getD k default)
      by_cases hfx : ((p.bk b).body.getD k default).binds = true
      · have hs := selTo_yes St.binds _ k hlt hfx
        generalize hx : (p.bk b).body.getD k default = x at *
        have HS := Lib.hid hs
        rw [hfx] at hbd
        clear hs hx hfx
        by_cases hse : x.sets = true
        · have HSE := Lib.hid hse
          clear hbd hse
          go_wp2_with (first
            | (go_at_call 105; refine (S_sets x _).mono ?_; rintro e w1 ⟨rfl, hb1⟩; rw [HSE.out]; have hz1 := hb1.size; simp only [World.size_alloc] at hz1; obtain ⟨hc1, hf1⟩ := bcell hb1)
            | (at_builtin; refine wpList_append_ints rfl _ _ rfl _ _ _ [x.to] (w.heap.size + 1) _ rfl rfl ((HO.out.keep (bthen al1 hb1)).keep al1) (Ints.one _ _ _ (Nat.le_refl _)) (by rw [List.length_append]; show _ + 1 ≤ _; omega) (by rw [World.size_alloc]; omega) ?_; intro v' w2 hown1 hgrow hbel hfrom))
          go_roundw
          case rel => exact ⟨k + 1, by omega, by go_num, by rw [HS.out, ← List.append_assoc]; exact hown1, hB.trans (((bthen al1 hb1).mono hsz).trans ((al1.mono (by omega)).trans hbel))⟩
          case measure => simp [intOf]; omega
        · have hse := Bool.eq_false_iff.2 hse
          rw [hse, Bool.false_or] at hbd
          have HSE := Lib.hid hse
          have hk11 : (x.kind == 11) = true := hbd.symm
          clear hbd hse
          go_wp2_with (first
            | (go_at_call 105; refine (S_sets x _).mono ?_; rintro e w1 ⟨rfl, hb1⟩; rw [HSE.out]; have hz1 := hb1.size; simp only [World.size_alloc] at hz1; obtain ⟨hc1, hf1⟩ := bcell hb1)
            | (at_builtin; refine wpList_append_ints rfl _ _ rfl _ _ _ [x.to] (w.heap.size + 1) _ rfl rfl ((HO.out.keep (bthen al1 hb1)).keep al1) (Ints.one _ _ _ (Nat.le_refl _)) (by rw [List.length_append]; show _ + 1 ≤ _; omega) (by rw [World.size_alloc]; omega) ?_; intro v' w2 hown1 hgrow hbel hfrom))
          go_roundw
          case rel => exact ⟨k + 1, by omega, by go_num, by rw [HS.out, ← List.append_assoc]; exact hown1, hB.trans (((bthen al1 hb1).mono hsz).trans ((al1.mono (by omega)).trans hbel))⟩
          case measure => simp [intOf]; omega
      · have hfx := Bool.eq_false_iff.2 hfx
        have hs := selTo_no St.binds _ k hlt hfx
        generalize hx : (p.bk b).body.getD k default = x at *
        have HS := Lib.hid hs
        rw [hfx] at hbd
        clear hs hx hfx
        obtain ⟨hse, hk11⟩ : x.sets = false ∧ (x.kind == 11) = false := by
          have := hbd.symm
          rwa [Bool.or_eq_false_iff] at this
        have HSE := Lib.hid hse
        clear hbd hse
        go_wp2_with (go_at_call 105; refine (S_sets x _).mono ?_; rintro e w1 ⟨rfl, hb1⟩; rw [HSE.out]; have hz1 := hb1.size; simp only [World.size_alloc] at hz1; obtain ⟨hc1, hf1⟩ := bcell hb1)
        go_roundw
        case rel => exact ⟨k + 1, by omega, by go_num, by rw [HS.out]; exact HO.out.keep (bthen al1 hb1), hB.trans ((bthen al1 hb1).mono hsz)⟩
        case measure => simp [intOf]; omega
    · obtain rfl : k = (p.bk b).body.length := by omega
      go_wp2_with (go_at_call 74; refine (S_sorted _ _ _ _ hown).mono ?_; rintro e w1 ⟨rv, rfl, hi1, hb1⟩)
      go_ret
      exact ⟨_, rfl, by rw [← HR.out]; exact hi1.lo_ (by omega), bthen hBw hb1⟩

end Go.Proofs.YtpajkejdfalkiaaDoor
