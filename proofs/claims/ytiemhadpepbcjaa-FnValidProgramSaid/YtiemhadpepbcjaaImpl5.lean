/-
  Walks: the program's sets of names: declaredSet, boundSet, readSet, list. Condition: the block reads as data, its names are names.
-/
import Derived.Test.YtiemhadpepbcjaaImpl4
namespace Go.Proofs.Ytiemhadpepbcjaa
open Go.RowKit
set_option linter.unusedVariables false

/-- A set of names, as the program keeps it. -/
def setV (f : Int → Bool) : Value := .agg #[.bool (f 0), .bool (f 1), .bool (f 2), .bool (f 3), .bool (f 4), .bool (f 5), .bool (f 6), .bool (f 7)]

/-- A set of names in a block of its own. -/
def SetAt (w : World) (b : Nat) (f : Int → Bool) : Prop := w.rowIs b 77 8 (fun j => .bool (f j))

theorem SetAt.cells {w : World} {b : Nat} {f : Int → Bool} (h : SetAt w b f) : w.cell? ⟨b, 0, none⟩ = some (.bool (f 0)) ∧ w.cell? ⟨b, 1, none⟩ = some (.bool (f 1)) ∧ w.cell? ⟨b, 2, none⟩ = some (.bool (f 2)) ∧ w.cell? ⟨b, 3, none⟩ = some (.bool (f 3)) ∧
    w.cell? ⟨b, 4, none⟩ = some (.bool (f 4)) ∧ w.cell? ⟨b, 5, none⟩ = some (.bool (f 5)) ∧ w.cell? ⟨b, 6, none⟩ = some (.bool (f 6)) ∧ w.cell? ⟨b, 7, none⟩ = some (.bool (f 7)) :=
  ⟨h.cell (i := 0) (by omega), h.cell (i := 1) (by omega), h.cell (i := 2) (by omega), h.cell (i := 3) (by omega), h.cell (i := 4) (by omega), h.cell (i := 5) (by omega), h.cell (i := 6) (by omega), h.cell (i := 7) (by omega)⟩

theorem SetAt.zero (w : World) : SetAt (w.alloc (.cells #[.bool false, .bool false, .bool false, .bool false, .bool false, .bool false, .bool false, .bool false] 77)) w.heap.size (fun _ => false) :=
  World.rowIs_alloc w _ _ (fun _ => .bool false) (fun i hi => by
    match i, hi with
    | 0, _ => rfl
    | 1, _ => rfl
    | 2, _ => rfl
    | 3, _ => rfl
    | 4, _ => rfl
    | 5, _ => rfl
    | 6, _ => rfl
    | 7, _ => rfl)

theorem SetAt.add {w : World} {b : Nat} {f g : Int → Bool} (h : SetAt w b f) (x : Int) (h0 : 0 ≤ x) (hg : ∀ y : Int, 0 ≤ y → y ≤ 7 → g y = (f y || x == y)) : SetAt (w.setCell ⟨b, x.toNat, none⟩ (.bool true)) b g := by
  refine (World.rowIs.set h x.toNat (.bool true)).congr fun j hj => ?_
  have hy := hg j (by omega) (by omega)
  by_cases e : j = x.toNat
  · rw [if_pos e, hy, show (x == (j : Int)) = true from by simp; omega, Bool.or_true]
  · rw [if_neg e, hy, show (x == (j : Int)) = false from by simp; omega, Bool.or_false]

theorem SetAt.alloc {w : World} {b : Nat} {f : Int → Bool} (h : SetAt w b f) (o : Obj) : SetAt (w.alloc o) b f := World.rowIs.alloc h o
theorem SetAt.congr {w : World} {b : Nat} {f g : Int → Bool} (h : SetAt w b f) (hg : ∀ y : Int, 0 ≤ y → y ≤ 7 → g y = f y) : SetAt w b g :=
  World.rowIs.congr h fun j hj => by rw [hg j (by omega) (by omega)]
theorem SetAt.below {w w' : World} {b B : Nat} {f : Int → Bool} (h : SetAt w b f) (hb : Below B w w') (hB : b < B) : SetAt w' b f := World.rowIs.of_block h (hb.block b hB)
theorem SetAt.keep {w w' : World} {b : Nat} {f : Int → Bool} (h : SetAt w b f) (hb : Below w.heap.size w w') : SetAt w' b f := h.below hb (World.rowIs.lt h)

theorem below_set8 {B b : Nat} {a w : World} {v0 v1 v2 v3 v4 v5 v6 v7 : Value} (h : Below B a w) (hb : B ≤ b) :
    Below B a ((((((((w.setCell ⟨b, 0, none⟩ v0).setCell ⟨b, 1, none⟩ v1).setCell ⟨b, 2, none⟩ v2).setCell ⟨b, 3, none⟩ v3).setCell ⟨b, 4, none⟩ v4).setCell ⟨b, 5, none⟩ v5).setCell ⟨b, 6, none⟩ v6).setCell ⟨b, 7, none⟩ v7) :=
  (((((((h.setCell (p := ⟨b, 0, none⟩) hb _).setCell (p := ⟨b, 1, none⟩) hb _).setCell (p := ⟨b, 2, none⟩) hb _).setCell (p := ⟨b, 3, none⟩) hb _).setCell (p := ⟨b, 4, none⟩) hb _).setCell (p := ⟨b, 5, none⟩) hb _).setCell (p := ⟨b, 6, none⟩) hb _).setCell (p := ⟨b, 7, none⟩) hb _

/-- The names of those of the first k statements for which f holds. -/
def hitTo (f : St → Bool) (l : List St) (k : Nat) (x : Int) : Bool := (l.take k).any fun s => f s && s.to == x
theorem hitTo_succ (f : St → Bool) (l : List St) (k : Nat) (h : k < l.length) (x : Int) : hitTo f l (k + 1) x = (hitTo f l k x || (f (l.getD k default) && (l.getD k default).to == x)) := by
  unfold hitTo
  rw [List.take_succ_eq_append_getElem h, List.any_append]
  have e : l.getD k default = l[k] := by simp [List.getD, h]
  rw [e]
  simp

set_option maxRecDepth 100000 in
theorem I_declaredSet (k : Bk) (A2 A3 : Option Addr) (n2 C2 C3 lo : Nat) (d : Int) (w : World) (hs : Stmts w lo (.slice A3 k.body.length C3) k.body) (hto : ∀ j, j < k.body.length → 0 ≤ (k.body.getD j default).to ∧ (k.body.getD j default).to ≤ 7) :
    Calls Try.prog 73 #[.agg #[.int .i64 k.kind, .int .i64 k.parent, .slice A2 n2 C2, .slice A3 k.body.length C3], .int .i64 d] w fun e w' => e = .returned (setV (k.declB d)) ∧ Below w.heap.size w w' := by
  have hR : ∀ x, k.declB d x = hitTo (fun s => s.kind == d) k.body k.body.length x := fun x => by unfold Bk.declB hitTo; rw [List.take_length]
  obtain ⟨f, hf⟩ : ∃ f : St → Bool, f = fun s => s.kind == d := ⟨_, rfl⟩
  rw [← hf] at hR
  have hfd : ∀ s : St, f s = (s.kind == d) := fun s => by rw [hf]
  generalize k.declB d = R at *
  obtain ⟨K, Pa, ps, l⟩ := k
  simp only at hs hto hR ⊢
  have HR := Lib.hid hR
  have HF := Lib.hid hfd
  have HS := Lib.hid hs
  have HTO := Lib.hid hto
  clear hR hf hfd hs hto
  go_enter Try.func73, Try.ntmps73
  go_wp2
  obtain ⟨W2, hW2⟩ : ∃ W2 : World, W2 = ((w.alloc (.cells #[.int .i64 K, .int .i64 Pa, .slice A2 n2 C2, .slice A3 l.length C3] 56)).alloc (.cells #[.bool false, .bool false, .bool false, .bool false, .bool false, .bool false, .bool false, .bool false] 77)) := ⟨_, rfl⟩
  have hz2 : W2.heap.size = w.heap.size + 1 + 1 := by rw [hW2]; simp
  have hb2 : Below w.heap.size w W2 := by rw [hW2]; exact al2
  have hres : SetAt W2 (w.heap.size + 1) (fun _ => false) := by rw [hW2]; have := SetAt.zero (w.alloc (.cells #[.int .i64 K, .int .i64 Pa, .slice A2 n2 C2, .slice A3 l.length C3] 56)); rwa [World.size_alloc] at this
  rw [← hW2]
  have HRES := Lib.hid hres
  have HB2 := Lib.hid hb2
  have HZ2 := Lib.hid hz2
  clear hW2 hres hz2 hb2
  go_loopw [11] (fun i wr => ∃ j : Nat, j ≤ l.length ∧ i = .int .i64 j ∧ SetAt wr (w.heap.size + 1 + 1) (hitTo f l j) ∧ Below (w.heap.size + 1 + 1) W2 wr ∧ w.heap.size + 1 + 1 < wr.heap.size) (fun i _ => l.length - (intOf i).toNat)
  case atStart => exact ⟨0, Nat.zero_le _, rfl, by have := SetAt.zero W2; rw [HZ2.out] at this; exact this.congr (fun y _ _ => by simp [hitTo]), by have := al1 (w := W2) (o := .cells #[.bool false, .bool false, .bool false, .bool false, .bool false, .bool false, .bool false, .bool false] 77); rwa [HZ2.out] at this, by rw [World.size_alloc, HZ2.out]; omega⟩
  case round =>
    obtain ⟨j, hj, rfl, hset, hB, hz⟩ := hrel
    have hBw : Below w.heap.size w wr := HB2.out.trans (hB.mono (by omega))
    obtain ⟨A4, C4, r, e4, hn4, hC4, hA4, hr4, hcell4, _⟩ := (HS.out.keep hBw).rd
    obtain ⟨rfl, rfl⟩ : A3 = A4 ∧ C3 = C4 := by simpa using e4
    unfold maxLen at hC4
    clear e4
    by_cases hlt : j < l.length
    · obtain ⟨d0, d1, d2, d3⟩ := hcell4 j hlt
      obtain rfl := hA4 (by omega)
      have hr := (hr4 (by omega)).2
      have hsu := hitTo_succ f l j hlt
      obtain ⟨t0, t1⟩ := HTO.out j hlt
      clear hA4 hr4 hcell4
      generalize hx : l.getD j default = x at *
      have HSU := Lib.hid hsu
      clear hsu hx
      by_cases hfx : f x = true
      · have ht := (HF.out _).symm.trans hfx
        have HFX := Lib.hid hfx
        have hcell := (World.rowIs.alloc hset (.cells #[.int .i64 x.kind, .int .i64 x.to, .int .i64 x.a, .int .i64 x.b] 60)).cell (i := x.to.toNat) (by omega)
        have hfz := (World.rowIs.alloc hset (.cells #[.int .i64 x.kind, .int .i64 x.to, .int .i64 x.a, .int .i64 x.b] 60)).frozen x.to.toNat
        have t2 : x.to < 8 := by omega
        clear hfx
        go_wp2
        go_roundw
        case rel => exact ⟨j + 1, by omega, by go_num, (hset.add x.to t0 (fun y _ _ => by rw [HSU.out y, HFX.out, Bool.true_and])).alloc _, (hB.setCell (p := ⟨w.heap.size + 1 + 1, _, none⟩) (Nat.le_refl _) _).alloc (by simp; omega) _, by simp; omega⟩
        case measure => simp [intOf]; omega
      · have hfx := Bool.eq_false_iff.2 hfx
        have ht := (HF.out _).symm.trans hfx
        have HFX := Lib.hid hfx
        clear hfx
        go_wp2
        go_roundw
        case rel => exact ⟨j + 1, by omega, by go_num, (hset.alloc _).congr (fun y _ _ => by rw [HSU.out y, HFX.out, Bool.false_and, Bool.or_false]), hB.alloc (by omega) _, by simp; omega⟩
        case measure => simp [intOf]; omega
    · obtain rfl : j = l.length := by omega
      have hset2 : SetAt wr (w.heap.size + 1 + 1) R := hset.congr (fun y _ _ => HR.out y)
      have hres2 := HRES.out.below hB (by omega)
      obtain ⟨s0, s1, s2, s3, s4, s5, s6, s7⟩ := hset2.cells
      obtain ⟨q0, q1, q2, q3, q4, q5, q6, q7⟩ := hres2.cells
      have hfz := World.rowIs.frozen hres2
      clear hset hset2 hres2 hA4 hr4 hcell4 hn4
      go_wp2
      exact bodyPost_ret (v := setV R) (by simp [results, Try.f73, go_sem, q0, q1, q2, q3, q4, q5, q6, q7, setV]) rfl ⟨rfl, below_set8 hBw (by omega)⟩

/-- The first j of a list have x. -/
def parTo (l : List Int) (j : Nat) (x : Int) : Bool := (l.take j).contains x
theorem parTo_succ (l : List Int) (j : Nat) (h : j < l.length) (x : Int) : parTo l (j + 1) x = (parTo l j x || l.getD j 0 == x) := by
  unfold parTo
  rw [List.take_succ_eq_append_getElem h]
  have e : l.getD j 0 = l[j] := by simp [List.getD, h]
  rw [e, Bool.eq_iff_iff]
  simp only [Bool.or_eq_true, List.contains_iff_mem, List.mem_append, List.mem_singleton, beq_iff_eq]
  exact or_congr Iff.rfl eq_comm

set_option maxRecDepth 100000 in
theorem I_boundSet (k : Bk) (A2 A3 : Option Addr) (C2 C3 lo : Nat) (w : World) (hp : Ints w lo (.slice A2 k.params.length C2) k.params) (hs : Stmts w lo (.slice A3 k.body.length C3) k.body) (hpa : ∀ x ∈ k.params, 0 ≤ x ∧ x ≤ 7) (hto : ∀ j, j < k.body.length → 0 ≤ (k.body.getD j default).to ∧ (k.body.getD j default).to ≤ 7) :
    Calls Try.prog 49 #[.agg #[.int .i64 k.kind, .int .i64 k.parent, .slice A2 k.params.length C2, .slice A3 k.body.length C3]] w fun e w' => e = .returned (setV k.boundB) ∧ Below w.heap.size w w' := by
  have hR : ∀ x, k.boundB x = (parTo k.params k.params.length x || hitTo St.binds k.body k.body.length x) := fun x => by unfold Bk.boundB parTo hitTo; rw [List.take_length, List.take_length]
  generalize k.boundB = R at *
  obtain ⟨K, Pa, ps, l⟩ := k
  simp only at hp hs hpa hto hR ⊢
  have HR := Lib.hid hR
  have HP := Lib.hid hp
  have HS := Lib.hid hs
  have HPA := Lib.hid hpa
  have HTO := Lib.hid hto
  clear hR hp hs hpa hto
  go_enter Try.func49, Try.ntmps49
  go_wp2
  obtain ⟨W2, hW2⟩ : ∃ W2 : World, W2 = ((w.alloc (.cells #[.int .i64 K, .int .i64 Pa, .slice A2 ps.length C2, .slice A3 l.length C3] 56)).alloc (.cells #[.bool false, .bool false, .bool false, .bool false, .bool false, .bool false, .bool false, .bool false] 77)) := ⟨_, rfl⟩
  have hz2 : W2.heap.size = w.heap.size + 1 + 1 := by rw [hW2]; simp
  have hb2 : Below w.heap.size w W2 := by rw [hW2]; exact al2
  have hres : SetAt W2 (w.heap.size + 1) (fun _ => false) := by rw [hW2]; have := SetAt.zero (w.alloc (.cells #[.int .i64 K, .int .i64 Pa, .slice A2 ps.length C2, .slice A3 l.length C3] 56)); rwa [World.size_alloc] at this
  have hbox : W2.cell? ⟨w.heap.size, 3, none⟩ = some (.slice A3 l.length C3) := by rw [hW2]; simp [go_sem]
  rw [← hW2]
  have HRES := Lib.hid hres
  have HB2 := Lib.hid hb2
  have HZ2 := Lib.hid hz2
  have HBOX := Lib.hid hbox
  clear hW2 hres hz2 hb2 hbox
  go_loopw [11] (fun i wr => ∃ j : Nat, j ≤ ps.length ∧ i = .int .i64 j ∧ SetAt wr (w.heap.size + 1 + 1) (parTo ps j) ∧ Below (w.heap.size + 1 + 1) W2 wr ∧ w.heap.size + 1 + 1 < wr.heap.size) (fun i _ => ps.length - (intOf i).toNat)
  case atStart => exact ⟨0, Nat.zero_le _, rfl, by have := SetAt.zero W2; rw [HZ2.out] at this; exact this.congr (fun y _ _ => by simp [parTo]), by have := al1 (w := W2) (o := .cells #[.bool false, .bool false, .bool false, .bool false, .bool false, .bool false, .bool false, .bool false] 77); rwa [HZ2.out] at this, by rw [World.size_alloc, HZ2.out]; omega⟩
  case round =>
    obtain ⟨j, hj, rfl, hset, hB, hz⟩ := hrel
    have hBw : Below w.heap.size w wr := HB2.out.trans (hB.mono (by omega))
    obtain ⟨A4, C4, r, e4, hn4, hC4, hA4, hr4, hcell4, _⟩ := (HP.out.keep hBw).rd
    obtain ⟨rfl, rfl⟩ : A2 = A4 ∧ C2 = C4 := by simpa using e4
    unfold maxLen at hC4
    clear e4
    by_cases hlt : j < ps.length
    · have d0 := hcell4 j hlt
      obtain rfl := hA4 (by omega)
      have hr := (hr4 (by omega)).2
      have hsu := parTo_succ ps j hlt
      have ht : 0 ≤ ps.getD j 0 ∧ ps.getD j 0 ≤ 7 := HPA.out _ (by simp [List.getD, hlt])
      obtain ⟨t0, t1⟩ := ht
      clear hA4 hr4 hcell4
      generalize hx : ps.getD j 0 = x at *
      have HSU := Lib.hid hsu
      clear hsu hx
      have hcell := hset.cell (i := x.toNat) (by omega)
      have hfz := hset.frozen x.toNat
      have t2 : x < 8 := by omega
      go_wp2
      go_roundw
      case rel => exact ⟨j + 1, by omega, by go_num, hset.add x t0 (fun y _ _ => HSU.out y), hB.setCell (p := ⟨w.heap.size + 1 + 1, _, none⟩) (Nat.le_refl _) _, by simp; omega⟩
      case measure => simp [intOf]; omega
    · obtain rfl : j = ps.length := by omega
      have cb := (hB.cell (p := ⟨w.heap.size, 3, none⟩) (by show w.heap.size < _; omega)).trans HBOX.out
      clear hcell4 hA4 hr4 hBw
      go_wp2
      go_loopw [21] (fun i wi => ∃ j : Nat, j ≤ l.length ∧ i = .int .i64 j ∧ SetAt wi (w.heap.size + 1 + 1) (fun x => parTo ps ps.length x || hitTo St.binds l j x) ∧ Below (w.heap.size + 1 + 1) W2 wi ∧ w.heap.size + 1 + 1 < wi.heap.size) (fun i _ => l.length - (intOf i).toNat)
      case atStart => exact ⟨0, Nat.zero_le _, rfl, hset.congr (fun y _ _ => by simp [hitTo]), hB, hz⟩
      case round =>
        rename_i wo
        clear hset hB hz cb
        obtain ⟨j, hj, rfl, hset, hB, hz⟩ := hrel
        have hBw : Below w.heap.size w wr := HB2.out.trans (hB.mono (by omega))
        obtain ⟨A4, C4, r, e4, hn4, hC4, hA4, hr4, hcell4, _⟩ := (HS.out.keep hBw).rd
        obtain ⟨rfl, rfl⟩ : A3 = A4 ∧ C3 = C4 := by simpa using e4
        unfold maxLen at hC4
        have HSET := Lib.hid hset
        clear e4 hset
        by_cases hlt : j < l.length
        · obtain ⟨d0, d1, d2, d3⟩ := hcell4 j hlt
          obtain rfl := hA4 (by omega)
          have hr := (hr4 (by omega)).2
          have hsu := hitTo_succ St.binds l j hlt
          obtain ⟨t0, t1⟩ := HTO.out j hlt
          clear hA4 hr4 hcell4
          generalize hx : l.getD j default = x at *
          have HSU := Lib.hid hsu
          clear hsu hx
          by_cases hfx : x.binds = true
          · have HFX := Lib.hid hfx
            clear hfx
            have t2 : x.to < 8 := by omega
            go_wp2_with fail
            refine (I_binds x _).mono ?_
            rintro e w4 ⟨rfl, hb4⟩
            rw [HFX.out]
            have hset4 := (HSET.out.alloc _).keep hb4
            have hB4 := (hB.alloc (by omega) _).trans (hb4.mono (by simp; omega))
            have hz4 := hb4.size
            have hc4 := (bcell hb4).1
            have hcell := hset4.cell (i := x.to.toNat) (by omega)
            have hfz := hset4.frozen x.to.toNat
            have HS4 := Lib.hid hset4
            simp only [World.size_alloc] at hz4 hc4
            have b1 := hc4 wr.heap.size 1 (by omega)
            clear hb4 hc4 hset4 d0 d1 d2 d3
            go_wp2
            go_roundw
            case rel => exact ⟨j + 1, by omega, by go_num, HS4.out.add x.to t0 (fun y _ _ => by rw [HSU.out y, HFX.out, Bool.true_and, Bool.or_assoc]), hB4.setCell (p := ⟨w.heap.size + 1 + 1, _, none⟩) (Nat.le_refl _) _, by simp; omega⟩
            case measure => simp [intOf]; omega
          · have hfx := Bool.eq_false_iff.2 hfx
            have HFX := Lib.hid hfx
            clear hfx
            go_wp2_with fail
            refine (I_binds x _).mono ?_
            rintro e w4 ⟨rfl, hb4⟩
            rw [HFX.out]
            have hset4 := (HSET.out.alloc _).keep hb4
            have hB4 := (hB.alloc (by omega) _).trans (hb4.mono (by simp; omega))
            have hz4 := hb4.size
            simp only [World.size_alloc] at hz4
            have HS4 := Lib.hid hset4
            clear hb4 hset4 d0 d1 d2 d3
            go_wp2
            go_roundw
            case rel => exact ⟨j + 1, by omega, by go_num, HS4.out.congr (fun y _ _ => by rw [HSU.out y, HFX.out, Bool.false_and, Bool.or_false]), hB4, by omega⟩
            case measure => simp [intOf]; omega
        · obtain rfl : j = l.length := by omega
          have hset2 : SetAt wr (w.heap.size + 1 + 1) R := HSET.out.congr (fun y _ _ => HR.out y)
          have hres2 := HRES.out.below hB (by omega)
          obtain ⟨s0, s1, s2, s3, s4, s5, s6, s7⟩ := hset2.cells
          obtain ⟨q0, q1, q2, q3, q4, q5, q6, q7⟩ := hres2.cells
          have hfz := World.rowIs.frozen hres2
          clear hset2 hres2 hA4 hr4 hcell4 hn4
          go_wp2
          exact bodyPost_ret (v := setV R) (by simp [results, Try.f49, go_sem, q0, q1, q2, q3, q4, q5, q6, q7, setV]) rfl ⟨rfl, below_set8 hBw (by omega)⟩

end Go.Proofs.Ytiemhadpepbcjaa
