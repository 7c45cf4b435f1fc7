/-
  Walks: LoadOp, StoreOp, DropOp, of the reference and of the program. Condition: the argument reads as a program; the program's table of codes stands in memory.
-/
import Derived.Test.YtpajkejdfalkiaaDoorImpl15
import Derived.Test.YtpajkejdfalkiaaDoorImpl10
import Derived.Test.YtpajkejdfalkiaaDoorSpec15
import Derived.Test.YtpajkejdfalkiaaDoorOpv
namespace Go.Proofs.YtpajkejdfalkiaaDoor
open Go.RowKit
set_option linter.unusedVariables false

def codesL : List Int := [8, 5, 11, 5, 2]
theorem of_codes {W : World} (h : laidMetH Tryd.prog [("loop.example/closurecells/impl.loadCodes", Rows.laid_loop_example_closurecells_impl_loadCodes)] W) : ∀ i, i < 5 → W.cell? ⟨1, i, none⟩ = some (.int .i64 (codesL.getD i 0)) := by
  rw [MakeChecks.laidMetH_plain _ _ _ (by kernel_rfl)] at h
  obtain ⟨ps, ⟨g0, t0, cs0, f0, p0, q0, hg0, ht0, hv0, hd0, _, _⟩, _, _⟩ := h
  obtain rfl := Option.some.inj ((show Tryd.prog.globalNamed "loop.example/closurecells/impl.loadCodes" = some 1 by kernel_rfl).symm.trans hg0)
  obtain rfl := Option.some.inj ((show (Tryd.prog.globals[1]?).map (·.type) = some 105 by kernel_rfl).symm.trans ht0)
  exact arr_cells Tryd.underlying105 rfl hg0 hv0 hd0

theorem symF_cases (p : Pr) (b x : Int) : symF p b x = 0 ∨ symF p b x = 1 ∨ symF p b x = 2 ∨ symF p b x = 3 ∨ symF p b x = 4 := by
  unfold symF
  split
  · omega
  split
  · omega
  split
  · omega
  split <;> omega
/-- The code and the place of an order that does something with a name. -/
def opC (p : Pr) (b x d : Int) : Int := (if symF p b x = 0 then 8 else if symF p b x = 2 then 11 else if symF p b x = 4 then 2 else 5) + d
def opA (p : Pr) (b x : Int) : Int := if symF p b x = 0 ∨ symF p b x = 2 then x else if symF p b x = 4 then plc (fastsF p b) x else cplF p b x
theorem opC_0 {p : Pr} {b x d : Int} (h : symF p b x = 0) : opC p b x d = 8 + d ∧ opA p b x = x := by unfold opC opA; rw [h]; simp
theorem opC_1 {p : Pr} {b x d : Int} (h : symF p b x = 1) : opC p b x d = 5 + d ∧ opA p b x = cplF p b x := by unfold opC opA; rw [h]; simp
theorem opC_2 {p : Pr} {b x d : Int} (h : symF p b x = 2) : opC p b x d = 11 + d ∧ opA p b x = x := by unfold opC opA; rw [h]; simp
theorem opC_3 {p : Pr} {b x d : Int} (h : symF p b x = 3) : opC p b x d = 5 + d ∧ opA p b x = cplF p b x := by unfold opC opA; rw [h]; simp
theorem opC_4 {p : Pr} {b x d : Int} (h : symF p b x = 4) : opC p b x d = 2 + d ∧ opA p b x = plc (fastsF p b) x := by unfold opC opA; rw [h]; simp
def usedOk (p : Pr) (b x : Int) : Bool := validP p && ((shapeAt p b && isNm x) && (p.bk b).usesB x)
def rOpC (p : Pr) (b x d : Int) : Int := if usedOk p b x then opC p b x d else 0
def rOpA (p : Pr) (b x : Int) : Int := if usedOk p b x then opA p b x else 0
theorem opArgs (w : World) (a b : Int) : (w.alloc (.cells #[.int .i64 a, .int .i64 b] 24)).cell? ⟨w.heap.size, 0, none⟩ = some (.int .i64 a) ∧ (w.alloc (.cells #[.int .i64 a, .int .i64 b] 24)).cell? ⟨w.heap.size, 1, none⟩ = some (.int .i64 b) := by
  constructor <;> simp [go_sem]

set_option maxRecDepth 100000 in
set_option maxHeartbeats 2000000 in
theorem S_nameOp (sl : Value) (p : Pr) (lo : Nat) (b x d : Int) (w : World) (hv : Blks w lo sl p) (hs : shape p = true) (hb0 : 0 ≤ b) (hb1 : b < p.length) (hx0 : 0 ≤ x) (hx1 : x ≤ 7) (hd0 : 0 ≤ d) (hd1 : d ≤ 2) :
    Calls Tryd.prog 32 #[.agg #[sl], .int .i64 b, .int .i64 x, .int .i64 d] w fun e w' => e = .returned (.agg #[.int .i64 (opC p b x d), .int .i64 (opA p b x)]) ∧ Below w.heap.size w w' := by
  obtain ⟨A, C, rfl⟩ := hv.form
  have HV := Lib.hid hv
  have HS := Lib.hid hs
  clear hv hs
  have d0 : ∀ (w' : World), Below ((w.alloc (.cells #[.slice A p.length C] 35)).alloc (.cells #[.int .i64 0, .int .i64 0] 24)).heap.size ((w.alloc (.cells #[.slice A p.length C] 35)).alloc (.cells #[.int .i64 0, .int .i64 0] 24)) w' → w'.cell? ⟨w.heap.size, 0, none⟩ = some (.slice A p.length C) ∧ w'.cell? ⟨w.heap.size + 1, 0, none⟩ = some (.int .i64 0) ∧ w'.cell? ⟨w.heap.size + 1, 1, none⟩ = some (.int .i64 0) ∧ w'.frozen? ⟨w.heap.size + 1, 0, none⟩ = false ∧ w'.frozen? ⟨w.heap.size + 1, 1, none⟩ = false ∧ w.heap.size + 1 < w'.heap.size := fun w' hb => ⟨cell_later hb (by simp [go_sem]), cell_later hb (by simp [go_sem]), cell_later hb (by simp [go_sem]), ((bcell hb).2 _ _ (by simp)).trans (by simp [go_sem]), ((bcell hb).2 _ _ (by simp)).trans (by simp [go_sem]), by have := hb.size; simp only [World.size_alloc] at this; omega⟩
  have D0 := Lib.hid d0
  clear d0
  have hw8 : IntKind.i64.wrap (8 + d) = 8 + d := IntWalk.i64_in _ (by omega)
  have hw11 : IntKind.i64.wrap (11 + d) = 11 + d := IntWalk.i64_in _ (by omega)
  have hw2 : IntKind.i64.wrap (2 + d) = 2 + d := IntWalk.i64_in _ (by omega)
  have hw5 : IntKind.i64.wrap (5 + d) = 5 + d := IntWalk.i64_in _ (by omega)
  rcases symF_cases p b x with h | h | h | h | h
  · have HSY := Lib.hid h
    rw [(opC_0 h).1, (opC_0 (d := d) h).2]
    clear h
    go_enter Tryd.func32, Tryd.ntmps32
    go_wp2_with fail
    refine (S_symbol _ p lo b x _ (HV.out.keep al2) HS.out hb0 hb1 hx0 hx1).mono ?_
    rintro e w1 ⟨rfl, hb⟩
    rw [HSY.out]
    obtain ⟨c0, q0, q1, u0, u1, z0⟩ := D0.out _ hb
    have hB := bthen al2 hb
    have HB := Lib.hid hB
    clear HSY
    clear hb
    go_wp2
    exact bodyPost_ret (v := .agg #[.int .i64 (8 + d), .int .i64 x]) (by simp [results, Tryd.results32, go_sem, q0, q1]) rfl ⟨rfl, (HB.out.setCell (Nat.le_succ _) _).setCell (Nat.le_succ _) _⟩
  · have HSY := Lib.hid h
    rw [(opC_1 h).1, (opC_1 (d := d) h).2]
    clear h
    go_enter Tryd.func32, Tryd.ntmps32
    go_wp2_with fail
    refine (S_symbol _ p lo b x _ (HV.out.keep al2) HS.out hb0 hb1 hx0 hx1).mono ?_
    rintro e w1 ⟨rfl, hb⟩
    rw [HSY.out]
    obtain ⟨c0, q0, q1, u0, u1, z0⟩ := D0.out _ hb
    have hB := bthen al2 hb
    have HB := Lib.hid hB
    clear HSY
    go_wp2_with fail
    refine (S_cellPlace _ p lo b x _ (HV.out.keep hB) HS.out hb0 hb1).mono ?_
    rintro e w2 ⟨rfl, hb2⟩
    obtain ⟨c0, q0, q1, u0, u1, z0⟩ := D0.out _ (bthen hb hb2)
    have HB2 := Lib.hid (bthen hB hb2)
    clear hb hb2 hB
    go_wp2
    exact bodyPost_ret (v := .agg #[.int .i64 (5 + d), .int .i64 (cplF p b x)]) (by simp [results, Tryd.results32, go_sem, q0, q1]) rfl ⟨rfl, (HB2.out.setCell (Nat.le_succ _) _).setCell (Nat.le_succ _) _⟩
  · have HSY := Lib.hid h
    rw [(opC_2 h).1, (opC_2 (d := d) h).2]
    clear h
    go_enter Tryd.func32, Tryd.ntmps32
    go_wp2_with fail
    refine (S_symbol _ p lo b x _ (HV.out.keep al2) HS.out hb0 hb1 hx0 hx1).mono ?_
    rintro e w1 ⟨rfl, hb⟩
    rw [HSY.out]
    obtain ⟨c0, q0, q1, u0, u1, z0⟩ := D0.out _ hb
    have hB := bthen al2 hb
    have HB := Lib.hid hB
    clear HSY
    clear hb
    go_wp2
    exact bodyPost_ret (v := .agg #[.int .i64 (11 + d), .int .i64 x]) (by simp [results, Tryd.results32, go_sem, q0, q1]) rfl ⟨rfl, (HB.out.setCell (Nat.le_succ _) _).setCell (Nat.le_succ _) _⟩
  · have HSY := Lib.hid h
    rw [(opC_3 h).1, (opC_3 (d := d) h).2]
    clear h
    go_enter Tryd.func32, Tryd.ntmps32
    go_wp2_with fail
    refine (S_symbol _ p lo b x _ (HV.out.keep al2) HS.out hb0 hb1 hx0 hx1).mono ?_
    rintro e w1 ⟨rfl, hb⟩
    rw [HSY.out]
    obtain ⟨c0, q0, q1, u0, u1, z0⟩ := D0.out _ hb
    have hB := bthen al2 hb
    have HB := Lib.hid hB
    clear HSY
    go_wp2_with fail
    refine (S_cellPlace _ p lo b x _ (HV.out.keep hB) HS.out hb0 hb1).mono ?_
    rintro e w2 ⟨rfl, hb2⟩
    obtain ⟨c0, q0, q1, u0, u1, z0⟩ := D0.out _ (bthen hb hb2)
    have HB2 := Lib.hid (bthen hB hb2)
    clear hb hb2 hB
    go_wp2
    exact bodyPost_ret (v := .agg #[.int .i64 (5 + d), .int .i64 (cplF p b x)]) (by simp [results, Tryd.results32, go_sem, q0, q1]) rfl ⟨rfl, (HB2.out.setCell (Nat.le_succ _) _).setCell (Nat.le_succ _) _⟩
  · have HSY := Lib.hid h
    rw [(opC_4 h).1, (opC_4 (d := d) h).2]
    clear h
    go_enter Tryd.func32, Tryd.ntmps32
    go_wp2_with fail
    refine (S_symbol _ p lo b x _ (HV.out.keep al2) HS.out hb0 hb1 hx0 hx1).mono ?_
    rintro e w1 ⟨rfl, hb⟩
    rw [HSY.out]
    obtain ⟨c0, q0, q1, u0, u1, z0⟩ := D0.out _ hb
    have hB := bthen al2 hb
    have HB := Lib.hid hB
    clear HSY
    go_wp2_with fail
    refine (S_fasts _ p lo b _ (HV.out.keep hB) HS.out hb0 hb1).mono ?_
    rintro e w2 ⟨v2, rfl, h2, hb2⟩
    obtain ⟨c0, q0, q1, u0, u1, z0⟩ := D0.out _ (bthen hb hb2)
    have HB2 := Lib.hid (bthen hB hb2)
    clear hb hb2 hB
    go_wp2_with fail
    refine (S_placeIn v2 _ _ x _ h2).mono ?_
    rintro e w' ⟨rfl, rfl⟩
    clear h2
    go_wp2
    exact bodyPost_ret (v := .agg #[.int .i64 (2 + d), .int .i64 (plc (fastsF p b) x)]) (by simp [results, Tryd.results32, go_sem, q0, q1]) rfl ⟨rfl, (HB2.out.setCell (Nat.le_succ _) _).setCell (Nat.le_succ _) _⟩

set_option maxRecDepth 100000 in
set_option maxHeartbeats 2000000 in
theorem I_accessOp (A : Nat → Nat) (p : Pr) (lo B : Nat) (b x d : Int) (w : World) (hrow : w.rowIs B 81 p.length (fun j => .pointer (some ⟨A j, 0, none⟩))) (hsc : Scopes w lo A p) (hs : shape p = true) (hb0 : 0 ≤ b) (hb1 : b < p.length) (hx0 : 0 ≤ x) (hx1 : x ≤ 7) (hd0 : 0 ≤ d) (hd1 : d ≤ 2)
    (hT : ∀ i, i < 5 → w.cell? ⟨1, i, none⟩ = some (.int .i64 (codesL.getD i 0))) :
    Calls Tryd.prog 55 #[.slice (some ⟨B, 0, none⟩) p.length p.length, .int .i64 b, .int .i64 x, .int .i64 d] w fun e w' => e = .returned (.agg #[.int .i64 (opC p b x d), .int .i64 (opA p b x)]) ∧ Below w.heap.size w w' := by
  have HROW := Lib.hid hrow
  have HSC := Lib.hid hsc
  have HS := Lib.hid hs
  have HT := Lib.hid hT
  clear hrow hsc hs hT
  have hrk : ∀ (w' : World), Below w.heap.size w w' → w'.rowIs B 81 p.length (fun j => .pointer (some ⟨A j, 0, none⟩)) := fun w' hb => World.rowIs.of_block HROW.out (hb.block B (World.rowIs.lt HROW.out))
  have HRK := Lib.hid hrk
  clear hrk
  have d0 : ∀ (w' : World), Below (w.alloc (.cells #[.int .i64 0, .int .i64 0] 24)).heap.size (w.alloc (.cells #[.int .i64 0, .int .i64 0] 24)) w' → w'.cell? ⟨w.heap.size, 0, none⟩ = some (.int .i64 0) ∧ w'.cell? ⟨w.heap.size, 1, none⟩ = some (.int .i64 0) ∧ w'.frozen? ⟨w.heap.size, 0, none⟩ = false ∧ w'.frozen? ⟨w.heap.size, 1, none⟩ = false ∧ w.heap.size < w'.heap.size := fun w' hb => ⟨cell_later hb (by simp [go_sem]), cell_later hb (by simp [go_sem]), ((bcell hb).2 _ _ (by simp)).trans (by simp [go_sem]), ((bcell hb).2 _ _ (by simp)).trans (by simp [go_sem]), by have := hb.size; simp only [World.size_alloc] at this; omega⟩
  have D0 := Lib.hid d0
  clear d0
  have hw8 : IntKind.i64.wrap (8 + d) = 8 + d := IntWalk.i64_in _ (by omega)
  have hw11 : IntKind.i64.wrap (11 + d) = 11 + d := IntWalk.i64_in _ (by omega)
  have hw2 : IntKind.i64.wrap (2 + d) = 2 + d := IntWalk.i64_in _ (by omega)
  have hw5 : IntKind.i64.wrap (5 + d) = 5 + d := IntWalk.i64_in _ (by omega)
  have h1b : 1 < w.heap.size := World.block_lt_of_cell? _ _ (HT.out 0 (by omega))
  rcases symF_cases p b x with h | h | h | h | h
  · have HSY := Lib.hid h
    rw [(opC_0 h).1, (opC_0 (d := d) h).2]
    clear h
    go_enter Tryd.func55, Tryd.ntmps55
    go_wp2_with fail
    refine (I_symbolOf A p lo B b x _ (HRK.out _ al1) (HSC.out.keep al1) HS.out hb0 hb1 hx0 hx1).mono ?_
    rintro e w1 ⟨rfl, hb⟩
    rw [HSY.out]
    obtain ⟨q0, q1, u0, u1, z0⟩ := D0.out _ hb
    have hB := bthen al1 hb
    have HB := Lib.hid hB
    have t0 : w1.cell? ⟨1, 0, none⟩ = some (.int .i64 8) := cell_later hB (HT.out 0 (by omega))
    clear HSY
    clear hb hB
    go_wp2
    exact bodyPost_ret (v := .agg #[.int .i64 (8 + d), .int .i64 x]) (by simp [results, Tryd.results55, go_sem, q0, q1]) rfl ⟨rfl, (HB.out.setCell (Nat.le_refl _) _).setCell (Nat.le_refl _) _⟩
  · have HSY := Lib.hid h
    rw [(opC_1 h).1, (opC_1 (d := d) h).2]
    clear h
    go_enter Tryd.func55, Tryd.ntmps55
    go_wp2_with fail
    refine (I_symbolOf A p lo B b x _ (HRK.out _ al1) (HSC.out.keep al1) HS.out hb0 hb1 hx0 hx1).mono ?_
    rintro e w1 ⟨rfl, hb⟩
    rw [HSY.out]
    obtain ⟨q0, q1, u0, u1, z0⟩ := D0.out _ hb
    have hB := bthen al1 hb
    have HB := Lib.hid hB
    have t0 : w1.cell? ⟨1, 1, none⟩ = some (.int .i64 5) := cell_later hB (HT.out 1 (by omega))
    clear HSY
    go_wp2_with fail
    refine (I_cellPlace A p lo B b x _ (HRK.out _ hB) (HSC.out.keep hB) HS.out hb0 hb1).mono ?_
    rintro e w2 ⟨rfl, hb2⟩
    have t0 := cell_later hb2 t0
    obtain ⟨q0, q1, u0, u1, z0⟩ := D0.out _ (bthen hb hb2)
    have HB2 := Lib.hid (bthen hB hb2)
    clear hb hb2 hB
    go_wp2
    exact bodyPost_ret (v := .agg #[.int .i64 (5 + d), .int .i64 (cplF p b x)]) (by simp [results, Tryd.results55, go_sem, q0, q1]) rfl ⟨rfl, (HB2.out.setCell (Nat.le_refl _) _).setCell (Nat.le_refl _) _⟩
  · have HSY := Lib.hid h
    rw [(opC_2 h).1, (opC_2 (d := d) h).2]
    clear h
    go_enter Tryd.func55, Tryd.ntmps55
    go_wp2_with fail
    refine (I_symbolOf A p lo B b x _ (HRK.out _ al1) (HSC.out.keep al1) HS.out hb0 hb1 hx0 hx1).mono ?_
    rintro e w1 ⟨rfl, hb⟩
    rw [HSY.out]
    obtain ⟨q0, q1, u0, u1, z0⟩ := D0.out _ hb
    have hB := bthen al1 hb
    have HB := Lib.hid hB
    have t0 : w1.cell? ⟨1, 2, none⟩ = some (.int .i64 11) := cell_later hB (HT.out 2 (by omega))
    clear HSY
    clear hb hB
    go_wp2
    exact bodyPost_ret (v := .agg #[.int .i64 (11 + d), .int .i64 x]) (by simp [results, Tryd.results55, go_sem, q0, q1]) rfl ⟨rfl, (HB.out.setCell (Nat.le_refl _) _).setCell (Nat.le_refl _) _⟩
  · have HSY := Lib.hid h
    rw [(opC_3 h).1, (opC_3 (d := d) h).2]
    clear h
    go_enter Tryd.func55, Tryd.ntmps55
    go_wp2_with fail
    refine (I_symbolOf A p lo B b x _ (HRK.out _ al1) (HSC.out.keep al1) HS.out hb0 hb1 hx0 hx1).mono ?_
    rintro e w1 ⟨rfl, hb⟩
    rw [HSY.out]
    obtain ⟨q0, q1, u0, u1, z0⟩ := D0.out _ hb
    have hB := bthen al1 hb
    have HB := Lib.hid hB
    have t0 : w1.cell? ⟨1, 3, none⟩ = some (.int .i64 5) := cell_later hB (HT.out 3 (by omega))
    clear HSY
    go_wp2_with fail
    refine (I_cellPlace A p lo B b x _ (HRK.out _ hB) (HSC.out.keep hB) HS.out hb0 hb1).mono ?_
    rintro e w2 ⟨rfl, hb2⟩
    have t0 := cell_later hb2 t0
    obtain ⟨q0, q1, u0, u1, z0⟩ := D0.out _ (bthen hb hb2)
    have HB2 := Lib.hid (bthen hB hb2)
    clear hb hb2 hB
    go_wp2
    exact bodyPost_ret (v := .agg #[.int .i64 (5 + d), .int .i64 (cplF p b x)]) (by simp [results, Tryd.results55, go_sem, q0, q1]) rfl ⟨rfl, (HB2.out.setCell (Nat.le_refl _) _).setCell (Nat.le_refl _) _⟩
  · have HSY := Lib.hid h
    rw [(opC_4 h).1, (opC_4 (d := d) h).2]
    clear h
    go_enter Tryd.func55, Tryd.ntmps55
    go_wp2_with fail
    refine (I_symbolOf A p lo B b x _ (HRK.out _ al1) (HSC.out.keep al1) HS.out hb0 hb1 hx0 hx1).mono ?_
    rintro e w1 ⟨rfl, hb⟩
    rw [HSY.out]
    obtain ⟨q0, q1, u0, u1, z0⟩ := D0.out _ hb
    have hB := bthen al1 hb
    have HB := Lib.hid hB
    have t0 : w1.cell? ⟨1, 4, none⟩ = some (.int .i64 2) := cell_later hB (HT.out 4 (by omega))
    clear HSY
    go_wp2_with fail
    refine (I_fastsOf A p lo B b _ (HRK.out _ hB) (HSC.out.keep hB) HS.out hb0 hb1).mono ?_
    rintro e w2 ⟨v2, rfl, h2, hb2⟩
    have t0 := cell_later hb2 t0
    obtain ⟨q0, q1, u0, u1, z0⟩ := D0.out _ (bthen hb hb2)
    have HB2 := Lib.hid (bthen hB hb2)
    clear hb hb2 hB
    go_wp2_with fail
    refine (I_placeOf v2 _ _ x _ h2).mono ?_
    rintro e w' ⟨rfl, rfl⟩
    clear h2
    go_wp2
    exact bodyPost_ret (v := .agg #[.int .i64 (2 + d), .int .i64 (plc (fastsF p b) x)]) (by simp [results, Tryd.results55, go_sem, q0, q1]) rfl ⟨rfl, (HB2.out.setCell (Nat.le_refl _) _).setCell (Nat.le_refl _) _⟩

set_option maxRecDepth 100000 in
set_option maxHeartbeats 2000000 in
theorem S_validUsed (sl : Value) (p : Pr) (lo : Nat) (b x : Int) (w : World) (hv : Blks w lo sl p) :
    Calls Tryd.prog 31 #[.agg #[sl], .int .i64 b, .int .i64 x] w fun e w' => e = .returned (.bool (usedOk p b x)) ∧ Below w.heap.size w w' := by
  have HV := Lib.hid hv
  obtain ⟨A, C, rfl⟩ := hv.form
  clear hv
  unfold usedOk
  cases hp : validP p
  · have HP := Lib.hid hp
    clear hp
    go_enter Tryd.func31, Tryd.ntmps31
    go_wp2_with (first
      | (go_at_call 41; refine (S_validProgram _ p lo _ (HV.out.keep al1)).mono ?_; rintro e w1 ⟨rfl, hn⟩; rw [HP.out]; have cb := boxAt1 hn; have hcur := bthen (al1 (w := w)) hn; have hz := hcur.size; clear hn))
    go_ret
    exact ⟨ret_bool rfl, hcur⟩
  have HP := Lib.hid hp
  have HSH := Lib.hid (validP_shape hp)
  clear hp
  cases hsa : shapeAt p b && isNm x
  · have HSA := Lib.hid hsa
    clear hsa
    go_enter Tryd.func31, Tryd.ntmps31
    go_wp2_with (first
      | (go_at_call 41; refine (S_validProgram _ p lo _ (HV.out.keep al1)).mono ?_; rintro e w1 ⟨rfl, hn⟩; rw [HP.out]; have cb := boxAt1 hn; have hcur := bthen (al1 (w := w)) hn; have hz := hcur.size; clear hn)
      | (go_at_call 42; refine (S_validUse _ p lo b x _ (HV.out.keep hcur)).mono ?_; rintro e w2 ⟨rfl, hn⟩; rw [HSA.out]; have cb := cell_later hn cb; have hcur := bthen hcur hn; have hz := hcur.size; clear hn))
    go_ret
    exact ⟨ret_bool rfl, hcur⟩
  have HSA := Lib.hid hsa
  obtain ⟨h1, h2⟩ := Bool.and_eq_true_iff.1 hsa
  obtain ⟨_, hb0, hb1⟩ := shapeAt_iff.1 h1
  obtain ⟨hx0, hx1⟩ := isNm_iff.1 h2
  have hua : hasF (usedF p b) x = (p.bk b).usesB x := hasF_nms _ x hx0 hx1
  have HUA := Lib.hid hua
  clear hsa h1 h2 hua
  generalize (p.bk b).usesB x = U at *
  cases U
  · go_enter Tryd.func31, Tryd.ntmps31
    go_wp2_with (first
      | (go_at_call 41; refine (S_validProgram _ p lo _ (HV.out.keep al1)).mono ?_; rintro e w1 ⟨rfl, hn⟩; rw [HP.out]; have cb := boxAt1 hn; have hcur := bthen (al1 (w := w)) hn; have hz := hcur.size; clear hn)
      | (go_at_call 42; refine (S_validUse _ p lo b x _ (HV.out.keep hcur)).mono ?_; rintro e w2 ⟨rfl, hn⟩; rw [HSA.out]; have cb := cell_later hn cb; have hcur := bthen hcur hn; have hz := hcur.size; clear hn)
      | (go_at_call 44; refine (S_used _ p lo b _ (HV.out.keep hcur) HSH.out hb0 hb1).mono ?_; rintro e w3 ⟨va, rfl, hia, hn⟩; have cb := cell_later hn cb; have hcur := bthen hcur hn; have hz := hcur.size; clear hn)
      | (go_at_call 43; refine (S_has va _ _ x _ hia).mono ?_; rintro e w' ⟨rfl, rfl⟩; rw [HUA.out]))
    go_ret
    exact ⟨ret_bool rfl, hcur⟩
  · go_enter Tryd.func31, Tryd.ntmps31
    go_wp2_with (first
      | (go_at_call 41; refine (S_validProgram _ p lo _ (HV.out.keep al1)).mono ?_; rintro e w1 ⟨rfl, hn⟩; rw [HP.out]; have cb := boxAt1 hn; have hcur := bthen (al1 (w := w)) hn; have hz := hcur.size; clear hn)
      | (go_at_call 42; refine (S_validUse _ p lo b x _ (HV.out.keep hcur)).mono ?_; rintro e w2 ⟨rfl, hn⟩; rw [HSA.out]; have cb := cell_later hn cb; have hcur := bthen hcur hn; have hz := hcur.size; clear hn)
      | (go_at_call 44; refine (S_used _ p lo b _ (HV.out.keep hcur) HSH.out hb0 hb1).mono ?_; rintro e w3 ⟨va, rfl, hia, hn⟩; have cb := cell_later hn cb; have hcur := bthen hcur hn; have hz := hcur.size; clear hn)
      | (go_at_call 43; refine (S_has va _ _ x _ hia).mono ?_; rintro e w' ⟨rfl, rfl⟩; rw [HUA.out]))
    go_ret
    exact ⟨ret_bool rfl, hcur⟩

set_option maxRecDepth 100000 in
set_option maxHeartbeats 2000000 in
theorem I_usedOp (sl : Value) (p : Pr) (lo : Nat) (b x d : Int) (w : World) (hv : Blks w lo sl p) (hd0 : 0 ≤ d) (hd1 : d ≤ 2) (hT : ∀ i, i < 5 → w.cell? ⟨1, i, none⟩ = some (.int .i64 (codesL.getD i 0))) :
    Calls Tryd.prog 34 #[.agg #[sl], .int .i64 b, .int .i64 x, .int .i64 d] w fun e w' => e = .returned (.agg #[.int .i64 (rOpC p b x d), .int .i64 (rOpA p b x)]) ∧ Below w.heap.size w w' := by
  have HV := Lib.hid hv
  obtain ⟨A, C, rfl⟩ := hv.form
  have HT := Lib.hid hT
  clear hv hT
  have d0 : ∀ (w' : World), Below ((w.alloc (.cells #[.slice A p.length C] 35)).alloc (.cells #[.int .i64 0, .int .i64 0] 24)).heap.size ((w.alloc (.cells #[.slice A p.length C] 35)).alloc (.cells #[.int .i64 0, .int .i64 0] 24)) w' → w'.cell? ⟨w.heap.size, 0, none⟩ = some (.slice A p.length C) ∧ w'.cell? ⟨w.heap.size + 1, 0, none⟩ = some (.int .i64 0) ∧ w'.cell? ⟨w.heap.size + 1, 1, none⟩ = some (.int .i64 0) ∧ w'.frozen? ⟨w.heap.size + 1, 0, none⟩ = false ∧ w'.frozen? ⟨w.heap.size + 1, 1, none⟩ = false ∧ w.heap.size + 1 < w'.heap.size := fun w' hb => ⟨cell_later hb (by simp [go_sem]), cell_later hb (by simp [go_sem]), cell_later hb (by simp [go_sem]), ((bcell hb).2 _ _ (by simp)).trans (by simp [go_sem]), ((bcell hb).2 _ _ (by simp)).trans (by simp [go_sem]), by have := hb.size; simp only [World.size_alloc] at this; omega⟩
  have D0 := Lib.hid d0
  clear d0
  cases hp : validP p
  · have HP := Lib.hid hp
    have HNO := Lib.hid (show usedOk p b x = false by unfold usedOk; rw [hp]; rfl)
    clear hp
    go_enter Tryd.func34, Tryd.ntmps34
    go_wp2_with (first
      | (go_at_call 50; refine (I_ValidProgram _ p lo _ ⟨_, rfl, HV.out.keep al2⟩).mono ?_; rintro e w1 ⟨rfl, hn⟩; rw [HP.out]; have hcur := bthen (al2 (w := w)) hn; have hall := hn; obtain ⟨c0, q0, q1, u0, u1, z0⟩ := D0.out _ hall))
    exact bodyPost_ret (v := .agg #[.int .i64 0, .int .i64 0]) (by simp [results, Tryd.results34, go_sem, q0, q1]) rfl ⟨by unfold rOpC rOpA; rw [HNO.out]; rfl, (hcur.setCell (Nat.le_succ _) _).setCell (Nat.le_succ _) _⟩
  have HP := Lib.hid hp
  have hsh := validP_shape hp
  have HSH := Lib.hid hsh
  have hsa : shapeAt p b = inR b 0 (p.length - 1) := by unfold shapeAt; rw [hsh, Bool.true_and]
  cases hi : inR b 0 (p.length - 1)
  · have HIB := Lib.hid hi
    have HNO := Lib.hid (show usedOk p b x = false by unfold usedOk; rw [hsa, hi]; simp)
    clear hp hsh hsa hi
    go_enter Tryd.func34, Tryd.ntmps34
    go_wp2_with (first
      | (go_at_call 50; refine (I_ValidProgram _ p lo _ ⟨_, rfl, HV.out.keep al2⟩).mono ?_; rintro e w1 ⟨rfl, hn⟩; rw [HP.out]; have hcur := bthen (al2 (w := w)) hn; have hall := hn; obtain ⟨c0, q0, q1, u0, u1, z0⟩ := D0.out _ hall)
      | (go_at_call 51; refine (I_isBlock _ p lo b _ (HV.out.keep hcur)).mono ?_; rintro e w2 ⟨rfl, hn⟩; rw [HIB.out]; have hcur := bthen hcur hn; have hall := bthen hall hn; obtain ⟨c0, q0, q1, u0, u1, z0⟩ := D0.out _ hall))
    exact bodyPost_ret (v := .agg #[.int .i64 0, .int .i64 0]) (by simp [results, Tryd.results34, go_sem, q0, q1]) rfl ⟨by unfold rOpC rOpA; rw [HNO.out]; rfl, (hcur.setCell (Nat.le_succ _) _).setCell (Nat.le_succ _) _⟩
  have HIB := Lib.hid hi
  cases hn : isNm x
  · have HN := Lib.hid hn
    have HNO := Lib.hid (show usedOk p b x = false by unfold usedOk; rw [hn]; simp)
    clear hp hsh hsa hi hn
    go_enter Tryd.func34, Tryd.ntmps34
    go_wp2_with (first
      | (go_at_call 50; refine (I_ValidProgram _ p lo _ ⟨_, rfl, HV.out.keep al2⟩).mono ?_; rintro e w1 ⟨rfl, hn⟩; rw [HP.out]; have hcur := bthen (al2 (w := w)) hn; have hall := hn; obtain ⟨c0, q0, q1, u0, u1, z0⟩ := D0.out _ hall)
      | (go_at_call 51; refine (I_isBlock _ p lo b _ (HV.out.keep hcur)).mono ?_; rintro e w2 ⟨rfl, hn⟩; rw [HIB.out]; have hcur := bthen hcur hn; have hall := bthen hall hn; obtain ⟨c0, q0, q1, u0, u1, z0⟩ := D0.out _ hall)
      | (go_at_call 52; refine (I_isName _ _).mono ?_; rintro e w' ⟨rfl, rfl⟩; rw [HN.out]))
    exact bodyPost_ret (v := .agg #[.int .i64 0, .int .i64 0]) (by simp [results, Tryd.results34, go_sem, q0, q1]) rfl ⟨by unfold rOpC rOpA; rw [HNO.out]; rfl, (hcur.setCell (Nat.le_succ _) _).setCell (Nat.le_succ _) _⟩
  have HN := Lib.hid hn
  obtain ⟨hb0, hb1⟩ : 0 ≤ b ∧ b < p.length := by unfold inR at hi; rw [decide_eq_true_iff] at hi; omega
  obtain ⟨hx0, hx1⟩ := isNm_iff.1 hn
  have huo : usedOk p b x = (p.bk b).usesB x := by unfold usedOk; rw [hp, hsa, hi, hn]; simp
  clear hp hsh hsa hi hn
  cases hu : (p.bk b).usesB x
  · have HUA := Lib.hid hu
    have HNO := Lib.hid (show usedOk p b x = false by rw [huo, hu])
    clear hu huo
    go_enter Tryd.func34, Tryd.ntmps34
    go_wp2_with (first
      | (go_at_call 50; refine (I_ValidProgram _ p lo _ ⟨_, rfl, HV.out.keep al2⟩).mono ?_; rintro e w1 ⟨rfl, hn⟩; rw [HP.out]; have hcur := bthen (al2 (w := w)) hn; have hall := hn; obtain ⟨c0, q0, q1, u0, u1, z0⟩ := D0.out _ hall)
      | (go_at_call 51; refine (I_isBlock _ p lo b _ (HV.out.keep hcur)).mono ?_; rintro e w2 ⟨rfl, hn⟩; rw [HIB.out]; have hcur := bthen hcur hn; have hall := bthen hall hn; obtain ⟨c0, q0, q1, u0, u1, z0⟩ := D0.out _ hall)
      | (go_at_call 52; refine (I_isName _ _).mono ?_; rintro e w' ⟨rfl, rfl⟩; rw [HN.out])
      | (go_at_call 53; refine (I_scopesOf _ p lo _ (HV.out.keep hcur) HSH.out).mono ?_; rintro e w5 ⟨A', Bs, rfl, hBs, hrow, hsc, hn⟩; have hcur := bthen hcur hn; have hall := bthen hall hn; obtain ⟨c0, q0, q1, u0, u1, z0⟩ := D0.out _ hall; have hgr := World.rowIs.lt hrow; have HROW := Lib.hid hrow; have HSC := Lib.hid hsc; have cra := hrow.cell (i := b.toNat) (by omega); clear hn hrow hsc)
      | (go_at_call 54; refine (I_uses A' p _ b.toNat x _ HSC.out (by omega) hx0 hx1).mono ?_; rw [Int.toNat_of_nonneg hb0]; rintro e w' ⟨rfl, rfl⟩; rw [HUA.out]))
    exact bodyPost_ret (v := .agg #[.int .i64 0, .int .i64 0]) (by simp [results, Tryd.results34, go_sem, q0, q1]) rfl ⟨by unfold rOpC rOpA; rw [HNO.out]; rfl, (hcur.setCell (Nat.le_succ _) _).setCell (Nat.le_succ _) _⟩
  have HUA := Lib.hid hu
  have HYES := Lib.hid (show usedOk p b x = true by rw [huo, hu])
  clear hu huo
  go_enter Tryd.func34, Tryd.ntmps34
  go_wp2_with (first
    | (go_at_call 50; refine (I_ValidProgram _ p lo _ ⟨_, rfl, HV.out.keep al2⟩).mono ?_; rintro e w1 ⟨rfl, hn⟩; rw [HP.out]; have hcur := bthen (al2 (w := w)) hn; have hall := hn; obtain ⟨c0, q0, q1, u0, u1, z0⟩ := D0.out _ hall)
    | (go_at_call 51; refine (I_isBlock _ p lo b _ (HV.out.keep hcur)).mono ?_; rintro e w2 ⟨rfl, hn⟩; rw [HIB.out]; have hcur := bthen hcur hn; have hall := bthen hall hn; obtain ⟨c0, q0, q1, u0, u1, z0⟩ := D0.out _ hall)
    | (go_at_call 52; refine (I_isName _ _).mono ?_; rintro e w' ⟨rfl, rfl⟩; rw [HN.out])
    | (go_at_call 53; refine (I_scopesOf _ p lo _ (HV.out.keep hcur) HSH.out).mono ?_; rintro e w5 ⟨A', Bs, rfl, hBs, hrow, hsc, hn⟩; have hcur := bthen hcur hn; have hall := bthen hall hn; obtain ⟨c0, q0, q1, u0, u1, z0⟩ := D0.out _ hall; have hgr := World.rowIs.lt hrow; have HROW := Lib.hid hrow; have HSC := Lib.hid hsc; have cra := hrow.cell (i := b.toNat) (by omega); clear hn hrow hsc)
    | (go_at_call 54; refine (I_uses A' p _ b.toNat x _ HSC.out (by omega) hx0 hx1).mono ?_; rw [Int.toNat_of_nonneg hb0]; rintro e w' ⟨rfl, rfl⟩; rw [HUA.out])
    | (go_at_call 55; refine (I_accessOp A' p _ Bs b x d _ HROW.out HSC.out HSH.out hb0 hb1 hx0 hx1 hd0 hd1 (fun i hi => cell_later hcur (HT.out i hi))).mono ?_; rintro e w7 ⟨rfl, hn⟩; have hcur := bthen hcur hn; have hall := bthen hall hn; obtain ⟨c0, q0, q1, u0, u1, z0⟩ := D0.out _ hall))
  exact bodyPost_ret (v := .agg #[.int .i64 (opC p b x d), .int .i64 (opA p b x)]) (by simp [results, Tryd.results34, go_sem, q0, q1]) rfl ⟨by unfold rOpC rOpA; rw [HYES.out]; rfl, (hcur.setCell (Nat.le_succ _) _).setCell (Nat.le_succ _) _⟩

set_option maxRecDepth 100000 in
set_option maxHeartbeats 2000000 in
theorem I_LoadOp (sl : Value) (p : Pr) (lo : Nat) (b x : Int) (w : World) (hv : Blks w lo sl p) (hT : ∀ i, i < 5 → w.cell? ⟨1, i, none⟩ = some (.int .i64 (codesL.getD i 0))) :
    Calls Tryd.prog 14 #[.agg #[sl], .int .i64 b, .int .i64 x] w fun e w' => e = .returned (.agg #[.int .i64 (rOpC p b x 0), .int .i64 (rOpA p b x)]) ∧ Below w.heap.size w w' := by
  have HV := Lib.hid hv
  obtain ⟨A, C, rfl⟩ := hv.form
  have HT := Lib.hid hT
  clear hv hT
  have d0 : ∀ (w' : World), Below ((w.alloc (.cells #[.slice A p.length C] 35)).alloc (.cells #[.int .i64 0, .int .i64 0] 24)).heap.size ((w.alloc (.cells #[.slice A p.length C] 35)).alloc (.cells #[.int .i64 0, .int .i64 0] 24)) w' → w'.cell? ⟨w.heap.size, 0, none⟩ = some (.slice A p.length C) ∧ w'.cell? ⟨w.heap.size + 1, 0, none⟩ = some (.int .i64 0) ∧ w'.cell? ⟨w.heap.size + 1, 1, none⟩ = some (.int .i64 0) ∧ w'.frozen? ⟨w.heap.size + 1, 0, none⟩ = false ∧ w'.frozen? ⟨w.heap.size + 1, 1, none⟩ = false ∧ w.heap.size + 1 < w'.heap.size := fun w' hb => ⟨cell_later hb (by simp [go_sem]), cell_later hb (by simp [go_sem]), cell_later hb (by simp [go_sem]), ((bcell hb).2 _ _ (by simp)).trans (by simp [go_sem]), ((bcell hb).2 _ _ (by simp)).trans (by simp [go_sem]), by have := hb.size; simp only [World.size_alloc] at this; omega⟩
  have D0 := Lib.hid d0
  clear d0
  go_enter Tryd.func14, Tryd.ntmps14
  go_wp2_with fail
  refine (I_usedOp _ p lo b x 0 _ (HV.out.keep al2) (by omega) (by omega) (fun i hi => cell_later al2 (HT.out i hi))).mono ?_
  rintro e w1 ⟨rfl, hb⟩
  obtain ⟨c0, q0, q1, u0, u1, z0⟩ := D0.out _ hb
  have hB := bthen al2 hb
  have HB := Lib.hid hB
  clear hb hB
  go_wp2
  exact bodyPost_ret (v := .agg #[.int .i64 (rOpC p b x 0), .int .i64 (rOpA p b x)]) (by simp [results, Tryd.results14, go_sem, q0, q1]) rfl ⟨rfl, (HB.out.setCell (Nat.le_succ _) _).setCell (Nat.le_succ _) _⟩

set_option maxRecDepth 100000 in
set_option maxHeartbeats 2000000 in
theorem S_LoadOp (sl : Value) (p : Pr) (lo : Nat) (b x : Int) (w : World) (hv : Blks w lo sl p) :
    Calls Tryd.prog 12 #[.agg #[sl], .int .i64 b, .int .i64 x] w fun e w' => e = .returned (.agg #[.int .i64 (rOpC p b x 0), .int .i64 (rOpA p b x)]) ∧ Below w.heap.size w w' := by
  have HV := Lib.hid hv
  obtain ⟨A, C, rfl⟩ := hv.form
  clear hv
  have d0 : ∀ (w' : World), Below ((w.alloc (.cells #[.slice A p.length C] 35)).alloc (.cells #[.int .i64 0, .int .i64 0] 24)).heap.size ((w.alloc (.cells #[.slice A p.length C] 35)).alloc (.cells #[.int .i64 0, .int .i64 0] 24)) w' → w'.cell? ⟨w.heap.size, 0, none⟩ = some (.slice A p.length C) ∧ w'.cell? ⟨w.heap.size + 1, 0, none⟩ = some (.int .i64 0) ∧ w'.cell? ⟨w.heap.size + 1, 1, none⟩ = some (.int .i64 0) ∧ w'.frozen? ⟨w.heap.size + 1, 0, none⟩ = false ∧ w'.frozen? ⟨w.heap.size + 1, 1, none⟩ = false ∧ w.heap.size + 1 < w'.heap.size := fun w' hb => ⟨cell_later hb (by simp [go_sem]), cell_later hb (by simp [go_sem]), cell_later hb (by simp [go_sem]), ((bcell hb).2 _ _ (by simp)).trans (by simp [go_sem]), ((bcell hb).2 _ _ (by simp)).trans (by simp [go_sem]), by have := hb.size; simp only [World.size_alloc] at this; omega⟩
  have D0 := Lib.hid d0
  clear d0
  cases huo : usedOk p b x
  · have HUO := Lib.hid huo
    clear huo
    go_enter Tryd.func12, Tryd.ntmps12
    go_wp2_with fail
    refine (S_validUsed _ p lo b x _ (HV.out.keep al2)).mono ?_
    rintro e w1 ⟨rfl, hb⟩
    rw [HUO.out]
    obtain ⟨c0, q0, q1, u0, u1, z0⟩ := D0.out _ hb
    have hB := bthen al2 hb
    have HB := Lib.hid hB
    clear hb hB
    go_wp2
    exact bodyPost_ret (v := .agg #[.int .i64 0, .int .i64 0]) (by simp [results, Tryd.results12, go_sem, q0, q1]) rfl ⟨by unfold rOpC rOpA; rw [HUO.out]; rfl, (HB.out.setCell (Nat.le_succ _) _).setCell (Nat.le_succ _) _⟩
  have HUO := Lib.hid huo
  obtain ⟨h1, h2⟩ := Bool.and_eq_true_iff.1 huo
  obtain ⟨h3, _⟩ := Bool.and_eq_true_iff.1 h2
  obtain ⟨h4, h5⟩ := Bool.and_eq_true_iff.1 h3
  obtain ⟨_, hb0, hb1⟩ := shapeAt_iff.1 h4
  obtain ⟨hx0, hx1⟩ := isNm_iff.1 h5
  have HSH := Lib.hid (validP_shape h1)
  clear huo h1 h2 h3 h4 h5
  go_enter Tryd.func12, Tryd.ntmps12
  go_wp2_with fail
  refine (S_validUsed _ p lo b x _ (HV.out.keep al2)).mono ?_
  rintro e w1 ⟨rfl, hb⟩
  rw [HUO.out]
  obtain ⟨c0, q0, q1, u0, u1, z0⟩ := D0.out _ hb
  have hB := bthen al2 hb
  have HB := Lib.hid hB
  go_wp2_with fail
  refine (S_nameOp _ p lo b x 0 _ (HV.out.keep hB) HSH.out hb0 hb1 hx0 hx1 (by omega) (by omega)).mono ?_
  rintro e w2 ⟨rfl, hb2⟩
  obtain ⟨c0, q0, q1, u0, u1, z0⟩ := D0.out _ (bthen hb hb2)
  have HB2 := Lib.hid (bthen hB hb2)
  clear hb hb2 hB
  go_wp2
  exact bodyPost_ret (v := .agg #[.int .i64 (opC p b x 0), .int .i64 (opA p b x)]) (by simp [results, Tryd.results12, go_sem, q0, q1]) rfl ⟨by unfold rOpC rOpA; rw [HUO.out]; rfl, (HB2.out.setCell (Nat.le_succ _) _).setCell (Nat.le_succ _) _⟩

set_option maxRecDepth 100000 in
set_option maxHeartbeats 2000000 in
theorem I_StoreOp (sl : Value) (p : Pr) (lo : Nat) (b x : Int) (w : World) (hv : Blks w lo sl p) (hT : ∀ i, i < 5 → w.cell? ⟨1, i, none⟩ = some (.int .i64 (codesL.getD i 0))) :
    Calls Tryd.prog 23 #[.agg #[sl], .int .i64 b, .int .i64 x] w fun e w' => e = .returned (.agg #[.int .i64 (rOpC p b x 1), .int .i64 (rOpA p b x)]) ∧ Below w.heap.size w w' := by
  have HV := Lib.hid hv
  obtain ⟨A, C, rfl⟩ := hv.form
  have HT := Lib.hid hT
  clear hv hT
  have d0 : ∀ (w' : World), Below ((w.alloc (.cells #[.slice A p.length C] 35)).alloc (.cells #[.int .i64 0, .int .i64 0] 24)).heap.size ((w.alloc (.cells #[.slice A p.length C] 35)).alloc (.cells #[.int .i64 0, .int .i64 0] 24)) w' → w'.cell? ⟨w.heap.size, 0, none⟩ = some (.slice A p.length C) ∧ w'.cell? ⟨w.heap.size + 1, 0, none⟩ = some (.int .i64 0) ∧ w'.cell? ⟨w.heap.size + 1, 1, none⟩ = some (.int .i64 0) ∧ w'.frozen? ⟨w.heap.size + 1, 0, none⟩ = false ∧ w'.frozen? ⟨w.heap.size + 1, 1, none⟩ = false ∧ w.heap.size + 1 < w'.heap.size := fun w' hb => ⟨cell_later hb (by simp [go_sem]), cell_later hb (by simp [go_sem]), cell_later hb (by simp [go_sem]), ((bcell hb).2 _ _ (by simp)).trans (by simp [go_sem]), ((bcell hb).2 _ _ (by simp)).trans (by simp [go_sem]), by have := hb.size; simp only [World.size_alloc] at this; omega⟩
  have D0 := Lib.hid d0
  clear d0
  go_enter Tryd.func23, Tryd.ntmps23
  go_wp2_with fail
  refine (I_usedOp _ p lo b x 1 _ (HV.out.keep al2) (by omega) (by omega) (fun i hi => cell_later al2 (HT.out i hi))).mono ?_
  rintro e w1 ⟨rfl, hb⟩
  obtain ⟨c0, q0, q1, u0, u1, z0⟩ := D0.out _ hb
  have hB := bthen al2 hb
  have HB := Lib.hid hB
  clear hb hB
  go_wp2
  exact bodyPost_ret (v := .agg #[.int .i64 (rOpC p b x 1), .int .i64 (rOpA p b x)]) (by simp [results, Tryd.results23, go_sem, q0, q1]) rfl ⟨rfl, (HB.out.setCell (Nat.le_succ _) _).setCell (Nat.le_succ _) _⟩

set_option maxRecDepth 100000 in
set_option maxHeartbeats 2000000 in
theorem S_StoreOp (sl : Value) (p : Pr) (lo : Nat) (b x : Int) (w : World) (hv : Blks w lo sl p) :
    Calls Tryd.prog 22 #[.agg #[sl], .int .i64 b, .int .i64 x] w fun e w' => e = .returned (.agg #[.int .i64 (rOpC p b x 1), .int .i64 (rOpA p b x)]) ∧ Below w.heap.size w w' := by
  have HV := Lib.hid hv
  obtain ⟨A, C, rfl⟩ := hv.form
  clear hv
  have d0 : ∀ (w' : World), Below ((w.alloc (.cells #[.slice A p.length C] 35)).alloc (.cells #[.int .i64 0, .int .i64 0] 24)).heap.size ((w.alloc (.cells #[.slice A p.length C] 35)).alloc (.cells #[.int .i64 0, .int .i64 0] 24)) w' → w'.cell? ⟨w.heap.size, 0, none⟩ = some (.slice A p.length C) ∧ w'.cell? ⟨w.heap.size + 1, 0, none⟩ = some (.int .i64 0) ∧ w'.cell? ⟨w.heap.size + 1, 1, none⟩ = some (.int .i64 0) ∧ w'.frozen? ⟨w.heap.size + 1, 0, none⟩ = false ∧ w'.frozen? ⟨w.heap.size + 1, 1, none⟩ = false ∧ w.heap.size + 1 < w'.heap.size := fun w' hb => ⟨cell_later hb (by simp [go_sem]), cell_later hb (by simp [go_sem]), cell_later hb (by simp [go_sem]), ((bcell hb).2 _ _ (by simp)).trans (by simp [go_sem]), ((bcell hb).2 _ _ (by simp)).trans (by simp [go_sem]), by have := hb.size; simp only [World.size_alloc] at this; omega⟩
  have D0 := Lib.hid d0
  clear d0
  cases huo : usedOk p b x
  · have HUO := Lib.hid huo
    clear huo
    go_enter Tryd.func22, Tryd.ntmps22
    go_wp2_with fail
    refine (S_validUsed _ p lo b x _ (HV.out.keep al2)).mono ?_
    rintro e w1 ⟨rfl, hb⟩
    rw [HUO.out]
    obtain ⟨c0, q0, q1, u0, u1, z0⟩ := D0.out _ hb
    have hB := bthen al2 hb
    have HB := Lib.hid hB
    clear hb hB
    go_wp2
    exact bodyPost_ret (v := .agg #[.int .i64 0, .int .i64 0]) (by simp [results, Tryd.results22, go_sem, q0, q1]) rfl ⟨by unfold rOpC rOpA; rw [HUO.out]; rfl, (HB.out.setCell (Nat.le_succ _) _).setCell (Nat.le_succ _) _⟩
  have HUO := Lib.hid huo
  obtain ⟨h1, h2⟩ := Bool.and_eq_true_iff.1 huo
  obtain ⟨h3, _⟩ := Bool.and_eq_true_iff.1 h2
  obtain ⟨h4, h5⟩ := Bool.and_eq_true_iff.1 h3
  obtain ⟨_, hb0, hb1⟩ := shapeAt_iff.1 h4
  obtain ⟨hx0, hx1⟩ := isNm_iff.1 h5
  have HSH := Lib.hid (validP_shape h1)
  clear huo h1 h2 h3 h4 h5
  go_enter Tryd.func22, Tryd.ntmps22
  go_wp2_with fail
  refine (S_validUsed _ p lo b x _ (HV.out.keep al2)).mono ?_
  rintro e w1 ⟨rfl, hb⟩
  rw [HUO.out]
  obtain ⟨c0, q0, q1, u0, u1, z0⟩ := D0.out _ hb
  have hB := bthen al2 hb
  have HB := Lib.hid hB
  go_wp2_with fail
  refine (S_nameOp _ p lo b x 1 _ (HV.out.keep hB) HSH.out hb0 hb1 hx0 hx1 (by omega) (by omega)).mono ?_
  rintro e w2 ⟨rfl, hb2⟩
  obtain ⟨c0, q0, q1, u0, u1, z0⟩ := D0.out _ (bthen hb hb2)
  have HB2 := Lib.hid (bthen hB hb2)
  clear hb hb2 hB
  go_wp2
  exact bodyPost_ret (v := .agg #[.int .i64 (opC p b x 1), .int .i64 (opA p b x)]) (by simp [results, Tryd.results22, go_sem, q0, q1]) rfl ⟨by unfold rOpC rOpA; rw [HUO.out]; rfl, (HB2.out.setCell (Nat.le_succ _) _).setCell (Nat.le_succ _) _⟩

set_option maxRecDepth 100000 in
set_option maxHeartbeats 2000000 in
theorem I_DropOp (sl : Value) (p : Pr) (lo : Nat) (b x : Int) (w : World) (hv : Blks w lo sl p) (hT : ∀ i, i < 5 → w.cell? ⟨1, i, none⟩ = some (.int .i64 (codesL.getD i 0))) :
    Calls Tryd.prog 25 #[.agg #[sl], .int .i64 b, .int .i64 x] w fun e w' => e = .returned (.agg #[.int .i64 (rOpC p b x 2), .int .i64 (rOpA p b x)]) ∧ Below w.heap.size w w' := by
  have HV := Lib.hid hv
  obtain ⟨A, C, rfl⟩ := hv.form
  have HT := Lib.hid hT
  clear hv hT
  have d0 : ∀ (w' : World), Below ((w.alloc (.cells #[.slice A p.length C] 35)).alloc (.cells #[.int .i64 0, .int .i64 0] 24)).heap.size ((w.alloc (.cells #[.slice A p.length C] 35)).alloc (.cells #[.int .i64 0, .int .i64 0] 24)) w' → w'.cell? ⟨w.heap.size, 0, none⟩ = some (.slice A p.length C) ∧ w'.cell? ⟨w.heap.size + 1, 0, none⟩ = some (.int .i64 0) ∧ w'.cell? ⟨w.heap.size + 1, 1, none⟩ = some (.int .i64 0) ∧ w'.frozen? ⟨w.heap.size + 1, 0, none⟩ = false ∧ w'.frozen? ⟨w.heap.size + 1, 1, none⟩ = false ∧ w.heap.size + 1 < w'.heap.size := fun w' hb => ⟨cell_later hb (by simp [go_sem]), cell_later hb (by simp [go_sem]), cell_later hb (by simp [go_sem]), ((bcell hb).2 _ _ (by simp)).trans (by simp [go_sem]), ((bcell hb).2 _ _ (by simp)).trans (by simp [go_sem]), by have := hb.size; simp only [World.size_alloc] at this; omega⟩
  have D0 := Lib.hid d0
  clear d0
  go_enter Tryd.func25, Tryd.ntmps25
  go_wp2_with fail
  refine (I_usedOp _ p lo b x 2 _ (HV.out.keep al2) (by omega) (by omega) (fun i hi => cell_later al2 (HT.out i hi))).mono ?_
  rintro e w1 ⟨rfl, hb⟩
  obtain ⟨c0, q0, q1, u0, u1, z0⟩ := D0.out _ hb
  have hB := bthen al2 hb
  have HB := Lib.hid hB
  clear hb hB
  go_wp2
  exact bodyPost_ret (v := .agg #[.int .i64 (rOpC p b x 2), .int .i64 (rOpA p b x)]) (by simp [results, Tryd.results25, go_sem, q0, q1]) rfl ⟨rfl, (HB.out.setCell (Nat.le_succ _) _).setCell (Nat.le_succ _) _⟩

set_option maxRecDepth 100000 in
set_option maxHeartbeats 2000000 in
theorem S_DropOp (sl : Value) (p : Pr) (lo : Nat) (b x : Int) (w : World) (hv : Blks w lo sl p) :
    Calls Tryd.prog 24 #[.agg #[sl], .int .i64 b, .int .i64 x] w fun e w' => e = .returned (.agg #[.int .i64 (rOpC p b x 2), .int .i64 (rOpA p b x)]) ∧ Below w.heap.size w w' := by
  have HV := Lib.hid hv
  obtain ⟨A, C, rfl⟩ := hv.form
  clear hv
  have d0 : ∀ (w' : World), Below ((w.alloc (.cells #[.slice A p.length C] 35)).alloc (.cells #[.int .i64 0, .int .i64 0] 24)).heap.size ((w.alloc (.cells #[.slice A p.length C] 35)).alloc (.cells #[.int .i64 0, .int .i64 0] 24)) w' → w'.cell? ⟨w.heap.size, 0, none⟩ = some (.slice A p.length C) ∧ w'.cell? ⟨w.heap.size + 1, 0, none⟩ = some (.int .i64 0) ∧ w'.cell? ⟨w.heap.size + 1, 1, none⟩ = some (.int .i64 0) ∧ w'.frozen? ⟨w.heap.size + 1, 0, none⟩ = false ∧ w'.frozen? ⟨w.heap.size + 1, 1, none⟩ = false ∧ w.heap.size + 1 < w'.heap.size := fun w' hb => ⟨cell_later hb (by simp [go_sem]), cell_later hb (by simp [go_sem]), cell_later hb (by simp [go_sem]), ((bcell hb).2 _ _ (by simp)).trans (by simp [go_sem]), ((bcell hb).2 _ _ (by simp)).trans (by simp [go_sem]), by have := hb.size; simp only [World.size_alloc] at this; omega⟩
  have D0 := Lib.hid d0
  clear d0
  cases huo : usedOk p b x
  · have HUO := Lib.hid huo
    clear huo
    go_enter Tryd.func24, Tryd.ntmps24
    go_wp2_with fail
    refine (S_validUsed _ p lo b x _ (HV.out.keep al2)).mono ?_
    rintro e w1 ⟨rfl, hb⟩
    rw [HUO.out]
    obtain ⟨c0, q0, q1, u0, u1, z0⟩ := D0.out _ hb
    have hB := bthen al2 hb
    have HB := Lib.hid hB
    clear hb hB
    go_wp2
    exact bodyPost_ret (v := .agg #[.int .i64 0, .int .i64 0]) (by simp [results, Tryd.results24, go_sem, q0, q1]) rfl ⟨by unfold rOpC rOpA; rw [HUO.out]; rfl, (HB.out.setCell (Nat.le_succ _) _).setCell (Nat.le_succ _) _⟩
  have HUO := Lib.hid huo
  obtain ⟨h1, h2⟩ := Bool.and_eq_true_iff.1 huo
  obtain ⟨h3, _⟩ := Bool.and_eq_true_iff.1 h2
  obtain ⟨h4, h5⟩ := Bool.and_eq_true_iff.1 h3
  obtain ⟨_, hb0, hb1⟩ := shapeAt_iff.1 h4
  obtain ⟨hx0, hx1⟩ := isNm_iff.1 h5
  have HSH := Lib.hid (validP_shape h1)
  clear huo h1 h2 h3 h4 h5
  go_enter Tryd.func24, Tryd.ntmps24
  go_wp2_with fail
  refine (S_validUsed _ p lo b x _ (HV.out.keep al2)).mono ?_
  rintro e w1 ⟨rfl, hb⟩
  rw [HUO.out]
  obtain ⟨c0, q0, q1, u0, u1, z0⟩ := D0.out _ hb
  have hB := bthen al2 hb
  have HB := Lib.hid hB
  go_wp2_with fail
  refine (S_nameOp _ p lo b x 2 _ (HV.out.keep hB) HSH.out hb0 hb1 hx0 hx1 (by omega) (by omega)).mono ?_
  rintro e w2 ⟨rfl, hb2⟩
  obtain ⟨c0, q0, q1, u0, u1, z0⟩ := D0.out _ (bthen hb hb2)
  have HB2 := Lib.hid (bthen hB hb2)
  clear hb hb2 hB
  go_wp2
  exact bodyPost_ret (v := .agg #[.int .i64 (opC p b x 2), .int .i64 (opA p b x)]) (by simp [results, Tryd.results24, go_sem, q0, q1]) rfl ⟨by unfold rOpC rOpA; rw [HUO.out]; rfl, (HB2.out.setCell (Nat.le_succ _) _).setCell (Nat.le_succ _) _⟩

set_option maxRecDepth 100000 in
theorem eqOp_same (a b : Int) (w : World) :
    Calls Tryd.prog 15 #[.agg #[.int .i64 a, .int .i64 b], .agg #[.int .i64 a, .int .i64 b]] w fun e w' => e = .returned (.bool true) ∧ Below w.heap.size w w' := by
  have ha : (a != a) = false := by simp
  have hb : (b != b) = false := by simp
  go_enter Tryd.func15, Tryd.ntmps15
  go_wp2
  go_ret
  exact ⟨rfl, al2⟩

end Go.Proofs.YtpajkejdfalkiaaDoor
