/-
  Walks: the program's scopes: declares, isLocal, uses. Condition: the scopes lie in memory as data.
-/
import Derived.Test.YtiemhadpepbcjaaImpl8
import Derived.Test.YtiemhadpepbcjaaSpec7
namespace Go.Proofs.Ytiemhadpepbcjaa
open Go.RowKit
set_option linter.unusedVariables false

/-- The cells of a scope: its index, its kind, the scope outside, and its sets of names. -/
def scF (k : Bk) (i : Int) (out : Value) (par : Int → Bool) (j : Nat) : Value :=
  if j = 0 then .int .i64 i else if j = 1 then .int .i64 k.kind else if j = 2 then out
  else if j < 11 then .bool (par ((j : Int) - 3)) else if j < 19 then .bool (k.readB ((j : Int) - 11)) else if j < 27 then .bool (k.boundB ((j : Int) - 19))
  else if j < 35 then .bool (k.declB 9 ((j : Int) - 27)) else .bool (k.declB 10 ((j : Int) - 35))

def ScopeAt (w : World) (a : Nat) (k : Bk) (i : Int) (out : Value) (par : Int → Bool) : Prop := w.rowIs a 98 43 (scF k i out par)

section
variable {w w' : World} {a : Nat} {k : Bk} {i : Int} {out : Value} {par : Int → Bool}
theorem ScopeAt.c0 (h : ScopeAt w a k i out par) : w.cell? ⟨a, 0, none⟩ = some (.int .i64 i) := by have := h.cell (i := 0) (by omega); simpa [scF] using this
theorem ScopeAt.c1 (h : ScopeAt w a k i out par) : w.cell? ⟨a, 1, none⟩ = some (.int .i64 k.kind) := by have := h.cell (i := 1) (by omega); simpa [scF] using this
theorem ScopeAt.c2 (h : ScopeAt w a k i out par) : w.cell? ⟨a, 2, none⟩ = some out := by have := h.cell (i := 2) (by omega); simpa [scF] using this
theorem ScopeAt.cP (h : ScopeAt w a k i out par) (x : Int) (h0 : 0 ≤ x) (h1 : x ≤ 7) : w.cell? ⟨a, 3 + x.toNat, none⟩ = some (.bool (par x)) := by
  have := h.cell (i := 3 + x.toNat) (by omega)
  unfold scF at this
  rw [if_neg (by omega), if_neg (by omega), if_neg (by omega), if_pos (by omega), show ((3 + x.toNat : Nat) : Int) - 3 = x by omega] at this
  exact this
theorem ScopeAt.cR (h : ScopeAt w a k i out par) (x : Int) (h0 : 0 ≤ x) (h1 : x ≤ 7) : w.cell? ⟨a, 11 + x.toNat, none⟩ = some (.bool (k.readB x)) := by
  have := h.cell (i := 11 + x.toNat) (by omega)
  unfold scF at this
  rw [if_neg (by omega), if_neg (by omega), if_neg (by omega), if_neg (by omega), if_pos (by omega), show ((11 + x.toNat : Nat) : Int) - 11 = x by omega] at this
  exact this
theorem ScopeAt.cB (h : ScopeAt w a k i out par) (x : Int) (h0 : 0 ≤ x) (h1 : x ≤ 7) : w.cell? ⟨a, 19 + x.toNat, none⟩ = some (.bool (k.boundB x)) := by
  have := h.cell (i := 19 + x.toNat) (by omega)
  unfold scF at this
  rw [if_neg (by omega), if_neg (by omega), if_neg (by omega), if_neg (by omega), if_neg (by omega), if_pos (by omega), show ((19 + x.toNat : Nat) : Int) - 19 = x by omega] at this
  exact this
theorem ScopeAt.cG (h : ScopeAt w a k i out par) (x : Int) (h0 : 0 ≤ x) (h1 : x ≤ 7) : w.cell? ⟨a, 27 + x.toNat, none⟩ = some (.bool (k.declB 9 x)) := by
  have := h.cell (i := 27 + x.toNat) (by omega)
  unfold scF at this
  rw [if_neg (by omega), if_neg (by omega), if_neg (by omega), if_neg (by omega), if_neg (by omega), if_neg (by omega), if_pos (by omega), show ((27 + x.toNat : Nat) : Int) - 27 = x by omega] at this
  exact this
theorem ScopeAt.cN (h : ScopeAt w a k i out par) (x : Int) (h0 : 0 ≤ x) (h1 : x ≤ 7) : w.cell? ⟨a, 35 + x.toNat, none⟩ = some (.bool (k.declB 10 x)) := by
  have := h.cell (i := 35 + x.toNat) (by omega)
  unfold scF at this
  rw [if_neg (by omega), if_neg (by omega), if_neg (by omega), if_neg (by omega), if_neg (by omega), if_neg (by omega), if_neg (by omega), show ((35 + x.toNat : Nat) : Int) - 35 = x by omega] at this
  exact this
theorem ScopeAt.below {B : Nat} (h : ScopeAt w a k i out par) (hb : Below B w w') (hB : a < B) : ScopeAt w' a k i out par := World.rowIs.of_block h (hb.block a hB)
end

/-- The pointer to the scope outside. -/
def outV (A : Nat → Nat) (p : Pr) (i : Nat) : Value := if i = 0 then .pointer none else .pointer (some ⟨A (p.bk i).parent.toNat, 0, none⟩)

/-- The scopes of a program, in blocks from lo on. -/
def Scopes (w : World) (lo : Nat) (A : Nat → Nat) (p : Pr) : Prop := ∀ i : Nat, i < p.length → lo ≤ A i ∧ ScopeAt w (A i) (p.bk i) i (outV A p i) (p.bk i).params.contains

theorem Scopes.keep {w w' : World} {lo : Nat} {A : Nat → Nat} {p : Pr} (h : Scopes w lo A p) (hb : Below w.heap.size w w') : Scopes w' lo A p :=
  fun i hi => ⟨(h i hi).1, (h i hi).2.below hb (World.rowIs.lt (h i hi).2)⟩
theorem Scopes.lo_ {w : World} {lo lo' : Nat} {A : Nat → Nat} {p : Pr} (h : Scopes w lo A p) (hl : lo' ≤ lo) : Scopes w lo' A p := fun i hi => ⟨Nat.le_trans hl (h i hi).1, (h i hi).2⟩

section
variable (A : Nat → Nat) (p : Pr) (lo : Nat) (i : Nat) (x : Int) (w : World)

theorem I_declares (hv : Scopes w lo A p) (hi : i < p.length) (hx0 : 0 ≤ x) (hx1 : x ≤ 7) :
    Calls Try.prog 74 #[.pointer (some ⟨A i, 0, none⟩), .int .i64 x] w fun e w' => e = .returned (.bool ((p.bk i).declsB x)) ∧ w = w' := by
  obtain ⟨_, hs⟩ := hv i hi
  have c1 := hs.cG x hx0 hx1
  have c2 := hs.cN x hx0 hx1
  have hR : (p.bk i).declsB x = ((p.bk i).declB 9 x || (p.bk i).declB 10 x) := rfl
  have hx2 : x < 8 := by omega
  have hgl := World.rowIs.lt hs
  clear hs hv
  generalize (p.bk i).declsB x = R at *
  cases h1 : (p.bk i).declB 9 x
  all_goals
    rw [h1] at hR c1
    have HR := Lib.hid hR
    clear hR h1
    go_enter Try.func74, Try.ntmps74
    go_wp2
    go_ret
    exact ⟨ret_bool (by rw [HR.out]; rfl), rfl⟩

theorem I_isLocal (hv : Scopes w lo A p) (hi : i < p.length) (hsh : shape p = true) (hx0 : 0 ≤ x) (hx1 : x ≤ 7) :
    Calls Try.prog 87 #[.pointer (some ⟨A i, 0, none⟩), .int .i64 x] w fun e w' => e = .returned (.bool (locP p i x)) ∧ w = w' := by
  obtain ⟨_, hs⟩ := hv i hi
  have HV := Lib.hid hv
  have c1 := hs.c1
  have c2 := hs.cB x hx0 hx1
  have hR : locP p i x = (decide (0 < (i : Int)) && ((p.bk i).boundB x && !(p.bk i).declsB x)) := rfl
  have hkd : ((p.bk i).kind != 0) = decide (0 < (i : Int)) := by
    have := shape_kind0 hsh i (by omega) (by omega)
    rw [Bool.eq_iff_iff, bne_iff_ne, decide_eq_true_iff]
    omega
  have hx2 : x < 8 := by omega
  have hgl := World.rowIs.lt hs
  clear hs hv
  generalize locP p i x = R at *
  generalize (p.bk i).kind = K at *
  cases h0 : decide (0 < (i : Int))
  · rw [h0] at hR hkd
    have HR := Lib.hid hR
    clear hR h0
    go_enter Try.func87, Try.ntmps87
    go_wp2
    go_ret
    exact ⟨ret_bool (by rw [HR.out]; rfl), rfl⟩
  · rw [h0, Bool.true_and] at hR
    rw [h0] at hkd
    cases h1 : (p.bk i).boundB x
    · rw [h1] at hR c2
      have HR := Lib.hid hR
      clear hR h0 h1
      go_enter Try.func87, Try.ntmps87
      go_wp2
      go_ret
      exact ⟨ret_bool (by rw [HR.out]; rfl), rfl⟩
    · rw [h1] at hR c2
      have HR := Lib.hid hR
      clear hR h0 h1
      go_enter Try.func87, Try.ntmps87
      go_wp2_with (go_at_call 74; refine (I_declares A p lo i x _ HV.out hi hx0 hx1).mono ?_; rintro e w' ⟨rfl, rfl⟩)
      go_ret
      exact ⟨ret_bool (by rw [HR.out, Bool.true_and]), rfl⟩

end

end Go.Proofs.Ytiemhadpepbcjaa
