/-
  Walks: the program's functions of the first chapter, first part: names, blocks, forms of statements. Condition: the arguments read as data.
-/
import Derived.Test.YtiemhadpepbcjaaSpec3
namespace Go.Proofs.Ytiemhadpepbcjaa
open Go.RowKit

theorem I_isName (n : Int) (w : World) :
    Calls Try.prog 51 #[.int .i64 n] w fun e w' => e = .returned (.bool (isNm n)) ∧ w = w' := by
  have h : isNm n = decide (0 ≤ n ∧ n ≤ 7) := rfl
  have H := Lib.hid h
  clear h
  go_enter Try.func51, Try.ntmps51
  go_wp2
  all_goals
    go_ret
    exact ⟨ret_bool (by rw [H.out]; simp; omega), rfl⟩

theorem I_isBlock (sl : Value) (p : Pr) (lo : Nat) (b : Int) (w : World) (hv : Blks w lo sl p) :
    Calls Try.prog 48 #[.agg #[sl], .int .i64 b] w fun e w' => e = .returned (.bool (inR b 0 (p.length - 1))) ∧ Below w.heap.size w w' := by
  obtain ⟨A, C, rfl⟩ := hv.form
  have h : inR b 0 (p.length - 1) = decide (0 ≤ b ∧ b < p.length) := by simp only [inR, decide_eq_decide]; omega
  have H := Lib.hid h
  clear h hv
  go_enter Try.func48, Try.ntmps48
  go_wp2
  all_goals
    go_ret
    exact ⟨ret_bool (by rw [H.out]; simp; omega), al1⟩

theorem I_isDeclaration (s : St) (w : World) :
    Calls Try.prog 41 #[s.val] w fun e w' => e = .returned (.bool s.decl) ∧ Below w.heap.size w w' := by
  have h : s.decl = decide (s.kind = 9 ∨ s.kind = 10) := rfl
  have H := Lib.hid h
  clear h
  go_enter Try.func41, Try.ntmps41
  go_wp2
  all_goals
    go_ret
    exact ⟨ret_bool (by rw [H.out, Bool.eq_iff_iff]; simp_all), al1⟩

/-- The form of a statement, as a value. -/
def formV (s : St) : Value :=
  if s.kind = 0 then .iface 102 (.agg #[.int .i64 s.a])
  else if s.kind = 1 then .iface 104 (.agg #[.int .i64 s.a])
  else if s.kind = 2 then .iface 106 (.agg #[.int .i64 s.a, .int .i64 s.b])
  else if s.kind = 3 then .iface 63 (.agg #[.int .i64 1, .int .i64 s.a])
  else if s.kind = 4 then .iface 63 (.agg #[.int .i64 2, .int .i64 s.a])
  else if s.kind = 5 then .iface 108 (.agg #[.int .i64 s.a, .int .i64 s.b])
  else if s.kind = 6 then .iface 110 (.agg #[.int .i64 s.a, .int .i64 s.b])
  else if s.kind = 7 then .iface 112 (.agg #[.int .i64 s.a])
  else if s.kind = 8 then .iface 113 (.agg #[.int .i64 s.a])
  else if s.kind = 9 ∨ s.kind = 10 then .iface 115 (.agg #[])
  else if s.kind = 11 then .iface 116 (.agg #[])
  else .nilIface

theorem I_formOf (s : St) (w : World) :
    Calls Try.prog 38 #[s.val] w fun e w' => e = .returned (formV s) ∧ Below w.heap.size w w' := by
  go_enter Try.func38, Try.ntmps38
  go_wp2
  all_goals
    go_ret
    refine ⟨?_, al1⟩
    unfold formV
    simp_all

/-! ### a form told apart by its type -/
theorem ta_yes_numForm (v : Value) (w : World) : (Instr.typeAssert (.iface 102 v) 66 102 true).run Try.prog w = .ok (.tuple #[v, .bool true]) w := by kernel_rfl
theorem ta_nil_numForm (w : World) : (Instr.typeAssert .nilIface 66 102 true).run Try.prog w = .ok (.tuple #[.agg #[.int .i64 0], .bool false]) w := by kernel_rfl
theorem ta_no_numForm (T : TypeId) (v : Value) (w : World) (h : T ≠ 102) : (Instr.typeAssert (.iface T v) 66 102 true).run Try.prog w = .ok (.tuple #[.agg #[.int .i64 0], .bool false]) w := by
  simp [Instr.typeAssert, run_underlying Try.underlying102, h]
theorem ta_yes_copyForm (v : Value) (w : World) : (Instr.typeAssert (.iface 104 v) 66 104 true).run Try.prog w = .ok (.tuple #[v, .bool true]) w := by kernel_rfl
theorem ta_nil_copyForm (w : World) : (Instr.typeAssert .nilIface 66 104 true).run Try.prog w = .ok (.tuple #[.agg #[.int .i64 0], .bool false]) w := by kernel_rfl
theorem ta_no_copyForm (T : TypeId) (v : Value) (w : World) (h : T ≠ 104) : (Instr.typeAssert (.iface T v) 66 104 true).run Try.prog w = .ok (.tuple #[.agg #[.int .i64 0], .bool false]) w := by
  simp [Instr.typeAssert, run_underlying Try.underlying104, h]
theorem ta_yes_addForm (v : Value) (w : World) : (Instr.typeAssert (.iface 106 v) 66 106 true).run Try.prog w = .ok (.tuple #[v, .bool true]) w := by kernel_rfl
theorem ta_nil_addForm (w : World) : (Instr.typeAssert .nilIface 66 106 true).run Try.prog w = .ok (.tuple #[.agg #[.int .i64 0, .int .i64 0], .bool false]) w := by kernel_rfl
theorem ta_no_addForm (T : TypeId) (v : Value) (w : World) (h : T ≠ 106) : (Instr.typeAssert (.iface T v) 66 106 true).run Try.prog w = .ok (.tuple #[.agg #[.int .i64 0, .int .i64 0], .bool false]) w := by
  simp [Instr.typeAssert, run_underlying Try.underlying106, h]
theorem ta_yes_makeForm (v : Value) (w : World) : (Instr.typeAssert (.iface 63 v) 66 63 true).run Try.prog w = .ok (.tuple #[v, .bool true]) w := by kernel_rfl
theorem ta_nil_makeForm (w : World) : (Instr.typeAssert .nilIface 66 63 true).run Try.prog w = .ok (.tuple #[.agg #[.int .i64 0, .int .i64 0], .bool false]) w := by kernel_rfl
theorem ta_no_makeForm (T : TypeId) (v : Value) (w : World) (h : T ≠ 63) : (Instr.typeAssert (.iface T v) 66 63 true).run Try.prog w = .ok (.tuple #[.agg #[.int .i64 0, .int .i64 0], .bool false]) w := by
  simp [Instr.typeAssert, run_underlying Try.underlying63, h]
theorem ta_yes_callForm (v : Value) (w : World) : (Instr.typeAssert (.iface 108 v) 66 108 true).run Try.prog w = .ok (.tuple #[v, .bool true]) w := by kernel_rfl
theorem ta_nil_callForm (w : World) : (Instr.typeAssert .nilIface 66 108 true).run Try.prog w = .ok (.tuple #[.agg #[.int .i64 0, .int .i64 0], .bool false]) w := by kernel_rfl
theorem ta_no_callForm (T : TypeId) (v : Value) (w : World) (h : T ≠ 108) : (Instr.typeAssert (.iface T v) 66 108 true).run Try.prog w = .ok (.tuple #[.agg #[.int .i64 0, .int .i64 0], .bool false]) w := by
  simp [Instr.typeAssert, run_underlying Try.underlying108, h]
theorem ta_yes_getForm (v : Value) (w : World) : (Instr.typeAssert (.iface 110 v) 66 110 true).run Try.prog w = .ok (.tuple #[v, .bool true]) w := by kernel_rfl
theorem ta_nil_getForm (w : World) : (Instr.typeAssert .nilIface 66 110 true).run Try.prog w = .ok (.tuple #[.agg #[.int .i64 0, .int .i64 0], .bool false]) w := by kernel_rfl
theorem ta_no_getForm (T : TypeId) (v : Value) (w : World) (h : T ≠ 110) : (Instr.typeAssert (.iface T v) 66 110 true).run Try.prog w = .ok (.tuple #[.agg #[.int .i64 0, .int .i64 0], .bool false]) w := by
  simp [Instr.typeAssert, run_underlying Try.underlying110, h]
theorem ta_yes_printForm (v : Value) (w : World) : (Instr.typeAssert (.iface 112 v) 66 112 true).run Try.prog w = .ok (.tuple #[v, .bool true]) w := by kernel_rfl
theorem ta_nil_printForm (w : World) : (Instr.typeAssert .nilIface 66 112 true).run Try.prog w = .ok (.tuple #[.agg #[.int .i64 0], .bool false]) w := by kernel_rfl
theorem ta_no_printForm (T : TypeId) (v : Value) (w : World) (h : T ≠ 112) : (Instr.typeAssert (.iface T v) 66 112 true).run Try.prog w = .ok (.tuple #[.agg #[.int .i64 0], .bool false]) w := by
  simp [Instr.typeAssert, run_underlying Try.underlying112, h]
theorem ta_yes_returnForm (v : Value) (w : World) : (Instr.typeAssert (.iface 113 v) 66 113 true).run Try.prog w = .ok (.tuple #[v, .bool true]) w := by kernel_rfl
theorem ta_nil_returnForm (w : World) : (Instr.typeAssert .nilIface 66 113 true).run Try.prog w = .ok (.tuple #[.agg #[.int .i64 0], .bool false]) w := by kernel_rfl
theorem ta_no_returnForm (T : TypeId) (v : Value) (w : World) (h : T ≠ 113) : (Instr.typeAssert (.iface T v) 66 113 true).run Try.prog w = .ok (.tuple #[.agg #[.int .i64 0], .bool false]) w := by
  simp [Instr.typeAssert, run_underlying Try.underlying113, h]
theorem ta_yes_declareForm (v : Value) (w : World) : (Instr.typeAssert (.iface 115 v) 66 115 true).run Try.prog w = .ok (.tuple #[v, .bool true]) w := by kernel_rfl
theorem ta_nil_declareForm (w : World) : (Instr.typeAssert .nilIface 66 115 true).run Try.prog w = .ok (.tuple #[.agg #[], .bool false]) w := by kernel_rfl
theorem ta_no_declareForm (T : TypeId) (v : Value) (w : World) (h : T ≠ 115) : (Instr.typeAssert (.iface T v) 66 115 true).run Try.prog w = .ok (.tuple #[.agg #[], .bool false]) w := by
  simp [Instr.typeAssert, run_underlying Try.underlying115, h]
theorem ta_yes_dropForm (v : Value) (w : World) : (Instr.typeAssert (.iface 116 v) 66 116 true).run Try.prog w = .ok (.tuple #[v, .bool true]) w := by kernel_rfl
theorem ta_nil_dropForm (w : World) : (Instr.typeAssert .nilIface 66 116 true).run Try.prog w = .ok (.tuple #[.agg #[], .bool false]) w := by kernel_rfl
theorem ta_no_dropForm (T : TypeId) (v : Value) (w : World) (h : T ≠ 116) : (Instr.typeAssert (.iface T v) 66 116 true).run Try.prog w = .ok (.tuple #[.agg #[], .bool false]) w := by
  simp [Instr.typeAssert, run_underlying Try.underlying116, h]
attribute [local go_sem] ta_yes_numForm ta_nil_numForm ta_no_numForm ta_yes_copyForm ta_nil_copyForm ta_no_copyForm ta_yes_addForm ta_nil_addForm ta_no_addForm ta_yes_makeForm ta_nil_makeForm ta_no_makeForm ta_yes_callForm ta_nil_callForm ta_no_callForm ta_yes_getForm ta_nil_getForm ta_no_getForm ta_yes_printForm ta_nil_printForm ta_no_printForm ta_yes_returnForm ta_nil_returnForm ta_no_returnForm ta_yes_declareForm ta_nil_declareForm ta_no_declareForm ta_yes_dropForm ta_nil_dropForm ta_no_dropForm

theorem formV_cases (s : St) :
    (s.kind = 0 ∧ formV s = .iface 102 (.agg #[.int .i64 s.a])) ∨ (s.kind = 1 ∧ formV s = .iface 104 (.agg #[.int .i64 s.a])) ∨
    (s.kind = 2 ∧ formV s = .iface 106 (.agg #[.int .i64 s.a, .int .i64 s.b])) ∨ (s.kind = 3 ∧ formV s = .iface 63 (.agg #[.int .i64 1, .int .i64 s.a])) ∨
    (s.kind = 4 ∧ formV s = .iface 63 (.agg #[.int .i64 2, .int .i64 s.a])) ∨ (s.kind = 5 ∧ formV s = .iface 108 (.agg #[.int .i64 s.a, .int .i64 s.b])) ∨
    (s.kind = 6 ∧ formV s = .iface 110 (.agg #[.int .i64 s.a, .int .i64 s.b])) ∨ (s.kind = 7 ∧ formV s = .iface 112 (.agg #[.int .i64 s.a])) ∨
    (s.kind = 8 ∧ formV s = .iface 113 (.agg #[.int .i64 s.a])) ∨ ((s.kind = 9 ∨ s.kind = 10) ∧ formV s = .iface 115 (.agg #[])) ∨
    (s.kind = 11 ∧ formV s = .iface 116 (.agg #[])) ∨ ((s.kind < 0 ∨ 11 < s.kind) ∧ formV s = .nilIface) := by
  by_cases h0 : s.kind = 0
  · left; exact ⟨h0, by unfold formV; simp [h0]⟩
  right
  by_cases h1 : s.kind = 1
  · left; exact ⟨h1, by unfold formV; simp [h1]⟩
  right
  by_cases h2 : s.kind = 2
  · left; exact ⟨h2, by unfold formV; simp [h2]⟩
  right
  by_cases h3 : s.kind = 3
  · left; exact ⟨h3, by unfold formV; simp [h3]⟩
  right
  by_cases h4 : s.kind = 4
  · left; exact ⟨h4, by unfold formV; simp [h4]⟩
  right
  by_cases h5 : s.kind = 5
  · left; exact ⟨h5, by unfold formV; simp [h5]⟩
  right
  by_cases h6 : s.kind = 6
  · left; exact ⟨h6, by unfold formV; simp [h6]⟩
  right
  by_cases h7 : s.kind = 7
  · left; exact ⟨h7, by unfold formV; simp [h7]⟩
  right
  by_cases h8 : s.kind = 8
  · left; exact ⟨h8, by unfold formV; simp [h8]⟩
  right
  by_cases h9 : s.kind = 9 ∨ s.kind = 10
  · left; exact ⟨h9, by unfold formV; rw [if_neg h0, if_neg h1, if_neg h2, if_neg h3, if_neg h4, if_neg h5, if_neg h6, if_neg h7, if_neg h8, if_pos h9]⟩
  right
  by_cases h11 : s.kind = 11
  · left; exact ⟨h11, by unfold formV; simp [h11]⟩
  right
  exact ⟨by omega, by unfold formV; rw [if_neg h0, if_neg h1, if_neg h2, if_neg h3, if_neg h4, if_neg h5, if_neg h6, if_neg h7, if_neg h8, if_neg h9, if_neg h11]⟩

set_option maxRecDepth 100000 in
theorem I_binds (s : St) (w : World) :
    Calls Try.prog 86 #[s.val] w fun e w' => e = .returned (.bool s.binds) ∧ Below w.heap.size w w' := by
  have h : s.binds = decide ((0 ≤ s.kind ∧ s.kind ≤ 6) ∨ s.kind = 11) := rfl
  have H := Lib.hid h
  clear h
  rcases formV_cases s with h | h | h | h | h | h | h | h | h | h | h | h
  all_goals
    obtain ⟨hk, hf⟩ := h
    have HF := Lib.hid hf
    have HK := Lib.hid hk
    clear hk hf
    go_enter Try.func86, Try.ntmps86
    go_wp2_with (go_at_call 38; refine (I_formOf s _).mono ?_; rintro e w3 ⟨rfl, hb3⟩; rw [HF.out]; have hB3 := bthen (al1 (w := w)) hb3)
    go_ret
    refine ⟨ret_bool ?_, hB3⟩
    have hk := HK.out
    rw [H.out]
    simp only [Bool.true_eq, Bool.false_eq, decide_eq_true_eq, decide_eq_false_iff_not]
    omega

theorem I_fitsHead (i : Int) (k : Bk) (A2 A3 : Option Addr) (C2 C3 n3 lo : Nat) (w : World) (hp : Ints w lo (.slice A2 k.params.length C2) k.params) :
    Calls Try.prog 36 #[.int .i64 i, .agg #[.int .i64 k.kind, .int .i64 k.parent, .slice A2 k.params.length C2, .slice A3 n3 C3]] w fun e w' => e = .returned (.bool (headOk i k)) ∧ Below w.heap.size w w' := by
  obtain ⟨A, D, r, eb, hn, hD, hA, hr, hcell, _⟩ := hp.rd
  obtain ⟨rfl, rfl⟩ : A2 = A ∧ C2 = D := by simpa using eb
  obtain ⟨K, Pa, ps, bs⟩ := k
  simp only at hn hA hr hcell
  clear hp eb
  unfold maxLen at hD
  have e : headOk i ⟨K, Pa, ps, bs⟩ = if i = 0 then (K == 0 && (Pa == -1 && (ps.length : Int) == 0)) else (decide (0 ≤ Pa ∧ Pa < i) && (decide (K = 1 ∨ K = 2) && ((ps.length : Int) == 0 || (ps.length : Int) == 1 && (K == 1 && isNm (ps.getD 0 0))))) := by
    have e1 : inR Pa 0 (i - 1) = decide (0 ≤ Pa ∧ Pa < i) := by simp only [inR, decide_eq_decide]; omega
    have e2 : inR K 1 2 = decide (K = 1 ∨ K = 2) := by simp only [inR, decide_eq_decide]; omega
    simp only [headOk, e1, e2]
  have hx : 0 < ps.length → A2 = some ⟨r, 0, none⟩ ∧ w.cell? ⟨r, 0, none⟩ = some (.int .i64 (ps.getD 0 0)) ∧ r < w.heap.size := fun h => ⟨hA h, hcell 0 h, (hr h).2⟩
  generalize ps.getD 0 0 = x at *
  generalize headOk i ⟨K, Pa, ps, bs⟩ = R at *
  have E := Lib.hid e
  clear e hA hcell hr
  by_cases hb : i = 0
  · have hb0 : (i == 0) = true := by simp [hb]
    have HB := Lib.hid hb
    clear hb hx
    go_enter Try.func36, Try.ntmps36
    go_wp2
    all_goals
      go_ret
      refine ⟨ret_bool ?_, al1⟩
      rw [E.out, if_pos HB.out]
      simp_all
  · have hb0 : (i == 0) = false := by simp [hb]
    have HB := Lib.hid hb
    clear hb
    rcases Nat.lt_or_ge 0 ps.length with hps | hps
    · obtain ⟨rfl, c5, hr⟩ := hx hps
      clear hx
      have hl0 : ((ps.length : Int) == 0) = false := beq_eq_false_iff_ne.2 (by omega)
      go_enter Try.func36, Try.ntmps36
      go_wp2_with (go_at_call 51; refine (I_isName _ _).mono ?_; rintro e w' ⟨rfl, rfl⟩)
      all_goals
        go_ret
        refine ⟨ret_bool ?_, al1⟩
        rw [E.out, if_neg HB.out]
        clear E HB
        simp_all
        try (intros; omega)
    · clear hx
      have hl0 : ((ps.length : Int) == 0) = true := beq_iff_eq.2 (by omega)
      go_enter Try.func36, Try.ntmps36
      go_wp2_with (go_at_call 51; refine (I_isName _ _).mono ?_; rintro e w' ⟨rfl, rfl⟩)
      all_goals
        go_ret
        refine ⟨ret_bool ?_, al1⟩
        rw [E.out, if_neg HB.out]
        clear E HB
        simp_all
        try (intros; omega)

end Go.Proofs.Ytiemhadpepbcjaa
