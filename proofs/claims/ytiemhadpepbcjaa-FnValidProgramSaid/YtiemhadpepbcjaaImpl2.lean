/-
  Walks: the program's functions of the first chapter, second part: statements and whole programs. Condition: the arguments read as data.
-/
import Derived.Test.YtiemhadpepbcjaaImpl1
namespace Go.Proofs.Ytiemhadpepbcjaa
open Go.RowKit

attribute [local go_sem] ta_yes_numForm ta_no_numForm ta_nil_numForm ta_yes_copyForm ta_no_copyForm ta_nil_copyForm ta_yes_addForm ta_no_addForm ta_nil_addForm ta_yes_makeForm ta_no_makeForm ta_nil_makeForm ta_yes_callForm ta_no_callForm ta_nil_callForm
attribute [local go_sem] ta_yes_getForm ta_no_getForm ta_nil_getForm ta_yes_printForm ta_no_printForm ta_nil_printForm ta_yes_returnForm ta_no_returnForm ta_nil_returnForm ta_yes_declareForm ta_no_declareForm ta_nil_declareForm ta_yes_dropForm ta_no_dropForm ta_nil_dropForm

section
variable (mk : Int → Int → Bool) (dc fn : Bool) (s : St)
theorem stmtG_num (h : s.kind = 0) : stmtG mk dc fn s = (isNm s.to && (inR s.a 0 99 && s.b == 0)) := by simp [stmtG, h]
theorem stmtG_copy (h : s.kind = 1) : stmtG mk dc fn s = (isNm s.to && (isNm s.a && s.b == 0)) := by simp [stmtG, h]
theorem stmtG_add (h : s.kind = 2) : stmtG mk dc fn s = (isNm s.to && (isNm s.a && isNm s.b)) := by simp [stmtG, h]
theorem stmtG_def_ (h : s.kind = 3) : stmtG mk dc fn s = (isNm s.to && (s.b == 0 && mk s.a 1)) := by simp [stmtG, h]
theorem stmtG_class_ (h : s.kind = 4) : stmtG mk dc fn s = (isNm s.to && (s.b == 0 && mk s.a 2)) := by simp [stmtG, h]
theorem stmtG_call (h : s.kind = 5) : stmtG mk dc fn s = (isNm s.to && (isNm s.a && (s.b == -1 || isNm s.b))) := by simp [stmtG, h]
theorem stmtG_get (h : s.kind = 6) : stmtG mk dc fn s = (isNm s.to && (isNm s.a && isNm s.b)) := by simp [stmtG, h]
theorem stmtG_print_ (h : s.kind = 7) : stmtG mk dc fn s = (isNm s.to && (isNm s.a && (s.to == 0 && s.b == 0))) := by simp [stmtG, h]
theorem stmtG_ret (h : s.kind = 8) : stmtG mk dc fn s = (isNm s.to && (isNm s.a && (s.to == 0 && (s.b == 0 && fn)))) := by simp [stmtG, h]
theorem stmtG_decl (h : s.kind = 9 ∨ s.kind = 10) : stmtG mk dc fn s = (isNm s.to && (s.a == 0 && (s.b == 0 && dc))) := by rcases h with h | h <;> simp [stmtG, h]
theorem stmtG_del (h : s.kind = 11) : stmtG mk dc fn s = (isNm s.to && (s.a == 0 && s.b == 0)) := by simp [stmtG, h]
theorem stmtG_nil (h : s.kind < 0 ∨ 11 < s.kind) : stmtG mk dc fn s = false := by
  simp [stmtG, show s.kind ≠ 0 by omega, show s.kind ≠ 1 by omega, show s.kind ≠ 2 by omega, show s.kind ≠ 3 by omega, show s.kind ≠ 4 by omega, show s.kind ≠ 5 by omega, show s.kind ≠ 6 by omega, show s.kind ≠ 7 by omega, show s.kind ≠ 8 by omega, show s.kind ≠ 9 by omega, show s.kind ≠ 10 by omega, show s.kind ≠ 11 by omega]
end

set_option maxRecDepth 100000 in
set_option maxHeartbeats 4000000 in
theorem I_fitsStmt (sl : Value) (p : Pr) (lo : Nat) (b : Int) (s : St) (w : World) (hv : Blks w lo sl p) (h0 : 0 ≤ b) (h1 : b < p.length) :
    Calls Try.prog 37 #[.agg #[sl], .int .i64 b, s.val] w fun e w' => e = .returned (.bool (stmtI p b s)) ∧ Below w.heap.size w w' := by
  have e : stmtI p b s = stmtG (madeI p b) (b != 0) ((p.bk b).kind == 1) s := rfl
  generalize stmtI p b s = R at *
  obtain ⟨C, g, A2, A3, C2, C3, rfl, hg, c0, c1, c2, c3, hpp, hbb⟩ := Prog.at_ hv b h0 h1
  clear hpp hbb
  have HV := Lib.hid hv
  have E := Lib.hid e
  clear e hv
  by_cases hto : isNm s.to = true
  · have HTO := Lib.hid hto
    clear hto
    rcases formV_cases s with h | h | h | h | h | h | h | h | h | h | h | h
    case inr.inr.inr.inl =>
      obtain ⟨hk, hf⟩ := h
      have HF := Lib.hid hf
      have hE := E.out
      rw [stmtG_def_ _ _ _ _ hk, HTO.out, Bool.true_and] at hE
      have hm : madeI p b s.a 1 = (inR s.a 0 (p.length - 1) && ((p.bk s.a).kind == 1 && (p.bk s.a).parent == b)) := rfl
      rw [hm] at hE
      have HE := Lib.hid hE
      clear hk hf hE hm
      by_cases hin : inR s.a 0 (p.length - 1) = true
      · obtain ⟨hin0, hin1⟩ := inR_iff.1 hin
        have HIN := Lib.hid hin
        clear hin
        go_enter Try.func37, Try.ntmps37
        go_wp2_with (go_at_call 51; refine (I_isName _ _).mono ?_; rintro e w' ⟨rfl, rfl⟩; rw [HTO.out])
        refine (I_formOf s _).mono ?_
        rintro e w3 ⟨rfl, hb3⟩
        rw [HF.out]
        obtain ⟨hc3, hf3⟩ := bcell hb3
        have hz3 := hb3.size
        simp only [World.size_alloc] at hc3 hz3
        have r0 := fun o => hc3 w.heap.size o (by omega)
        have r1 := fun o => hc3 (w.heap.size + 1) o (by omega)
        have hB3 := bthen (al2 (w := w)) hb3
        have z0 : w.heap.size < w3.heap.size := by omega
        have z1 : w.heap.size + 1 < w3.heap.size := by omega
        clear hc3 hf3 hb3 hz3
        go_wp2_with fail
        refine (I_isBlock _ p lo _ _ (HV.out.keep (bal hB3 _))).mono ?_
        rintro e w4 ⟨rfl, hb4⟩
        rw [HIN.out]
        obtain ⟨hc4, hf4⟩ := bcell hb4
        have hz4 := hb4.size
        have hB4 := bthen (bal hB3 _) hb4
        simp only [World.size_alloc] at hc4 hz4
        have q0 := fun o => hc4 w.heap.size o (by omega)
        have q1 := fun o => hc4 (w.heap.size + 1) o (by omega)
        have q2 := fun o => hc4 w3.heap.size o (by omega)
        have y0 : w.heap.size < w4.heap.size := by omega
        have y1 : w.heap.size + 1 < w4.heap.size := by omega
        have y2 : w3.heap.size < w4.heap.size := by omega
        obtain ⟨hg4, B2, B3, D2, D3, d0, d1, d2, d3, hpp, hbb⟩ := Prog.atg (HV.out.keep hB4) s.a hin0 (by omega)
        clear hc4 hf4 hb4 hz4 hpp hbb c0 c1 c2 c3
        go_wp2
        all_goals
          go_ret
          refine ⟨ret_bool ?_, by first | exact bal hB4 _ | exact hB4⟩
          rw [HE.out, HIN.out] <;> (clear HE HIN E HTO HV HF d0 d1 d2 d3 q0 q1 q2 y0 y1 y2 r0 r1 z0 z1 hB3 hB4; try simp_all)
      · have HIN := Lib.hid (Bool.eq_false_iff.2 hin)
        clear hin
        go_enter Try.func37, Try.ntmps37
        go_wp2_with (go_at_call 51; refine (I_isName _ _).mono ?_; rintro e w' ⟨rfl, rfl⟩; rw [HTO.out])
        refine (I_formOf s _).mono ?_
        rintro e w3 ⟨rfl, hb3⟩
        rw [HF.out]
        obtain ⟨hc3, hf3⟩ := bcell hb3
        have hz3 := hb3.size
        simp only [World.size_alloc] at hc3 hz3
        have r0 := fun o => hc3 w.heap.size o (by omega)
        have r1 := fun o => hc3 (w.heap.size + 1) o (by omega)
        have hB3 := bthen (al2 (w := w)) hb3
        have z0 : w.heap.size < w3.heap.size := by omega
        have z1 : w.heap.size + 1 < w3.heap.size := by omega
        clear hc3 hf3 hb3 hz3
        go_wp2_with fail
        refine (I_isBlock _ p lo _ _ (HV.out.keep (bal hB3 _))).mono ?_
        rintro e w4 ⟨rfl, hb4⟩
        rw [HIN.out]
        have hB4 := bthen (bal hB3 _) hb4
        go_wp2
        go_ret
        refine ⟨ret_bool ?_, hB4⟩
        rw [HE.out, HIN.out, Bool.false_and, Bool.and_false]
    case inr.inr.inr.inr.inl =>
      obtain ⟨hk, hf⟩ := h
      have HF := Lib.hid hf
      have hE := E.out
      rw [stmtG_class_ _ _ _ _ hk, HTO.out, Bool.true_and] at hE
      have hm : madeI p b s.a 2 = (inR s.a 0 (p.length - 1) && ((p.bk s.a).kind == 2 && (p.bk s.a).parent == b)) := rfl
      rw [hm] at hE
      have HE := Lib.hid hE
      clear hk hf hE hm
      by_cases hin : inR s.a 0 (p.length - 1) = true
      · obtain ⟨hin0, hin1⟩ := inR_iff.1 hin
        have HIN := Lib.hid hin
        clear hin
        go_enter Try.func37, Try.ntmps37
        go_wp2_with (go_at_call 51; refine (I_isName _ _).mono ?_; rintro e w' ⟨rfl, rfl⟩; rw [HTO.out])
        refine (I_formOf s _).mono ?_
        rintro e w3 ⟨rfl, hb3⟩
        rw [HF.out]
        obtain ⟨hc3, hf3⟩ := bcell hb3
        have hz3 := hb3.size
        simp only [World.size_alloc] at hc3 hz3
        have r0 := fun o => hc3 w.heap.size o (by omega)
        have r1 := fun o => hc3 (w.heap.size + 1) o (by omega)
        have hB3 := bthen (al2 (w := w)) hb3
        have z0 : w.heap.size < w3.heap.size := by omega
        have z1 : w.heap.size + 1 < w3.heap.size := by omega
        clear hc3 hf3 hb3 hz3
        go_wp2_with fail
        refine (I_isBlock _ p lo _ _ (HV.out.keep (bal hB3 _))).mono ?_
        rintro e w4 ⟨rfl, hb4⟩
        rw [HIN.out]
        obtain ⟨hc4, hf4⟩ := bcell hb4
        have hz4 := hb4.size
        have hB4 := bthen (bal hB3 _) hb4
        simp only [World.size_alloc] at hc4 hz4
        have q0 := fun o => hc4 w.heap.size o (by omega)
        have q1 := fun o => hc4 (w.heap.size + 1) o (by omega)
        have q2 := fun o => hc4 w3.heap.size o (by omega)
        have y0 : w.heap.size < w4.heap.size := by omega
        have y1 : w.heap.size + 1 < w4.heap.size := by omega
        have y2 : w3.heap.size < w4.heap.size := by omega
        obtain ⟨hg4, B2, B3, D2, D3, d0, d1, d2, d3, hpp, hbb⟩ := Prog.atg (HV.out.keep hB4) s.a hin0 (by omega)
        clear hc4 hf4 hb4 hz4 hpp hbb c0 c1 c2 c3
        go_wp2
        all_goals
          go_ret
          refine ⟨ret_bool ?_, by first | exact bal hB4 _ | exact hB4⟩
          rw [HE.out, HIN.out] <;> (clear HE HIN E HTO HV HF d0 d1 d2 d3 q0 q1 q2 y0 y1 y2 r0 r1 z0 z1 hB3 hB4; try simp_all)
      · have HIN := Lib.hid (Bool.eq_false_iff.2 hin)
        clear hin
        go_enter Try.func37, Try.ntmps37
        go_wp2_with (go_at_call 51; refine (I_isName _ _).mono ?_; rintro e w' ⟨rfl, rfl⟩; rw [HTO.out])
        refine (I_formOf s _).mono ?_
        rintro e w3 ⟨rfl, hb3⟩
        rw [HF.out]
        obtain ⟨hc3, hf3⟩ := bcell hb3
        have hz3 := hb3.size
        simp only [World.size_alloc] at hc3 hz3
        have r0 := fun o => hc3 w.heap.size o (by omega)
        have r1 := fun o => hc3 (w.heap.size + 1) o (by omega)
        have hB3 := bthen (al2 (w := w)) hb3
        have z0 : w.heap.size < w3.heap.size := by omega
        have z1 : w.heap.size + 1 < w3.heap.size := by omega
        clear hc3 hf3 hb3 hz3
        go_wp2_with fail
        refine (I_isBlock _ p lo _ _ (HV.out.keep (bal hB3 _))).mono ?_
        rintro e w4 ⟨rfl, hb4⟩
        rw [HIN.out]
        have hB4 := bthen (bal hB3 _) hb4
        go_wp2
        go_ret
        refine ⟨ret_bool ?_, hB4⟩
        rw [HE.out, HIN.out, Bool.false_and, Bool.and_false]
    all_goals
      obtain ⟨hk, hf⟩ := h
      have HF := Lib.hid hf
      have hE := E.out
      first | rw [stmtG_num _ _ _ _ hk, HTO.out] at hE | rw [stmtG_copy _ _ _ _ hk, HTO.out] at hE | rw [stmtG_add _ _ _ _ hk, HTO.out] at hE | rw [stmtG_call _ _ _ _ hk, HTO.out] at hE | rw [stmtG_get _ _ _ _ hk, HTO.out] at hE | rw [stmtG_print_ _ _ _ _ hk, HTO.out] at hE | rw [stmtG_ret _ _ _ _ hk, HTO.out] at hE | rw [stmtG_decl _ _ _ _ hk, HTO.out] at hE | rw [stmtG_del _ _ _ _ hk, HTO.out] at hE | rw [stmtG_nil _ _ _ _ hk] at hE
      have HE := Lib.hid hE
      clear hk hf hE
      go_enter Try.func37, Try.ntmps37
      go_wp2_with (first
        | (go_at_call 51; refine (I_isName _ _).mono ?_; rintro e w' ⟨rfl, rfl⟩; try rw [HTO.out])
        | (go_at_call 38
           refine (I_formOf s _).mono ?_
           rintro e w3 ⟨rfl, hb3⟩
           rw [HF.out]
           obtain ⟨hc3, hf3⟩ := bcell hb3
           have hz3 := hb3.size
           simp only [World.size_alloc] at hc3 hz3
           have z0 : w.heap.size < w3.heap.size := by omega
           have z1 : w.heap.size + 1 < w3.heap.size := by omega
           have zg : g < w3.heap.size := by omega
           have r0 := fun o => hc3 w.heap.size o (by omega)
           have r1 := fun o => hc3 (w.heap.size + 1) o (by omega)
           have r2 := fun o => hc3 g o (by omega)
           have hB3 := bthen (al2 (w := w)) hb3
           clear hc3 hf3 hb3 hz3))
      all_goals
        go_ret
        refine ⟨ret_bool ?_, by first | exact bal hB3 _ | exact hB3⟩
        rw [HE.out] <;> (clear HE E HTO HV HF c0 c1 c2 c3 r0 r1 r2 z0 z1 zg hB3; try simp_all [inR]; try (intros; omega))
  · have HTO := Lib.hid (Bool.eq_false_iff.2 hto)
    clear hto
    go_enter Try.func37, Try.ntmps37
    go_wp2_with (go_at_call 51; refine (I_isName _ _).mono ?_; rintro e w' ⟨rfl, rfl⟩; rw [HTO.out])
    go_ret
    exact ⟨ret_bool (by rw [E.out]; unfold stmtG; rw [HTO.out]; rfl), al2⟩

end Go.Proofs.Ytiemhadpepbcjaa
