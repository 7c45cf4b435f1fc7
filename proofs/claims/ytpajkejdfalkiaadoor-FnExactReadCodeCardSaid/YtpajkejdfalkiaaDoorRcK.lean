/-
  Walks: the methods of the program's reader of lines and words. Conditions: internal/bytealg's variable holds a number; the texts are at most 2^20 bytes long.
-/
import Derived.Test.YtpajkejdfalkiaaDoorRcJ
namespace Go.Proofs.YtpajkejdfalkiaaDoor
open Go.RowKit
set_option linter.unusedVariables false
variable {w : World} {R : Nat} {a b : Value}

set_option maxRecDepth 100000 in
theorem I_more (ws : List ByteArray) (h : RBox w R a b) (hv : Vw w R b ws) :
    Calls Tryd.prog 97 #[.pointer (some ⟨R, 0, none⟩)] w fun e w' => e = .returned (.bool (decide (ws ≠ []))) ∧ w = w' := by
  obtain ⟨A, C, g, o, rfl, h1, h2, h3, h4⟩ := hv
  have c1 := h.cell1
  have hlt := h.lt
  unfold maxLen at h2
  clear h4
  cases ws with
  | nil =>
    go_enter Tryd.func97, Tryd.ntmps97
    go_wp2
    go_ret
    exact ⟨rfl, rfl⟩
  | cons x r =>
    have hl : 0 < (x :: r).length := by simp
    have HD := Lib.hid (show decide (x :: r ≠ []) = true by simp)
    generalize (x :: r).length = n at *
    go_enter Tryd.func97, Tryd.ntmps97
    go_wp2
    go_ret
    exact ⟨ret_bool (by rw [HD.out]; try rw [decide_eq_true hl]), rfl⟩
def endE (ws : List ByteArray) : Ending := if ws = [] then .returned (.tuple #[]) else badX
set_option maxRecDepth 100000 in
theorem I_endLine (ws : List ByteArray) (h : RBox w R a b) (hv : Vw w R b ws) :
    Calls Tryd.prog 62 #[.pointer (some ⟨R, 0, none⟩)] w fun e w' => e = endE ws ∧ w = w' := by
  have H := Lib.hid h
  have HV := Lib.hid hv
  clear h hv
  cases ws with
  | nil =>
    go_enter Tryd.func62, Tryd.ntmps62
    go_wp2_with fail
    refine (I_more [] H.out HV.out).mono ?_
    rintro e w' ⟨rfl, rfl⟩
    have hd : decide (([] : List ByteArray) ≠ []) = false := by simp
    rw [hd]
    go_wp2
    simp [bodyPost, results, Tryd.results62, endE]
  | cons x r =>
    go_enter Tryd.func62, Tryd.ntmps62
    go_wp2_with fail
    refine (I_more (x :: r) H.out HV.out).mono ?_
    rintro e w' ⟨rfl, rfl⟩
    have hd : decide (x :: r ≠ []) = true := by simp
    rw [hd]
    go_wp2
    exact ⟨rfl, rfl, rfl⟩
theorem Vw.tail {w : World} {R : Nat} {A : Option Addr} {C g o : Nat} {x : ByteArray} {r : List ByteArray} (h1 : (x :: r).length ≤ C) (h2 : C ≤ maxLen) (h3 : g ≠ R ∧ ∃ cur fz, w.heap[g]? = some (.cells cur 9 fz)) (h4 : ∀ j, j < (x :: r).length → w.cell? ⟨g, o + j, none⟩ = some (.string ((x :: r).getD j default)))
    (hA : C ≠ 1 → A = some ⟨g, o + 1, none⟩) : Vw w R (.slice A r.length (C - 1)) r := by
  simp only [List.length_cons] at h1
  refine ⟨A, C - 1, g, o + 1, rfl, by omega, by omega, fun hl => ⟨hA (by omega), h3.1, h3.2⟩, fun j hj => ?_⟩
  have := h4 (j + 1) (by simp only [List.length_cons]; omega)
  rw [show o + 1 + j = o + (j + 1) by omega, this]
  simp [List.getD]
set_option maxRecDepth 100000 in
set_option maxHeartbeats 1000000 in
theorem I_word0 (h : RBox w R a b) (hv : Vw w R b []) :
    Calls Tryd.prog 64 #[.pointer (some ⟨R, 0, none⟩)] w fun e w' => e = badX ∧ w = w' := by
  obtain ⟨A, C, g, o, rfl, h1, h2, h3, h4⟩ := hv
  have c1 := h.cell1
  have hlt := h.lt
  unfold maxLen at h2
  clear h4
  go_enter Tryd.func64, Tryd.ntmps64
  go_wp2
  exact ⟨rfl, rfl, rfl⟩
set_option maxRecDepth 100000 in
set_option maxHeartbeats 1000000 in
theorem I_word (x : ByteArray) (r : List ByteArray) (h : RBox w R a b) (hv : Vw w R b (x :: r)) :
    Calls Tryd.prog 64 #[.pointer (some ⟨R, 0, none⟩)] w fun e w' => e = .returned (.string x) ∧ ∃ b', RBox w' R a b' ∧ Vw w' R b' r ∧ w.grownBy w' (some R) := by
  obtain ⟨A, C, g, o, rfl, h1, h2, h3, h4⟩ := hv
  have c1 := h.cell1
  have f1 := h.frozen 1
  have hlt := h.lt
  obtain ⟨rfl, hgR, hcur⟩ := h3 (by simp)
  have hx := h4 0 (by simp)
  simp only [Nat.add_zero, List.getD_cons_zero] at hx
  have hgw := World.block_lt_of_cell? _ _ hx
  simp only at hgw
  have H := Lib.hid h
  have H1 := Lib.hid h1
  have H2 := Lib.hid h2
  have H3 := Lib.hid (show g ≠ R ∧ ∃ cur fz, w.heap[g]? = some (.cells cur 9 fz) from ⟨hgR, hcur⟩)
  have H4 := Lib.hid h4
  have hl0 : (0 : Int) < ((x :: r).length : Int) := by simp only [List.length_cons]; omega
  have hlz : (((x :: r).length : Int) == 0) = false := by rw [beq_eq_false_iff_ne]; omega
  have hl1 : (1 : Int) ≤ ((x :: r).length : Int) := by omega
  have hs1 : ((x :: r).length : Int) - 1 = (r.length : Int) := by simp only [List.length_cons]; omega
  unfold maxLen at h2
  clear h h3 h4 hcur
  have F := Lib.hid f1
  clear f1
  by_cases hC : C = 1
  · have f1 := F.out
    have HX := Lib.hid (show RBox (w.setCell ⟨R, 1, none⟩ (.slice (some ⟨g, o, none⟩) r.length 0)) R a (.slice (some ⟨g, o, none⟩) r.length 0) ∧ Vw (w.setCell ⟨R, 1, none⟩ (.slice (some ⟨g, o, none⟩) r.length 0)) R (.slice (some ⟨g, o, none⟩) r.length 0) r from by
      subst hC
      exact ⟨H.out.set1 _, (Vw.tail (A := some ⟨g, o, none⟩) H1.out H2.out H3.out H4.out (fun h => absurd rfl h)).kept (grow_set w R 1 _) (.inl rfl)⟩)
    go_enter Tryd.func64, Tryd.ntmps64
    go_wp2
    go_ret
    exact ⟨rfl, _, HX.out.1, HX.out.2, grow_set w R 1 _⟩
  · have f1 := F.out
    have HX := Lib.hid (show RBox (w.setCell ⟨R, 1, none⟩ (.slice (some ⟨g, o + 1, none⟩) r.length (C - 1))) R a (.slice (some ⟨g, o + 1, none⟩) r.length (C - 1)) ∧ Vw (w.setCell ⟨R, 1, none⟩ (.slice (some ⟨g, o + 1, none⟩) r.length (C - 1))) R (.slice (some ⟨g, o + 1, none⟩) r.length (C - 1)) r from
      ⟨H.out.set1 _, (Vw.tail (A := some ⟨g, o + 1, none⟩) H1.out H2.out H3.out H4.out (fun _ => rfl)).kept (grow_set w R 1 _) (.inl rfl)⟩)
    go_enter Tryd.func64, Tryd.ntmps64
    go_wp2
    go_ret
    exact ⟨rfl, _, HX.out.1, HX.out.2, grow_set w R 1 _⟩

def numE (x : ByteArray) : Ending := if numF x = -1 then badX else .returned (.int .i64 (numF x))
set_option maxRecDepth 100000 in
theorem I_number0 (h : RBox w R a b) (hv : Vw w R b []) :
    Calls Tryd.prog 66 #[.pointer (some ⟨R, 0, none⟩)] w fun e w' => e = badX ∧ w = w' := by
  have H := Lib.hid h
  have HV := Lib.hid hv
  clear h hv
  go_enter Tryd.func66, Tryd.ntmps66
  go_wp2_with fail
  refine (I_word0 H.out HV.out).mono ?_
  rintro e w' ⟨rfl, rfl⟩
  go_wp2
  exact ⟨rfl, rfl, rfl⟩
set_option maxRecDepth 100000 in
set_option maxHeartbeats 1000000 in
theorem I_number (x : ByteArray) (r : List ByteArray) (h : RBox w R a b) (hv : Vw w R b (x :: r)) (hx : x.size ≤ 1048576) :
    Calls Tryd.prog 66 #[.pointer (some ⟨R, 0, none⟩)] w fun e w' => e = numE x ∧ ∃ b', RBox w' R a b' ∧ Vw w' R b' r ∧ w.grownBy w' (some R) := by
  have H := Lib.hid h
  have HV := Lib.hid hv
  have HX := Lib.hid hx
  clear h hv hx
  go_enter Tryd.func66, Tryd.ntmps66
  go_wp2_with fail
  refine (I_word x r H.out HV.out).mono ?_
  rintro e w1 ⟨rfl, b', hb, hv, hg⟩
  have HB := Lib.hid hb
  have HV2 := Lib.hid hv
  have HG := Lib.hid hg
  clear hb hv hg
  go_wp2_with fail
  refine (I_smallNumber x _ HX.out).mono ?_
  rintro e w2 ⟨⟨n, ok, rfl, h1, h2⟩, rfl⟩
  cases ok
  · have HE := Lib.hid (show badX = numE x by unfold numE; rw [if_pos (h2 rfl)])
    clear h1 h2
    go_wp2
    exact ⟨rfl, HE.out, b', HB.out, HV2.out, HG.out⟩
  · have HE := Lib.hid (show Ending.returned (.int .i64 n) = numE x by unfold numE; rw [if_neg (h1 rfl).2, (h1 rfl).1])
    clear h1 h2
    go_wp2
    go_ret
    exact ⟨HE.out, b', HB.out, HV2.out, HG.out⟩
end Go.Proofs.YtpajkejdfalkiaaDoor
