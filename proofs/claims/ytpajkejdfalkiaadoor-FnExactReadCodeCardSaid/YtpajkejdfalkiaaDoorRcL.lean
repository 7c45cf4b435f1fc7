/-
  Walks: the program's newReader, nextLine. Conditions: internal/bytealg's variable holds a number; the texts are at most 2^20 bytes long.
-/
import Derived.Test.YtpajkejdfalkiaaDoorRcK
namespace Go.Proofs.YtpajkejdfalkiaaDoor
open Go.RowKit
set_option linter.unusedVariables false
variable {w : World} {R : Nat} {a b : Value}

theorem Split1 (s : ByteArray) (c : UInt8) (m : Int) (w : World) (hs : s.size ≤ 1048576) (hm : w.cell? ⟨3, 0, none⟩ = some (.int .i64 m)) :
    Calls Tryd.prog 96 #[.string s, .string ⟨#[c]⟩] w fun e w' => e = .returned (.slice (some ⟨w.heap.size, 0, none⟩) (spl c s).length (spl c s).length) ∧ w' = w.alloc (.cells ((spl c s).map Value.string).toArray 9) := by
  have h := Tryd.strings_Split s ⟨#[c]⟩ m w (by omega) hm (Nat.le_refl 1)
  rw [splitB_spl, countB_spl] at h
  exact h
set_option maxRecDepth 100000 in
theorem I_nextLine0 (h : RBox w R a b) (hv : Vw w R a []) :
    Calls Tryd.prog 61 #[.pointer (some ⟨R, 0, none⟩)] w fun e w' => e = .returned (.bool false) ∧ w = w' := by
  obtain ⟨A, C, g, o, rfl, h1, h2, h3, h4⟩ := hv
  have c1 := h.cell0
  have hlt := h.lt
  unfold maxLen at h2
  clear h4
  go_enter Tryd.func61, Tryd.ntmps61
  go_wp2
  go_ret
  exact ⟨rfl, rfl⟩
set_option maxRecDepth 100000 in
set_option maxHeartbeats 1000000 in
theorem I_nextLine (x : ByteArray) (r : List ByteArray) (m : Int) (h : RBox w R a b) (hv : Vw w R a (x :: r)) (hx : x.size ≤ 1048576) (hm : w.cell? ⟨3, 0, none⟩ = some (.int .i64 m)) :
    Calls Tryd.prog 61 #[.pointer (some ⟨R, 0, none⟩)] w fun e w' => e = .returned (.bool true) ∧ ∃ a' b', RBox w' R a' b' ∧ Vw w' R a' r ∧ Vw w' R b' (spl 32 x) ∧ w.grownBy w' (some R) := by
  have hlen := (spl_len 32 x).2
  obtain ⟨A, C, g, o, rfl, h1, h2, h3, h4⟩ := hv
  have c0 := h.cell0
  have f0 := h.frozen 0
  have f1 := h.frozen 1
  have hlt := h.lt
  obtain ⟨rfl, hgR, hcur⟩ := h3 (by simp)
  have hx0 := h4 0 (by simp)
  simp only [Nat.add_zero, List.getD_cons_zero] at hx0
  have hgw := World.block_lt_of_cell? _ _ hx0
  simp only at hgw
  have H := Lib.hid h
  have H1 := Lib.hid h1
  have H2 := Lib.hid h2
  have H3 := Lib.hid (show g ≠ R ∧ ∃ cur fz, w.heap[g]? = some (.cells cur 9 fz) from ⟨hgR, hcur⟩)
  have H4 := Lib.hid h4
  have hS := Split1 x 32 m w hx hm
  have hl0 : (0 : Int) < ((x :: r).length : Int) := by simp only [List.length_cons]; omega
  have hlz : (((x :: r).length : Int) == 0) = false := by rw [beq_eq_false_iff_ne]; omega
  have hl1 : (1 : Int) ≤ ((x :: r).length : Int) := by omega
  have hs1 : ((x :: r).length : Int) - 1 = (r.length : Int) := by simp only [List.length_cons]; omega
  have hvs := Vw.lit (w := w) (R := R) rfl (by omega) (spl 32 x) _ rfl (by unfold maxLen; omega)
  have hg1 := World.grownBy_alloc w (.cells ((spl 32 x).map Value.string).toArray 9) (some R)
  have hb1 := h.kept (World.grownBy_alloc w (.cells ((spl 32 x).map Value.string).toArray 9) none) (by simp)
  unfold maxLen at h2
  clear h h3 h4 hcur hlen
  obtain ⟨W1, hW1⟩ : ∃ W1, W1 = w.alloc (.cells ((spl 32 x).map Value.string).toArray 9) := ⟨_, rfl⟩
  rw [← hW1] at hS hvs hg1 hb1
  generalize (spl 32 x).length = n at *
  have HVS := Lib.hid hvs
  have HG1 := Lib.hid hg1
  have HB1 := Lib.hid hb1
  have HS := Lib.hid hS
  clear hvs hg1 hb1 hm hW1 hS
  have fin : ∀ tv, Vw w R tv r → ∃ a' b', RBox ((W1.setCell ⟨R, 1, none⟩ (.slice (some ⟨w.heap.size, 0, none⟩) n n)).setCell ⟨R, 0, none⟩ tv) R a' b' ∧ Vw ((W1.setCell ⟨R, 1, none⟩ (.slice (some ⟨w.heap.size, 0, none⟩) n n)).setCell ⟨R, 0, none⟩ tv) R a' r ∧
      Vw ((W1.setCell ⟨R, 1, none⟩ (.slice (some ⟨w.heap.size, 0, none⟩) n n)).setCell ⟨R, 0, none⟩ tv) R b' (spl 32 x) ∧ w.grownBy ((W1.setCell ⟨R, 1, none⟩ (.slice (some ⟨w.heap.size, 0, none⟩) n n)).setCell ⟨R, 0, none⟩ tv) (some R) := by
    intro tv htv
    have g2 := (grow_set W1 R 1 (.slice (some ⟨w.heap.size, 0, none⟩) n n))
    have g3 := g2.trans (grow_set _ R 0 tv)
    have g4 := HG1.out.trans g3
    exact ⟨tv, _, (HB1.out.set1 _).set0 tv, htv.kept g4 (.inl rfl), HVS.out.kept g3 (.inl rfl), g4⟩
  have FIN := Lib.hid fin
  clear fin f0 f1
  by_cases hC : C = 1
  · have HX := Lib.hid (FIN.out (.slice (some ⟨g, o, none⟩) r.length 0) (by
      subst hC
      exact Vw.tail (A := some ⟨g, o, none⟩) H1.out H2.out H3.out H4.out (fun h => absurd rfl h)))
    go_enter Tryd.func61, Tryd.ntmps61
    go_wp2_with fail
    refine HS.out.mono ?_
    rintro e w' ⟨rfl, rfl⟩
    have c0 := HB1.out.cell0
    have c1 := HB1.out.cell1
    have f0 := HB1.out.frozen 0
    have f1 := HB1.out.frozen 1
    have hlt1 := HB1.out.lt
    go_wp2
    go_ret
    exact ⟨rfl, HX.out⟩
  · have HX := Lib.hid (FIN.out (.slice (some ⟨g, o + 1, none⟩) r.length (C - 1)) (Vw.tail (A := some ⟨g, o + 1, none⟩) H1.out H2.out H3.out H4.out (fun _ => rfl)))
    go_enter Tryd.func61, Tryd.ntmps61
    go_wp2_with fail
    refine HS.out.mono ?_
    rintro e w' ⟨rfl, rfl⟩
    have c0 := HB1.out.cell0
    have c1 := HB1.out.cell1
    have f0 := HB1.out.frozen 0
    have f1 := HB1.out.frozen 1
    have hlt1 := HB1.out.lt
    go_wp2
    go_ret
    exact ⟨rfl, HX.out⟩

set_option maxRecDepth 100000 in
set_option maxHeartbeats 1000000 in
theorem I_newReader (s : ByteArray) (m : Int) (w : World) (hs : s.size ≤ 1048576) (hm : w.cell? ⟨3, 0, none⟩ = some (.int .i64 m)) :
    Calls Tryd.prog 60 #[.string s] w fun e w' => Below w.heap.size w w' ∧
      (((spl 10 s).getD ((spl 10 s).length - 1) default ≠ ByteArray.empty ∧ e = badX) ∨
       ((spl 10 s).getD ((spl 10 s).length - 1) default = ByteArray.empty ∧ ∃ (R : Nat) (a b : Value), e = .returned (.pointer (some ⟨R, 0, none⟩)) ∧ w.heap.size ≤ R ∧ RBox w' R a b ∧ Vw w' R a ((spl 10 s).take ((spl 10 s).length - 1)))) := by
  obtain ⟨hl1, hl2⟩ := spl_len 10 s
  have HS := Lib.hid (Split1 s 10 m w hs hm)
  have hrow := Vw.lit (w := w) (R := w.heap.size + 1) rfl (by omega) (spl 10 s) _ rfl (by unfold maxLen; omega)
  have hal := al1 (w := w) (o := .cells ((spl 10 s).map Value.string).toArray 9)
  generalize spl 10 s = L at *
  obtain ⟨n, hn⟩ : ∃ n : Nat, L.length = n + 1 := ⟨L.length - 1, by omega⟩
  have hlast : (w.alloc (.cells (L.map Value.string).toArray 9)).cell? ⟨w.heap.size, n, none⟩ = some (.string (L.getD n default)) := by
    unfold World.cell?
    simp only [alloc_new]
    simp [List.getD, List.getElem?_eq_getElem (show n < L.length by omega)]
  rw [hn] at HS ⊢
  rw [Nat.add_sub_cancel]
  generalize hO : (Obj.cells (L.map Value.string).toArray 9) = ob at *
  have HR := Lib.hid hrow
  have HA := Lib.hid hal
  have hw1 : IntKind.i64.wrap (((n + 1 : Nat) : Int) - 1) = (n : Int) := by rw [show ((n + 1 : Nat) : Int) - 1 = n by omega]; exact IntWalk.i64_in _ (by omega)
  have hw2 : IntKind.i64.wrap ((n : Int) + 1 - 1) = (n : Int) := by rw [show (n : Int) + 1 - 1 = n by omega]; exact IntWalk.i64_in _ (by omega)
  have hw3 : wrap64 (n : Int) = (n : Int) := by unfold wrap64; omega
  have hk0 : (0 : Int) ≤ (n : Int) := by omega
  have hk1 : (n : Int) < (n : Int) + 1 := by omega
  have HN := Lib.hid hn
  clear hrow hal hO hm hn hl1
  have hv2 : Vw (w.alloc ob) (w.heap.size + 1) (.slice (some ⟨w.heap.size, 0, none⟩) n (n + 1)) (L.take n) := by
    obtain ⟨A, C, g, o, hv, h1, h2, h3, h4⟩ := HR.out
    obtain ⟨hA, hgR, hcur⟩ := h3 (by rw [HN.out]; omega)
    rw [hA] at hv
    injection hv with e1 _ e2
    injection e1 with e1
    injection e1 with e1 e3
    subst e1
    subst e3
    have hlen : (L.take n).length = n := by rw [List.length_take, HN.out]; omega
    refine ⟨some ⟨w.heap.size, 0, none⟩, n + 1, w.heap.size, 0, by rw [hlen], by rw [hlen]; omega, by have := HN.out; unfold maxLen; omega, fun _ => ⟨rfl, hgR, hcur⟩, fun j hj => ?_⟩
    rw [hlen] at hj
    rw [h4 j (by rw [HN.out]; omega)]
    simp [List.getD, List.getElem?_take, hj]
  have HV2 := Lib.hid hv2
  clear hv2
  obtain ⟨Y, hY⟩ : ∃ Y : ByteArray, Y = L.getD n default := ⟨_, rfl⟩
  rw [← hY] at hlast ⊢
  clear hY
  by_cases hy : Y = ByteArray.empty
  · have fin := fun (a : Value) (ha : a = .slice (some ⟨w.heap.size, 0, none⟩) n (n + 1)) => (show Below w.heap.size w ((w.alloc ob).alloc (.cells #[a, .slice none 0 0] 111)) ∧ RBox ((w.alloc ob).alloc (.cells #[a, .slice none 0 0] 111)) (w.heap.size + 1) a (.slice none 0 0) ∧ Vw ((w.alloc ob).alloc (.cells #[a, .slice none 0 0] 111)) (w.heap.size + 1) a (L.take n) from by
      subst ha
      refine ⟨bal HA.out _, ?_, HV2.out.kept (World.grownBy_alloc _ _ none) (.inr rfl)⟩
      have h := RBox.new (w.alloc ob) (.slice (some ⟨w.heap.size, 0, none⟩) n (n + 1)) (.slice none 0 0)
      rwa [World.size_alloc] at h)
    have FIN := Lib.hid (fin _ rfl)
    clear fin
    subst hy
    go_enter Tryd.func60, Tryd.ntmps60
    go_wp2_with fail
    refine HS.out.mono ?_
    rintro e w' ⟨rfl, rfl⟩
    go_wp2
    go_ret
    exact ⟨FIN.out.1, .inr ⟨trivial, _, _, _, rfl, by omega, FIN.out.2.1, FIN.out.2.2⟩⟩
  · have hq1 : (Y.toList == ([] : List UInt8)) = false := by
      rw [ByteArray.toList_eq, beq_eq_false_iff_ne]
      intro h
      exact hy (by rw [← mk_data Y, h]; rfl)
    have HY := Lib.hid hy
    clear hy
    go_enter Tryd.func60, Tryd.ntmps60
    go_wp2_with fail
    refine HS.out.mono ?_
    rintro e w' ⟨rfl, rfl⟩
    go_wp2
    exact ⟨rfl, HA.out, .inl ⟨HY.out, rfl⟩⟩
end Go.Proofs.YtpajkejdfalkiaaDoor
