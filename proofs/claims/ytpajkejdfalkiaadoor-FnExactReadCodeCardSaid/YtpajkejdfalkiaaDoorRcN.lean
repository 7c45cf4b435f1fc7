/-
  Walks: the program's readOps. Conditions: the table of words holds the words, internal/bytealg's variable holds a number; the text is at most 2^20 bytes long.
-/
import Derived.Test.YtpajkejdfalkiaaDoorRcL
namespace Go.Proofs.YtpajkejdfalkiaaDoor
open Go.RowKit
set_option linter.unusedVariables false

section
variable {w w' : World} {R lo : Nat} {a b v : Value} {D : List (Int × Int)} {l : List ByteArray}
theorem RBox.app (h : RBox w R a b) (hO : Ops w lo v D) (hg : w.grownBy w' v.ownBlock) : RBox w' R a b := by
  refine h.kept hg ?_
  rcases h.not_row (by decide) hO with e | e
  · rw [e]; intro h; cases h
  · exact fun h => e h.symm
theorem Vw.app (h : Vw w R a l) (hO : Ops w lo v D) (hg : w.grownBy w' v.ownBlock) : Vw w' R a l := h.grown hg (by decide) hO
theorem Ops.meth (hO : Ops w lo v D) (h : RBox w R a b) (hg : w.grownBy w' (some R)) : Ops w' lo v D := World.ownsRow.kept hO hg (h.not_row (by decide) hO)
theorem Ops.old (hO : Ops w lo v D) : v.ownBlock = none ∨ v.ownBlock ≠ some w.heap.size := by
  rcases hO.2 with ⟨rfl, _⟩ | ⟨g, cap, cur, rfl, _, hgb, _⟩
  · exact .inl rfl
  · right
    have := (Array.getElem?_eq_some_iff.1 hgb).1
    simp only [Value.ownBlock, ne_eq, Option.some.injEq]
    omega
theorem RBox.al (h : RBox w R a b) (o : Obj) : RBox (w.alloc o) R a b := h.kept (World.grownBy_alloc _ _ none) (by simp)
theorem Vw.al (h : Vw w R a l) (o : Obj) : Vw (w.alloc o) R a l := h.kept (World.grownBy_alloc _ _ none) (.inr rfl)
theorem below_meth {B : Nat} {w0 : World} (h : Below B w0 w) (hg : w.grownBy w' (some R)) (hB : B ≤ w.heap.size) (hR : B ≤ R) : Below B w0 w' := h.grown hg hB (fun k hk => by injection hk with hk; omega)
end
def sliceLen : Value → Nat
  | .slice _ n _ => n
  | _ => 0
theorem codeTo_nat (w : ByteArray) : ∀ n : Nat, codeTo w n = -1 ∨ ∃ c : Nat, codeTo w n = c
  | 0 => .inl rfl
  | n + 1 => by
    rw [codeTo]
    rcases codeTo_nat w n with h | ⟨c, h⟩
    · rw [h, if_neg (by simp)]
      split
      · exact .inr ⟨n, rfl⟩
      · exact .inl rfl
    · rw [h, if_pos (by omega)]
      exact .inr ⟨c, rfl⟩
/-- What readOps answers. -/
def OpsOut (s : ByteArray) (lo : Nat) (e : Ending) (w : World) : Prop := (codeR s = none ∧ e = badX) ∨ ∃ (D : List (Int × Int)) (v' : Value), codeR s = some D ∧ e = .returned v' ∧ Ops w lo v' D

set_option maxRecDepth 100000 in
set_option maxHeartbeats 4000000 in
theorem I_readOps (s : ByteArray) (m : Int) (w : World) (hs : s.size ≤ 1048576) (hT : ∀ k, k < 21 → w.cell? ⟨2, k, none⟩ = some (.string (opWd k))) (hm : w.cell? ⟨3, 0, none⟩ = some (.int .i64 m)) :
    Calls Tryd.prog 39 #[.string s] w fun e w' => OpsOut s w.heap.size e w' ∧ Below w.heap.size w w' := by
  obtain ⟨hl1, hl2⟩ := spl_len 10 s
  have hz3 := World.block_lt_of_cell? _ _ hm
  simp only at hz3
  have HNR := Lib.hid (I_newReader s m w hs hm)
  have keepT : ∀ w', Below w.heap.size w w' → ∀ k, k < 21 → w'.cell? ⟨2, k, none⟩ = some (.string (opWd k)) := fun w' hb k hk => (hb.cell (p := ⟨2, k, none⟩) (by show 2 < _; omega)).trans (hT k hk)
  have keepM : ∀ w', Below w.heap.size w w' → w'.cell? ⟨3, 0, none⟩ = some (.int .i64 m) := fun w' hb => (hb.cell (p := ⟨3, 0, none⟩) hz3).trans hm
  have KT := Lib.hid keepT
  have KM := Lib.hid keepM
  have hpiece : ∀ k, ((spl 10 s).getD k default).size ≤ 1048576 := fun k => Nat.le_trans (spl_piece 10 s k) hs
  have HPI := Lib.hid hpiece
  clear hpiece keepT keepM hT hm
  go_enter Tryd.func39, Tryd.ntmps39
  go_wp2_with fail
  refine HNR.out.mono ?_
  rintro e w1 ⟨hb1, ⟨hne, rfl⟩ | ⟨hem, R, a0, b0, rfl, hR, hbox, hvw⟩⟩
  · have HOUT := Lib.hid (show OpsOut s w.heap.size badX w1 from .inl ⟨by unfold codeR; rw [if_neg hne], rfl⟩)
    have HB := Lib.hid hb1
    clear hb1 hne
    go_wp2
    exact ⟨rfl, HOUT.out, HB.out⟩
  have hcr : codeR s = linesTo (spl 10 s) ((spl 10 s).length - 1) := by unfold codeR; rw [if_pos hem]
  obtain ⟨ls, hls⟩ : ∃ ls : List ByteArray, ls = spl 10 s := ⟨_, rfl⟩
  rw [← hls] at hvw hcr hl1 hl2 HPI
  obtain ⟨mm, hmm⟩ : ∃ mm : Nat, mm = ls.length - 1 := ⟨_, rfl⟩
  rw [← hmm] at hvw hcr
  have HCR := Lib.hid hcr
  have HBOX := Lib.hid hbox
  have HVW := Lib.hid hvw
  have HB1 := Lib.hid hb1
  have hz1 := hb1.size
  clear hbox hvw hb1 hem hcr hls
  go_wp2
  go_loopw [3] (fun o wr => ∃ (k : Nat) (D : List (Int × Int)) (a b : Value), k ≤ mm ∧ Ops wr w.heap.size o D ∧ linesTo ls k = some D ∧ RBox wr R a b ∧ Vw wr R a ((ls.take mm).drop k) ∧ Below w.heap.size w wr) (fun o wr => mm - sliceLen o)
  case atStart => exact ⟨0, [], a0, b0, Nat.zero_le _, Ops.nil _ _, rfl, HBOX.out, HVW.out, HB1.out⟩
  case round =>
    obtain ⟨k, D, a, b, hk, hD, hln, hbx, hva, hBw⟩ := hrel
    have hDl := linesTo_len k hln
    have HD := Lib.hid hD
    have HLN := Lib.hid hln
    have HBX := Lib.hid hbx
    have HVA := Lib.hid hva
    have HBW := Lib.hid hBw
    have hzr := hBw.size
    have hRl := hbx.lt
    clear hD hln hbx hva hBw
    by_cases hlt : k < mm
    case neg =>
      obtain rfl : k = mm := by omega
      have hva := HVA.out
      rw [List.drop_eq_nil_of_le (by rw [List.length_take]; omega)] at hva
      have HVA0 := Lib.hid hva
      have HOUT := Lib.hid (fun o (h : Ops wr w.heap.size o D) => (show OpsOut s w.heap.size (.returned o) wr from .inr ⟨D, o, by rw [HCR.out, HLN.out], rfl, h⟩))
      have HOUT2 := Lib.hid (HOUT.out _ HD.out)
      clear hva
      go_wp2_with fail
      refine (I_nextLine0 HBX.out HVA0.out).mono ?_
      rintro e w' ⟨rfl, rfl⟩
      go_wp2
      go_ret
      exact ⟨HOUT2.out, HBW.out⟩
    have hva := HVA.out
    have hdrop : (ls.take mm).drop k = ls.getD k default :: (ls.take mm).drop (k + 1) := by
      rw [List.drop_eq_getElem_cons (by rw [List.length_take]; omega)]
      congr 1
      simp [List.getD, List.getElem?_eq_getElem (show k < ls.length by omega)]
    rw [hdrop] at hva
    have HVA1 := Lib.hid hva
    have hsz := HPI.out k
    obtain ⟨Y, hY⟩ : ∃ Y : ByteArray, Y = ls.getD k default := ⟨_, rfl⟩
    have hbad : lineF Y = none → codeR s = none := fun h => by rw [HCR.out]; exact linesTo_none (j := k) (by rw [← hY]; exact h) _ hlt
    have hgood : ∀ o, lineF Y = some o → linesTo ls (k + 1) = some (D ++ [o]) := fun o h => by
      rw [linesTo, HLN.out, ← hY, h]
      rfl
    rw [← hY] at HVA1 hsz
    have HBAD := Lib.hid hbad
    have HGOOD := Lib.hid hgood
    have HSZ := Lib.hid hsz
    clear hva hdrop hbad hgood hY hsz
    obtain ⟨oA, oC, ho⟩ := HD.out.form
    rw [hDl] at ho
    subst ho
    go_wp2_with fail
    refine (I_nextLine Y _ m HBX.out HVA1.out HSZ.out (KM.out _ HBW.out)).mono ?_
    rintro e w2 ⟨rfl, a2, b2, hbx2, hva2, hvb2, hg2⟩
    have hBW2 := below_meth HBW.out hg2 hzr hR
    have hD2 := HD.out.meth HBX.out hg2
    have hz2 := hg2.size
    have hs32 := (spl_len 32 Y)
    obtain ⟨ws, hws⟩ : ∃ ws : List ByteArray, ws = spl 32 Y := ⟨_, rfl⟩
    have hlf1 : ∀ c : Nat, codeF (ws.getD 0 default) = c → argB c = false → lineF Y = if ws.length = 1 then some ((c : Int), 0) else none := fun c h1 h2 => by
      have := lineF_lone (l := Y) (k := c) (by rw [← hws]; exact h1) h2
      rw [← hws] at this
      exact this
    have hlf2 : ∀ c : Nat, codeF (ws.getD 0 default) = c → argB c = true → lineF Y = if ws.length = 2 ∧ numF (ws.getD 1 default) ≠ -1 then some ((c : Int), numF (ws.getD 1 default)) else none := fun c h1 h2 => by
      have := lineF_arg (l := Y) (k := c) (by rw [← hws]; exact h1) h2
      rw [← hws] at this
      exact this
    have hlf0 : codeF (ws.getD 0 default) = -1 → lineF Y = none := fun h => lineF_none0 (by rw [← hws]; exact h)
    have hpw : ∀ j, (ws.getD j default).size ≤ 1048576 := fun j => by rw [hws]; exact Nat.le_trans (spl_piece 32 Y j) HSZ.out
    rw [← hws] at hvb2 hs32
    obtain ⟨x, r, rfl⟩ : ∃ x r, ws = x :: r := by
      cases ws with
      | nil => simp at hs32
      | cons x r => exact ⟨x, r, rfl⟩
    simp only [List.getD_cons_zero] at hlf0 hlf1 hlf2
    have HLF0 := Lib.hid hlf0
    have HLF1 := Lib.hid hlf1
    have HLF2 := Lib.hid hlf2
    have HPW := Lib.hid hpw
    have HBX2 := Lib.hid hbx2
    have HVA2 := Lib.hid hva2
    have HVB2 := Lib.hid hvb2
    have HBW2 := Lib.hid hBW2
    have HD2 := Lib.hid hD2
    clear hws hlf0 hlf1 hlf2 hpw hbx2 hva2 hvb2 hBW2 hD2 hg2 hs32
    go_wp2_with fail
    refine (I_word x r HBX2.out HVB2.out).mono ?_
    rintro e w3 ⟨rfl, b3, hbx3, hvb3, hg3⟩
    have hBW3 := below_meth HBW2.out hg3 (by omega) hR
    have hD3 := HD2.out.meth HBX2.out hg3
    have hva3 := HVA2.out.kept hg3 (.inl rfl)
    have hz3' := hg3.size
    have HBX3 := Lib.hid hbx3
    have HVA3 := Lib.hid hva3
    have HVB3 := Lib.hid hvb3
    have HBW3 := Lib.hid hBW3
    have HD3 := Lib.hid hD3
    clear hbx3 hva3 hvb3 hBW3 hD3 hg3
    go_wp2_with fail
    refine (I_codeOf x _ (KT.out _ HBW3.out)).mono ?_
    rintro e w' ⟨rfl, rfl⟩
    by_cases hc : codeF x = -1
    · have HOUT := Lib.hid (fun w' => show OpsOut s w.heap.size badX w' from .inl ⟨HBAD.out (HLF0.out hc), rfl⟩)
      have hBW4 := fun o => bal HBW3.out o
      have H4BW := Lib.hid hBW4
      rw [hc]
      clear hBW4 hc
      go_wp2
      exact ⟨rfl, HOUT.out _, H4BW.out _⟩
    obtain ⟨c, hcc⟩ : ∃ c : Nat, codeF x = c := by
      rcases codeTo_nat x 21 with h | h
      · exact absurd h hc
      · exact h
    have hc1 : ((c : Int) == -1) = false := by rw [beq_eq_false_iff_ne]; omega
    have HLC1 := Lib.hid (HLF1.out c hcc)
    have HLC2 := Lib.hid (HLF2.out c hcc)
    rw [hcc]
    clear hc hcc
    have hbx4 := HBX3.out.al (.cells #[.int .i64 c, .int .i64 0] 24)
    have hva4 := HVA3.out.al (.cells #[.int .i64 c, .int .i64 0] 24)
    have hvb4 := HVB3.out.al (.cells #[.int .i64 c, .int .i64 0] 24)
    have hBW4 := bal HBW3.out (.cells #[.int .i64 c, .int .i64 0] 24)
    have hD4 := HD3.out.keep (al1 (o := .cells #[.int .i64 c, .int .i64 0] 24))
    have hz4 : (w3.alloc (.cells #[.int .i64 c, .int .i64 0] 24)).heap.size = w3.heap.size + 1 := by simp only [World.size_alloc]
    have hRl3 := HBX3.out.lt
    have H4BX := Lib.hid hbx4
    have H4VA := Lib.hid hva4
    have H4VB := Lib.hid hvb4
    have H4BW := Lib.hid hBW4
    have H4D := Lib.hid hD4
    clear hbx4 hva4 hvb4 hBW4 hD4
    cases ha : argB c
    · have HA := Lib.hid ha
      have HLC := Lib.hid (HLC1.out ha)
      clear ha
      go_wp2_with fail
      refine (I_hasArg c _).mono ?_
      rintro e w' ⟨rfl, rfl⟩
      rw [HA.out]
      go_wp2_with (at_builtin; refine wpList_append_ops rfl _ _ rfl _ _ D [((c : Int), 0)] w.heap.size w.heap.size rfl rfl (H4D.out.keep al1) (Ops.lit1 (B := w3.heap.size + 1) (by simp only [World.size_alloc]) (by omega) c 0) (by simp only [List.length_cons, List.length_nil]; omega) (by simp only [World.size_alloc]; omega) ?_; intro v9 w9 hown9 hgrow9 hbel9 hfrom9)
      have hbx9 := (H4BX.out.al _).app (H4D.out.keep al1) hgrow9
      have hva9 := (H4VA.out.al _).app (H4D.out.keep al1) hgrow9
      have hvb9 := (H4VB.out.al _).app (H4D.out.keep al1) hgrow9
      have hBW9 := (bal H4BW.out _).trans hbel9
      obtain ⟨A9, C9, hv9⟩ := hown9.form
      simp only [List.length_append, List.length_cons, List.length_nil, hDl, Nat.zero_add] at hv9
      subst hv9
      have HBX9 := Lib.hid hbx9
      have HVA9 := Lib.hid hva9
      have HVB9 := Lib.hid hvb9
      have HBW9 := Lib.hid hBW9
      have HOWN9 := Lib.hid hown9
      clear hbx9 hva9 hvb9 hBW9 hown9 hgrow9 hbel9 hfrom9
      refine (I_endLine r HBX9.out HVB9.out).mono ?_
      rintro e w' ⟨rfl, rfl⟩
      cases r with
      | nil =>
        have HNX := Lib.hid (HGOOD.out ((c : Int), 0) (by rw [HLC.out]; simp))
        rw [show endE [] = .returned (.tuple #[]) from rfl]
        go_wp2
        go_roundw
        case rel => exact ⟨k + 1, _, a2, _, by omega, HOWN9.out, HNX.out, HBX9.out, HVA9.out, HBW9.out⟩
        case measure => simp only [sliceLen]; omega
      | cons y3 r3 =>
        have HOUT := Lib.hid (fun w' => show OpsOut s w.heap.size badX w' from .inl ⟨HBAD.out (by rw [HLC.out, if_neg (by simp)]), rfl⟩)
        rw [show endE (y3 :: r3) = badX from rfl]
        go_wp2
        exact ⟨rfl, HOUT.out _, HBW9.out⟩
    · have HA := Lib.hid ha
      have HLC := Lib.hid (HLC2.out ha)
      clear ha
      go_wp2_with fail
      refine (I_hasArg c _).mono ?_
      rintro e w' ⟨rfl, rfl⟩
      rw [HA.out]
      cases r with
      | nil =>
        have HOUT := Lib.hid (fun w' => show OpsOut s w.heap.size badX w' from .inl ⟨HBAD.out (by rw [HLC.out, if_neg (by simp)]), rfl⟩)
        go_wp2_with fail
        refine (I_number0 H4BX.out H4VB.out).mono ?_
        rintro e w' ⟨rfl, rfl⟩
        go_wp2
        exact ⟨rfl, HOUT.out _, H4BW.out⟩
      | cons y r2 =>
        have hpy := HPW.out 1
        simp only [List.getD_cons_succ, List.getD_cons_zero] at hpy
        have hlc := HLC.out
        simp only [List.getD_cons_succ, List.getD_cons_zero] at hlc
        have HLCy := Lib.hid hlc
        have HPY := Lib.hid hpy
        clear hpy hlc
        go_wp2_with fail
        refine (I_number y r2 H4BX.out H4VB.out HPY.out).mono ?_
        rintro e w5 ⟨rfl, b5, hbx5, hvb5, hg5⟩
        by_cases hn : numF y = -1
        · have HOUT := Lib.hid (fun w' => show OpsOut s w.heap.size badX w' from .inl ⟨HBAD.out (by rw [HLCy.out, if_neg (by simp [hn])]), rfl⟩)
          have HBW5 := Lib.hid (below_meth H4BW.out hg5 (by omega) hR)
          rw [show numE y = badX by unfold numE; rw [if_pos hn]]
          clear hn hbx5 hvb5 hg5
          go_wp2
          exact ⟨rfl, HOUT.out _, HBW5.out⟩
        have hva5 := H4VA.out.kept hg5 (.inl rfl)
        have hD5 := H4D.out.meth H4BX.out hg5
        have hBW5 := below_meth H4BW.out hg5 (by omega) hR
        have hz5 := hg5.size
        have hrow5 := (Ops.lit1 (w := w3) (lo := w.heap.size) (B := w3.heap.size) rfl (by omega) c 0).meth H4BX.out hg5
        have hneR : some w3.heap.size ≠ some R := by intro h; injection h; omega
        have q0 : w5.cell? ⟨w3.heap.size, 0, none⟩ = some (.int .i64 c) := hg5.cell (by simp [go_sem]) hneR
        have q1 : w5.cell? ⟨w3.heap.size, 1, none⟩ = some (.int .i64 0) := hg5.cell (by simp [go_sem]) hneR
        have u0 : w5.frozen? ⟨w3.heap.size, 0, none⟩ = false := (hg5.frozen_far ⟨w3.heap.size, 0, none⟩ (by simp) hneR).trans (by simp [go_sem])
        have u1 : w5.frozen? ⟨w3.heap.size, 1, none⟩ = false := (hg5.frozen_far ⟨w3.heap.size, 1, none⟩ (by simp) hneR).trans (by simp [go_sem])
        have hOld : (Value.slice oA k oC).ownBlock = none ∨ (Value.slice oA k oC).ownBlock ≠ some w3.heap.size := HD3.out.old
        obtain ⟨V, hV⟩ : ∃ V : Int, V = numF y := ⟨_, rfl⟩
        have gs := grow_set w5 w3.heap.size 1 (.int .i64 V)
        have hbx6 := hbx5.kept gs (fun h => hneR h.symm)
        have hva6 := Vw.grown (u := .slice (some ⟨w3.heap.size, 0, none⟩) 1 1) hva5 gs (by decide) hrow5
        have hvb6 := Vw.grown (u := .slice (some ⟨w3.heap.size, 0, none⟩) 1 1) hvb5 gs (by decide) hrow5
        have hD6 : Ops (w5.setCell ⟨w3.heap.size, 1, none⟩ (.int .i64 V)) w.heap.size (.slice oA k oC) D := World.ownsRow.kept hD5 gs hOld
        have hBW6 : Below w.heap.size w (w5.setCell ⟨w3.heap.size, 1, none⟩ (.int .i64 V)) := hBW5.setCell (by show _ ≤ w3.heap.size; omega) _
        have H6BX := Lib.hid hbx6
        have H6VA := Lib.hid hva6
        have H6VB := Lib.hid hvb6
        have H6BW := Lib.hid hBW6
        have H6D := Lib.hid hD6
        have HLC6 := Lib.hid (show lineF Y = if (x :: y :: r2).length = 2 then some ((c : Int), V) else none by rw [HLCy.out, hV]; simp [hn])
        rw [show numE y = .returned (.int .i64 V) by unfold numE; rw [if_neg hn, hV]]
        simp only [World.size_alloc] at hz5
        clear hn hV hbx5 hvb5 hg5 hva5 hD5 hBW5 hrow5 hOld gs hbx6 hva6 hvb6 hD6 hBW6
        go_wp2_with (at_builtin; refine wpList_append_ops rfl _ _ rfl _ _ D [((c : Int), V)] w.heap.size w.heap.size rfl rfl (H6D.out.keep al1) (Ops.lit1 (B := w5.heap.size) (by simp only [World.size_setCell]) (by omega) c V) (by simp only [List.length_cons, List.length_nil]; omega) (by simp only [World.size_alloc, World.size_setCell]; omega) ?_; intro v9 w9 hown9 hgrow9 hbel9 hfrom9)
        have hbx9 := (H6BX.out.al _).app (H6D.out.keep al1) hgrow9
        have hva9 := (H6VA.out.al _).app (H6D.out.keep al1) hgrow9
        have hvb9 := (H6VB.out.al _).app (H6D.out.keep al1) hgrow9
        have hBW9 := (bal H6BW.out _).trans hbel9
        obtain ⟨A9, C9, hv9⟩ := hown9.form
        simp only [List.length_append, List.length_cons, List.length_nil, hDl, Nat.zero_add] at hv9
        subst hv9
        have HBX9 := Lib.hid hbx9
        have HVA9 := Lib.hid hva9
        have HVB9 := Lib.hid hvb9
        have HBW9 := Lib.hid hBW9
        have HOWN9 := Lib.hid hown9
        clear hbx9 hva9 hvb9 hBW9 hown9 hgrow9 hbel9 hfrom9
        refine (I_endLine r2 HBX9.out HVB9.out).mono ?_
        rintro e w' ⟨rfl, rfl⟩
        cases r2 with
        | nil =>
          have HNX := Lib.hid (HGOOD.out ((c : Int), V) (by rw [HLC6.out]; simp))
          rw [show endE [] = .returned (.tuple #[]) from rfl]
          go_wp2
          go_roundw
          case rel => exact ⟨k + 1, _, a2, _, by omega, HOWN9.out, HNX.out, HBX9.out, HVA9.out, HBW9.out⟩
          case measure => simp only [sliceLen]; omega
        | cons y3 r3 =>
          have HOUT := Lib.hid (fun w' => show OpsOut s w.heap.size badX w' from .inl ⟨HBAD.out (by rw [HLC6.out, if_neg (by simp)]), rfl⟩)
          rw [show endE (y3 :: r3) = badX from rfl]
          go_wp2
          exact ⟨rfl, HOUT.out _, HBW9.out⟩
end Go.Proofs.YtpajkejdfalkiaaDoor
