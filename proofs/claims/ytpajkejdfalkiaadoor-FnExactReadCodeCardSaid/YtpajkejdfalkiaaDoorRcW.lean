/-
  The walk of the law FnExactReadCode. Conditions: the table of words holds the words, internal/bytealg's variable holds a number.
-/
import Derived.Test.YtpajkejdfalkiaaDoorRcV
namespace Go.Proofs.YtpajkejdfalkiaaDoor.exactReadCode
open Go.RowKit
set_option linter.unusedVariables false

set_option maxRecDepth 100000 in
set_option maxHeartbeats 2000000 in
theorem walk (s : ByteArray) (m : Int) (w : World) (hT : ∀ k, k < 21 → w.cell? ⟨2, k, none⟩ = some (.string (opWd k))) (hm : w.cell? ⟨3, 0, none⟩ = some (.int .i64 m)) :
    Calls Tryd.prog 5 #[.string s] w fun e w' => e = .returned (.bool true) ∧ Below w.heap.size w w' := by
  by_cases hsz : 1048576 < s.size
  · have h1 : (s.size : Int) > 1048576 := by omega
    clear hT hm
    go_enter Tryd.func5, Tryd.ntmps5
    go_wp2
    go_ret
    exact ⟨rfl, Below.refl _ _⟩
  have h1 : ¬ ((s.size : Int) > 1048576) := by omega
  have hs : s.size ≤ 1048576 := by omega
  have hz3 := World.block_lt_of_cell? _ _ hm
  simp only at hz3
  have keepT : ∀ w', Below w.heap.size w w' → ∀ k, k < 21 → w'.cell? ⟨2, k, none⟩ = some (.string (opWd k)) := fun w' hb k hk => (hb.cell (p := ⟨2, k, none⟩) (by show 2 < _; omega)).trans (hT k hk)
  have keepM : ∀ w', Below w.heap.size w w' → w'.cell? ⟨3, 0, none⟩ = some (.int .i64 m) := fun w' hb => (hb.cell (p := ⟨3, 0, none⟩) hz3).trans hm
  have KT := Lib.hid keepT
  have KM := Lib.hid keepM
  have hlen : (rCodeL s).length ≤ 1048577 := by
    unfold rCodeL
    cases h : codeR s with
    | none => simp
    | some D =>
      have h2 := (spl_len 10 s).2
      unfold codeR at h
      split at h
      · have := linesTo_len _ h
        simp only [Option.getD_some]
        omega
      · cases h
  have HS := Lib.hid hs
  clear keepT keepM hT hm hs hsz
  obtain ⟨L, hL⟩ : ∃ L, L = rCodeL s := ⟨_, rfl⟩
  obtain ⟨B, hB⟩ : ∃ B, B = rCodeB s := ⟨_, rfl⟩
  rw [← hL] at hlen
  have HL := Lib.hid hL
  have HB := Lib.hid hB
  clear hL hB
  have hbb : (B != B) = false := by simp
  go_enter Tryd.func5, Tryd.ntmps5
  go_wp2_with fail
  refine (S_ReadCode s _ HS.out).mono ?_
  rintro e w1 ⟨v1, rfl, ho1, hb1⟩
  rw [← HL.out] at ho1
  rw [← HB.out]
  have HO1 := Lib.hid ho1
  have B1 := Lib.hid hb1
  have hz1 := hb1.size
  have HLOW := Lib.hid (show ∀ q, v1.ownBlock = some q → q < w1.heap.size from fun q hq => own_block_lt ho1 q hq)
  clear ho1 hb1
  go_wp2_with fail
  refine (I_ReadCode s m _ HS.out (KT.out _ B1.out) (KM.out _ B1.out)).mono ?_
  rintro e w2 ⟨v2, rfl, ho2, hb2⟩
  rw [← HL.out] at ho2
  rw [← HB.out]
  have B2 := Lib.hid (bthen B1.out hb2)
  have HO1 := Lib.hid (HO1.out.keep hb2)
  have HO2 := Lib.hid ho2
  have hz2 := hb2.size
  clear ho2 hb2
  go_wp2_with fail
  refine (eqOpS_same v2 v1 L w1.heap.size w.heap.size _ HO2.out HO1.out).mono ?_
  rintro e w3 ⟨rfl, hb3⟩
  have B3 := Lib.hid (bthen B2.out hb3)
  have HO1 := Lib.hid (HO1.out.keep hb3)
  have HO2 := Lib.hid (HO2.out.keep hb3)
  have hz3' := hb3.size
  clear hb3
  go_wp2_with fail
  obtain ⟨M, hM⟩ : ∃ M : Int, M = 1 + (L.length : Int) * 2 := ⟨_, rfl⟩
  have hM0 : ¬ (M < 0) := by omega
  have hMM : (M != M) = false := by simp
  have HMK := Lib.hid (fun (w : World) (hr : RawO w w1.heap.size v2 L.length (L.flatMap fun o => [o.1, o.2])) => hM ▸ markOpS_any v2 L.length _ w1.heap.size 1 w hr (by omega) (by omega))
  have HHL := Lib.hid (fun (w : World) (hr : RawO w w1.heap.size v2 L.length (seqI 1 (L.length * 2))) => hM ▸ heldOpS_any v2 L.length w1.heap.size 1 w hr (by omega) (by omega))
  clear hM
  refine (HMK.out _ HO2.out.raw).mono ?_
  rintro e w4 ⟨rfl, hr4, hg4⟩
  have hge : ∀ q, v2.ownBlock = some q → w1.heap.size ≤ q := fun q hq => own_block_ge HO2.out q hq
  have B4 := Lib.hid (show Below w.heap.size w w4 from B3.out.grown hg4 (by omega) (fun q hq => by have := hge q hq; omega))
  have HO1 := Lib.hid (show Ops w4 w.heap.size v1 L from World.ownsRow.kept HO1.out hg4 (by
    cases h1 : v1.ownBlock with
    | none => exact .inl rfl
    | some q =>
      right
      intro h2
      have a1 := HLOW.out q h1
      have a2 := hge q h2.symm
      omega))
  have HR4 := Lib.hid hr4
  clear hr4 hg4 hge
  go_wp2_with fail
  refine (HHL.out _ HR4.out).mono ?_
  rintro e w' ⟨rfl, rfl⟩
  go_wp2_with fail
  refine (I_ReadCode s m _ HS.out (KT.out _ B4.out) (KM.out _ B4.out)).mono ?_
  rintro e w5 ⟨v5, rfl, ho5, hb5⟩
  rw [← HL.out] at ho5
  rw [← HB.out]
  have B5 := Lib.hid (bthen B4.out hb5)
  have HO1 := Lib.hid (HO1.out.keep hb5)
  have HR5 := Lib.hid (HR4.out.keep hb5)
  have HO5 := Lib.hid ho5
  clear ho5 hb5
  go_wp2_with fail
  refine (eqOpS_same v5 v1 L w4.heap.size w.heap.size _ HO5.out HO1.out).mono ?_
  rintro e w6 ⟨rfl, hb6⟩
  have B6 := Lib.hid (bthen B5.out hb6)
  have HR6 := Lib.hid (HR5.out.keep hb6)
  clear hb6
  go_wp2_with fail
  refine (HHL.out _ HR6.out).mono ?_
  rintro e w' ⟨rfl, rfl⟩
  go_wp2
  go_ret
  exact ⟨rfl, B6.out⟩
end Go.Proofs.YtpajkejdfalkiaaDoor.exactReadCode
