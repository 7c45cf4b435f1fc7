/-
  Walks: the program's cellSet. Condition: the scopes lie in memory as data.
-/
import Derived.Test.YtpajkejdfalkiaaDoorImpl10
import Derived.Test.YtpajkejdfalkiaaDoorSpec12
namespace Go.Proofs.YtpajkejdfalkiaaDoor
open Go.RowKit
set_option linter.unusedVariables false

theorem anyTo_succ (f : Int → Bool) (n : Nat) : anyTo f (n + 1) = (anyTo f n || f n) := rfl
theorem cellB_fun {p : Pr} {b : Int} (hk : (p.bk b).kind = 1) (x : Int) : cellB p b x = anyTo (cellBy p b x) p.length := by unfold cellB; rw [decide_eq_true hk, Bool.true_and]
theorem cellB_nofun {p : Pr} {b : Int} (hk : (p.bk b).kind ≠ 1) (x : Int) : cellB p b x = false := by unfold cellB; rw [decide_eq_false hk, Bool.false_and]

set_option maxRecDepth 100000 in
set_option maxHeartbeats 2000000 in
theorem I_cellSet (A : Nat → Nat) (p : Pr) (lo B : Nat) (b : Int) (w : World) (hrow : w.rowIs B 81 p.length (fun j => .pointer (some ⟨A j, 0, none⟩))) (hsc : Scopes w lo A p) (hs : shape p = true) (hb0 : 0 ≤ b) (hb1 : b < p.length) :
    Calls Tryd.prog 114 #[.slice (some ⟨B, 0, none⟩) p.length p.length, .int .i64 b] w fun e w' => e = .returned (setV (cellB p b)) ∧ Below w.heap.size w w' := by
  have hl := shape_len hs
  have HSH := Lib.hid hs
  have hSI := hsc.inn
  have HSI := Lib.hid hSI
  have HROW := Lib.hid hrow
  have hBl := World.rowIs.lt hrow
  have hbn : ((b.toNat : Nat) : Int) = b := Int.toNat_of_nonneg hb0
  have hrow2 := World.rowIs.of_block hrow ((al2 (o := (.cells #[.bool false, .bool false, .bool false, .bool false, .bool false, .bool false, .bool false, .bool false] 98)) (o' := (.cells #[.bool false, .bool false, .bool false, .bool false, .bool false, .bool false, .bool false, .bool false] 98))).block B hBl)
  have hsc2 := hSI.below (al2 (o := (.cells #[.bool false, .bool false, .bool false, .bool false, .bool false, .bool false, .bool false, .bool false] 98)) (o' := (.cells #[.bool false, .bool false, .bool false, .bool false, .bool false, .bool false, .bool false, .bool false] 98)))
  have cr := hrow2.cell (i := b.toNat) (by omega)
  have hk0 := (hsc2 b.toNat (by omega)).2.c1
  have hkl := World.rowIs.lt (hsc2 b.toNat (by omega)).2
  have hrl := World.rowIs.lt hrow2
  rw [hbn] at hk0
  clear hs hSI hsc hrow hrow2 hsc2 hbn
  by_cases hkd : (p.bk b).kind = 1
  · have hkb : ((p.bk b).kind != 1) = false := by simp [hkd]
    have hR := cellB_fun hkd
    generalize cellB p b = R at *
    have HR := Lib.hid hR
    generalize (p.bk b).kind = K at *
    clear hR hkd
    go_enter Tryd.func114, Tryd.ntmps114
    go_wp2
    clear cr hk0 hkl hrl
    obtain ⟨W1, hW1⟩ : ∃ W1 : World, W1 = w.alloc (.cells #[.bool false, .bool false, .bool false, .bool false, .bool false, .bool false, .bool false, .bool false] 98) := ⟨_, rfl⟩
    have hz1 : W1.heap.size = w.heap.size + 1 := by rw [hW1]; simp
    have hres : SetAt W1 w.heap.size (fun _ => false) := by rw [hW1]; exact SetAt.zero w
    have hbw1 : Below w.heap.size w W1 := by rw [hW1]; exact al1
    have hset0 : SetAt (W1.alloc (.cells #[.bool false, .bool false, .bool false, .bool false, .bool false, .bool false, .bool false, .bool false] 98)) (w.heap.size + 1) (fun _ => false) := by have := SetAt.zero W1; rwa [hz1] at this
    have hb2 : Below (w.heap.size + 1) W1 (W1.alloc (.cells #[.bool false, .bool false, .bool false, .bool false, .bool false, .bool false, .bool false, .bool false] 98)) := by have := al1 (w := W1) (o := (.cells #[.bool false, .bool false, .bool false, .bool false, .bool false, .bool false, .bool false, .bool false] 98)); rwa [hz1] at this
    have hz2 : w.heap.size + 1 + 1 ≤ (W1.alloc (.cells #[.bool false, .bool false, .bool false, .bool false, .bool false, .bool false, .bool false, .bool false] 98)).heap.size := by rw [World.size_alloc, hz1]; exact Nat.le_refl _
    rw [← hW1]
    generalize W1.alloc (.cells #[.bool false, .bool false, .bool false, .bool false, .bool false, .bool false, .bool false, .bool false] 98) = W2 at *
    have HRES := Lib.hid hres
    have HB1 := Lib.hid hbw1
    have HSET0 := Lib.hid hset0
    have HB2 := Lib.hid hb2
    clear hW1 hz1 hres hbw1 hset0 hb2
    go_loopw [20] (fun v wr => ∃ k : Nat, k ≤ p.length ∧ v = .int .i64 k ∧ SetAt wr (w.heap.size + 1) (fun y => anyTo (cellBy p b y) k) ∧ Below (w.heap.size + 1) W1 wr ∧ w.heap.size + 1 + 1 ≤ wr.heap.size) (fun v _ => p.length - (intOf v).toNat)
    case atStart => exact ⟨0, Nat.zero_le _, rfl, HSET0.out, HB2.out, hz2⟩
    case round =>
      clear hz2
      obtain ⟨k, hk, rfl, hset, hB, hz⟩ := hrel
      have HSE := Lib.hid hset
      have hBw := HB1.out.trans (hB.mono (Nat.le_succ _))
      by_cases hlt : k < p.length
      · have hrow := World.rowIs.of_block HROW.out (hBw.block B hBl)
        have cr := hrow.cell (i := k) hlt
        have hrl := World.rowIs.lt hrow
        have hsk := (HSI.out.below hBw k hlt).2
        have c0 := hsk.c0
        have hgk := World.rowIs.lt hsk
        clear hrow hsk hset
        by_cases hkb2 : (k : Int) = b
        · have hbq : ((k : Int) == b) = true := by simp [hkb2]
          have hno : ∀ y, cellBy p b y k = false := fun y => by unfold cellBy; rw [show ((k : Int) != b) = false by simp [hkb2], Bool.false_and]
          have HNO := Lib.hid hno
          clear hkb2 hno
          go_wp2
          go_roundw
          case rel => exact ⟨k + 1, by omega, by go_num, HSE.out.congr (fun y _ _ => by rw [anyTo_succ, HNO.out, Bool.or_false]), hB, hz⟩
          case measure => simp [intOf]; omega
        · have hbq : ((k : Int) == b) = false := by simp [hkb2]
          have hyes : ∀ y, cellBy p b y k = ((p.bk k).usesB y && ownerF p k y == b) := fun y => by unfold cellBy; rw [show ((k : Int) != b) = true by simp [hkb2], Bool.true_and]
          obtain ⟨f, hf⟩ : ∃ f : Int → Bool, f = fun y => cellBy p b y k := ⟨_, rfl⟩
          have hfd : ∀ y, f y = ((p.bk k).usesB y && ownerF p k y == b) := fun y => by rw [hf]; exact hyes y
          have hfe : ∀ y, cellBy p b y k = f y := fun y => by rw [hf]
          have HF := Lib.hid hfd
          have HFE := Lib.hid hfe
          clear hkb2 hyes hfd hfe hf
          go_wp2
          obtain ⟨wo, rfl⟩ : ∃ wo : World, wo = wr := ⟨_, rfl⟩
          clear cr c0 hgk hrl
          go_loopw [30] (fun v wi => ∃ m : Nat, m ≤ 8 ∧ v = .int .i64 m ∧ SetAt wi (w.heap.size + 1) (fun y => anyTo (cellBy p b y) k || cutTo f m y) ∧ Below (w.heap.size + 1) W1 wi ∧ w.heap.size + 1 + 1 ≤ wi.heap.size) (fun v _ => 8 - (intOf v).toNat)
          case atStart => exact ⟨0, Nat.zero_le _, rfl, HSE.out.congr (fun y h0 _ => by rw [cutTo_zero f y h0, Bool.or_false]), hB, hz⟩
          case round =>
            clear hB hz hBw
            obtain ⟨m, hm, rfl, hset, hB, hz⟩ := hrel
            have HSE2 := Lib.hid hset
            have hBw := HB1.out.trans (hB.mono (Nat.le_succ _))
            have HSK := Lib.hid (HSI.out.below hBw).out
            clear hset
            by_cases hml : m < 8
            · have hle : (m : Int) ≤ 7 := by omega
              have hfm := HF.out (m : Int)
              cases h1 : (p.bk k).usesB m
              · rw [h1, Bool.false_and] at hfm
                have HU := Lib.hid h1
                have HFM := Lib.hid hfm
                clear h1 hfm
                go_wp2_with (go_at_call 54; refine (I_uses A p _ k m _ HSK.out hlt (by omega) hle).mono ?_; rintro e w' ⟨rfl, rfl⟩; rw [HU.out])
                go_roundw
                case rel => exact ⟨m + 1, by omega, by go_num, HSE2.out.congr (fun y _ _ => by rw [cutTo_no f m HFM.out]), hB, hz⟩
                case measure => simp [intOf]; omega
              · rw [h1, Bool.true_and] at hfm
                have HU := Lib.hid h1
                obtain ⟨ov, hov⟩ : ∃ ov : Int, ownerF p k m = ov := ⟨_, rfl⟩
                rw [hov] at hfm
                have HOV := Lib.hid hov
                clear h1 hov
                cases h2 : ov == b
                · rw [h2] at hfm
                  have HFM := Lib.hid hfm
                  clear hfm
                  go_wp2_with (first
                    | (go_at_call 54; refine (I_uses A p _ k m _ HSK.out hlt (by omega) hle).mono ?_; rintro e w' ⟨rfl, rfl⟩; rw [HU.out])
                    | (go_at_call 113; refine (I_owner A p _ k _ m HSK.out hlt HSH.out (by omega) hle).mono ?_; rintro e w6 ⟨rfl, hb6⟩; rw [HOV.out]; have hz6 := hb6.size))
                  go_roundw
                  case rel => exact ⟨m + 1, by omega, by go_num, (HSE2.out.keep hb6).congr (fun y _ _ => by rw [cutTo_no f m HFM.out]), hB.trans (hb6.mono (by omega)), by omega⟩
                  case measure => simp [intOf]; omega
                · rw [h2] at hfm
                  have HFM := Lib.hid hfm
                  clear hfm
                  go_wp2_with (first
                    | (go_at_call 54; refine (I_uses A p _ k m _ HSK.out hlt (by omega) hle).mono ?_; rintro e w' ⟨rfl, rfl⟩; rw [HU.out])
                    | (go_at_call 113; refine (I_owner A p _ k _ m HSK.out hlt HSH.out (by omega) hle).mono ?_; rintro e w6 ⟨rfl, hb6⟩; rw [HOV.out]; have hz6 := hb6.size; have hcell := (HSE2.out.keep hb6).cell (i := m) hml; have hfz := World.rowIs.frozen (HSE2.out.keep hb6) m))
                  go_roundw
                  case rel => exact ⟨m + 1, by omega, by go_num, (by have h := (HSE2.out.keep hb6).add (m : Int) (by omega) (fun y _ _ => rfl); rw [Int.toNat_natCast] at h; exact h.congr (fun y _ _ => by rw [cutTo_add f m HFM.out, Bool.or_assoc])), (hB.trans (hb6.mono (by omega))).setCell (p := ⟨w.heap.size + 1, _, none⟩) (Nat.le_refl _) _, by simp; omega⟩
                  case measure => simp [intOf]; omega
            · obtain rfl : m = 8 := by omega
              go_wp2
              go_roundw
              case rel => exact ⟨k + 1, by omega, by go_num, HSE2.out.congr (fun y _ h1 => by rw [anyTo_succ, HFE.out, cutTo_all f y h1]), hB, hz⟩
              case measure => simp [intOf]; omega
      · obtain rfl : k = p.length := by omega
        have hset2 : SetAt wr (w.heap.size + 1) R := hset.congr (fun y _ _ => HR.out y)
        have hres2 := HRES.out.below hB (by omega)
        obtain ⟨s0, s1, s2, s3, s4, s5, s6, s7⟩ := hset2.cells
        obtain ⟨q0, q1, q2, q3, q4, q5, q6, q7⟩ := hres2.cells
        have hfz := World.rowIs.frozen hres2
        clear hset hset2 hres2
        go_wp2
        exact bodyPost_ret (v := setV R) (by simp [results, Tryd.f114, go_sem, q0, q1, q2, q3, q4, q5, q6, q7, setV]) rfl ⟨rfl, below_set8 hBw (Nat.le_refl _)⟩
  · have hkb : ((p.bk b).kind != 1) = true := by simp [hkd]
    have hR := cellB_nofun hkd
    generalize cellB p b = R at *
    have HR := Lib.hid hR
    generalize (p.bk b).kind = K at *
    clear hR hkd
    go_enter Tryd.func114, Tryd.ntmps114
    have e : R = fun _ => false := funext HR.out
    rw [e]
    unfold setV
    go_wp2
    exact bodyPost_ret (v := .agg #[.bool false, .bool false, .bool false, .bool false, .bool false, .bool false, .bool false, .bool false]) (by simp [results, Tryd.f114, go_sem]) rfl ⟨rfl, al2⟩

set_option maxRecDepth 100000 in
set_option maxHeartbeats 2000000 in
theorem I_fastsOf (A : Nat → Nat) (p : Pr) (lo B : Nat) (b : Int) (w : World) (hrow : w.rowIs B 81 p.length (fun j => .pointer (some ⟨A j, 0, none⟩))) (hsc : Scopes w lo A p) (hs : shape p = true) (hb0 : 0 ≤ b) (hb1 : b < p.length) :
    Calls Tryd.prog 91 #[.slice (some ⟨B, 0, none⟩) p.length p.length, .int .i64 b] w fun e w' => ∃ v', e = .returned v' ∧ Ints w' w.heap.size v' (fastsF p b) ∧ Below w.heap.size w w' := by
  have hl := shape_len hs
  have HSH := Lib.hid hs
  have hSI := hsc.inn
  have HSI := Lib.hid hSI
  have HROW := Lib.hid hrow
  have hBl := World.rowIs.lt hrow
  have hbn : ((b.toNat : Nat) : Int) = b := Int.toNat_of_nonneg hb0
  have cr := hrow.cell (i := b.toNat) (by omega)
  have hk0 := (hsc b.toNat (by omega)).2.c1
  have hkl := World.rowIs.lt (hsc b.toNat (by omega)).2
  rw [hbn] at hk0
  clear hs hSI hsc hrow hbn
  by_cases hkd : (p.bk b).kind = 1
  · have hkb : ((p.bk b).kind != 1) = false := by simp [hkd]
    obtain ⟨f, hf⟩ : ∃ f : Int → Bool, f = fun x => locP p b x && !cellB p b x := ⟨_, rfl⟩
    have hfd : ∀ x, f x = (locP p b x && !cellB p b x) := fun x => by rw [hf]
    have hR : fastsF p b = nms f := upto_congr fun i _ => by rw [hfd, fastB_yes HSH.out hb0 hkd]
    generalize fastsF p b = R at *
    have HR := Lib.hid hR
    have HF := Lib.hid hfd
    generalize (p.bk b).kind = K at *
    clear hR hkd hf hfd
    go_enter Tryd.func91, Tryd.ntmps91
    go_wp2_with fail
    refine (I_cellSet A p 0 B b _ (World.rowIs.alloc HROW.out _) (HSI.out.below al1).out HSH.out hb0 hb1).mono ?_
    unfold setV
    rintro e w4 ⟨rfl, hb4⟩
    have hset := (SetAt.zero w).keep hb4
    have hB4 : Below w.heap.size w w4 := bthen al1 hb4
    have hz4 := hb4.size
    simp only [World.size_alloc] at hz4
    go_wp2
    have hset5 := hset.alloc (.cells #[.bool (cellB p b 0), .bool (cellB p b 1), .bool (cellB p b 2), .bool (cellB p b 3), .bool (cellB p b 4), .bool (cellB p b 5), .bool (cellB p b 6), .bool (cellB p b 7)] 98)
    have hcs : SetAt (w4.alloc (.cells #[.bool (cellB p b 0), .bool (cellB p b 1), .bool (cellB p b 2), .bool (cellB p b 3), .bool (cellB p b 4), .bool (cellB p b 5), .bool (cellB p b 6), .bool (cellB p b 7)] 98)) w4.heap.size (cellB p b) :=
      World.rowIs_alloc w4 _ _ (fun j => .bool (cellB p b j)) (fun i hi => by
        match i, hi with
        | 0, _ => rfl
        | 1, _ => rfl
        | 2, _ => rfl
        | 3, _ => rfl
        | 4, _ => rfl
        | 5, _ => rfl
        | 6, _ => rfl
        | 7, _ => rfl)
    have hB5 := bal hB4 (.cells #[.bool (cellB p b 0), .bool (cellB p b 1), .bool (cellB p b 2), .bool (cellB p b 3), .bool (cellB p b 4), .bool (cellB p b 5), .bool (cellB p b 6), .bool (cellB p b 7)] 98)
    generalize w4.alloc (.cells #[.bool (cellB p b 0), .bool (cellB p b 1), .bool (cellB p b 2), .bool (cellB p b 3), .bool (cellB p b 4), .bool (cellB p b 5), .bool (cellB p b 6), .bool (cellB p b 7)] 98) = w5 at *
    clear cr hk0 hkl hset hb4 hB4
    go_loopw [19] (fun v wr => ∃ m : Nat, m ≤ 8 ∧ v = .int .i64 m ∧ SetAt wr w.heap.size (cutTo f m) ∧ SetAt wr w4.heap.size (cellB p b) ∧ Below w.heap.size w wr) (fun v _ => 8 - (intOf v).toNat)
    case atStart => exact ⟨0, Nat.zero_le _, rfl, hset5.congr (fun y h0 _ => cutTo_zero f y h0), hcs, hB5⟩
    case round =>
      clear hset5 hcs hB5
      obtain ⟨m, hm, rfl, hset, hcs, hB⟩ := hrel
      have HSE := Lib.hid hset
      have HCS := Lib.hid hcs
      have HSK := Lib.hid (HSI.out.below hB).out
      by_cases hml : m < 8
      · have hle : (m : Int) ≤ 7 := by omega
        have hrow := World.rowIs.of_block HROW.out (hB.block B hBl)
        have cr := hrow.cell (i := b.toNat) (by omega)
        have hrl := World.rowIs.lt hrow
        have hcell := hset.cell (i := m) hml
        have hfz := World.rowIs.frozen hset m
        have hgl := World.rowIs.lt hset
        have hcc := hcs.cell (i := m) hml
        have hgc := World.rowIs.lt hcs
        have hfm := HF.out (m : Int)
        have hne : w4.heap.size ≠ w.heap.size := by omega
        clear hset hcs hrow
        cases h1 : locP p b m
        · rw [h1, Bool.false_and] at hfm
          have HL := Lib.hid h1
          have HFM := Lib.hid hfm
          clear h1 hfm
          go_wp2_with (go_at_call 115; refine (I_isLocal A p _ b.toNat m _ HSK.out (by omega) HSH.out (by omega) hle).mono ?_; rw [Int.toNat_of_nonneg hb0]; rintro e w' ⟨rfl, rfl⟩; rw [HL.out])
          go_roundw
          case rel => exact ⟨m + 1, by omega, by go_num, HSE.out.put m _ (fun y _ => by rw [cutTo_put, HFM.out]), World.rowIs.setOther HCS.out hne _, hB.setCell (p := ⟨w.heap.size, _, none⟩) (Nat.le_refl _) _⟩
          case measure => simp [intOf]; omega
        · rw [h1, Bool.true_and] at hfm
          have HL := Lib.hid h1
          clear h1
          cases h2 : cellB p b m
          all_goals
            rw [h2] at hfm hcc
            have HFM := Lib.hid hfm
            clear hfm h2
            go_wp2_with (go_at_call 115; refine (I_isLocal A p _ b.toNat m _ HSK.out (by omega) HSH.out (by omega) hle).mono ?_; rw [Int.toNat_of_nonneg hb0]; rintro e w' ⟨rfl, rfl⟩; rw [HL.out])
            go_roundw
            case rel => exact ⟨m + 1, by omega, by go_num, HSE.out.put m _ (fun y _ => by rw [cutTo_put, HFM.out]; rfl), World.rowIs.setOther HCS.out hne _, hB.setCell (p := ⟨w.heap.size, _, none⟩) (Nat.le_refl _) _⟩
            case measure => simp [intOf]; omega
      · obtain rfl : m = 8 := by omega
        have hset2 : SetAt wr w.heap.size f := hset.congr (fun y _ h1 => (cutTo_all f y h1).symm)
        obtain ⟨s0, s1, s2, s3, s4, s5, s6, s7⟩ := hset2.cells
        clear hset hset2 hcs
        go_wp2_with (go_at_call 116; refine (I_list f _).mono ?_; rintro e w6 ⟨rv, rfl, hi6, hb6⟩)
        go_ret
        exact ⟨_, rfl, by rw [HR.out]; exact hi6.lo_ hB.size, bthen hB hb6⟩
  · have hkb : ((p.bk b).kind != 1) = true := by simp [hkd]
    have hR : fastsF p b = [] := upto_nil fun i _ => fastB_no hkd _
    generalize fastsF p b = R at *
    have HR := Lib.hid hR
    generalize (p.bk b).kind = K at *
    clear hR hkd
    go_enter Tryd.func91, Tryd.ntmps91
    go_wp2
    go_ret
    exact ⟨_, rfl, by rw [HR.out]; exact Ints.nil _ _, Below.refl _ _⟩

set_option maxRecDepth 100000 in
theorem I_symbolOf (A : Nat → Nat) (p : Pr) (lo B : Nat) (b x : Int) (w : World) (hrow : w.rowIs B 81 p.length (fun j => .pointer (some ⟨A j, 0, none⟩))) (hsc : Scopes w lo A p) (hs : shape p = true) (hb0 : 0 ≤ b) (hb1 : b < p.length) (hx0 : 0 ≤ x) (hx1 : x ≤ 7) :
    Calls Tryd.prog 89 #[.slice (some ⟨B, 0, none⟩) p.length p.length, .int .i64 b, .int .i64 x] w fun e w' => e = .returned (.int .i64 (symF p b x)) ∧ Below w.heap.size w w' := by
  have hl := shape_len hs
  have HSH := Lib.hid hs
  have hSI := hsc.inn
  have HSI := Lib.hid hSI
  have HROW := Lib.hid hrow
  have hBl := World.rowIs.lt hrow
  have hbn : ((b.toNat : Nat) : Int) = b := Int.toNat_of_nonneg hb0
  have cr := hrow.cell (i := b.toNat) (by omega)
  have hR : symF p b x = if ownerF p b x < 0 then 0 else if ownerF p b x ≠ b then 1 else if (p.bk b).kind = 2 then 2 else if cellB p b x then 3 else 4 := rfl
  have hoc := ownerF_cases p b x hb0
  generalize symF p b x = R at *
  have HBN := Lib.hid hbn
  have OW := Lib.hid (show ownerF p b x = ownerF p b x from rfl)
  obtain ⟨ov, hov⟩ : ∃ ov : Int, ownerF p b x = ov := ⟨_, rfl⟩
  rw [hov] at hR hoc
  have HOV := Lib.hid hov
  clear hs hSI hsc hrow hbn hov OW
  by_cases h1 : ov = -1
  · have ho : (ov == -1) = true := by simp [h1]
    rw [if_pos (by omega)] at hR
    have HR := Lib.hid hR
    clear hR hoc h1
    go_enter Tryd.func89, Tryd.ntmps89
    go_wp2_with (go_at_call 113; refine (I_owner A p _ b.toNat _ x HSI.out.out (by omega) HSH.out hx0 hx1).mono ?_; rw [HBN.out, HOV.out]; rintro e w1 ⟨rfl, hb1'⟩)
    go_ret
    exact ⟨ret_int HR.out.symm, hb1'⟩
  · have ho : (ov == -1) = false := by simp [h1]
    rw [if_neg (by omega)] at hR
    by_cases h2 : ov = b
    · have hne : (ov != b) = false := by simp [h2]
      rw [if_neg (by simpa using h2)] at hR
      have H2 := Lib.hid h2
      clear h2 hoc h1
      by_cases h3 : (p.bk b).kind = 2
      · have hkb : ((p.bk b).kind == 2) = true := by simp [h3]
        rw [if_pos h3] at hR
        have HR := Lib.hid hR
        clear hR h3
        go_enter Tryd.func89, Tryd.ntmps89
        go_wp2_with (go_at_call 113; refine (I_owner A p _ b.toNat _ x HSI.out.out (by omega) HSH.out hx0 hx1).mono ?_; rw [HBN.out, HOV.out]; rintro e w1 ⟨rfl, hb1'⟩; have hrow1 := World.rowIs.of_block HROW.out (hb1'.block B hBl); have cr1 := hrow1.cell (i := b.toNat) (by omega); have hrl1 := World.rowIs.lt hrow1; have hsk := (HSI.out.below hb1' b.toNat (by omega)).2; have ck1 := hsk.c1; rw [HBN.out] at ck1; have hkl1 := World.rowIs.lt hsk; have HROW1 := Lib.hid hrow1; clear hrow1 hsk)
        go_ret
        exact ⟨ret_int HR.out.symm, hb1'⟩
      · have hkb : ((p.bk b).kind == 2) = false := by simp [h3]
        rw [if_neg h3] at hR
        have hix := ix_set (cellB p b) x.toNat (by omega)
        rw [Int.toNat_of_nonneg hx0] at hix
        clear h3
        cases h4 : cellB p b x
        all_goals
          rw [h4] at hR hix
          have HR := Lib.hid hR
          clear hR h4
          go_enter Tryd.func89, Tryd.ntmps89
          go_wp2_with (first
            | (go_at_call 113; refine (I_owner A p _ b.toNat _ x HSI.out.out (by omega) HSH.out hx0 hx1).mono ?_; rw [HBN.out, HOV.out]; rintro e w1 ⟨rfl, hb1'⟩; have hrow1 := World.rowIs.of_block HROW.out (hb1'.block B hBl); have cr1 := hrow1.cell (i := b.toNat) (by omega); have hrl1 := World.rowIs.lt hrow1; have hsk := (HSI.out.below hb1' b.toNat (by omega)).2; have ck1 := hsk.c1; rw [HBN.out] at ck1; have hkl1 := World.rowIs.lt hsk; have HROW1 := Lib.hid hrow1; clear hrow1 hsk)
            | (go_at_call 114; refine (I_cellSet A p 0 B b _ HROW1.out (HSI.out.below hb1').out HSH.out hb0 hb1).mono ?_; unfold setV; rintro e w2 ⟨rfl, hb2⟩))
          go_ret
          exact ⟨ret_int (by rw [HR.out]; rfl), bthen hb1' hb2⟩
    · have hne : (ov != b) = true := by simp [h2]
      rw [if_pos h2] at hR
      have HR := Lib.hid hR
      clear hR hoc h1 h2
      go_enter Tryd.func89, Tryd.ntmps89
      go_wp2_with (go_at_call 113; refine (I_owner A p _ b.toNat _ x HSI.out.out (by omega) HSH.out hx0 hx1).mono ?_; rw [HBN.out, HOV.out]; rintro e w1 ⟨rfl, hb1'⟩)
      go_ret
      exact ⟨ret_int HR.out.symm, hb1'⟩

end Go.Proofs.YtpajkejdfalkiaaDoor
