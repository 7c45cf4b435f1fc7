/-
  Walks: the program's readSet. Condition: the block reads as data, its names are names.
-/
import Derived.Test.YtiemhadpepbcjaaImpl5
namespace Go.Proofs.Ytiemhadpepbcjaa
open Go.RowKit
set_option linter.unusedVariables false

/-- A method called on an interface value, whatever its name. -/
theorem upon_method {P : Program} {o : Oper} {a : Act} {K : Act → World → Prop} {Q : Exit → Act → World → Prop} {F : Nat} {T : TypeId} {v : Value} {nm : String} {w : World} (fn : FuncId) (v' : Value) (hm : (method F T v nm).run P w = .ok (fn, v') w)
    (h : Oper.upon P o a K Q (Sem.run P (callFunc fn #[v']) w)) : Oper.upon P o a K Q (((method F T v nm).run P w).andThen fun a w' => Sem.run P (callFunc a.fst #[a.snd]) w') := by
  rw [hm]
  exact h

theorem M_numForm (a : Int) (w : World) :
    Calls Try.prog 135 #[.agg #[.int .i64 a]] w fun e w' => ∃ v, e = .returned v ∧ Ints w' w.heap.size v ([]) ∧ Below w.heap.size w w' := by
  go_enter Try.func135, Try.ntmps135
  go_wp2
  go_ret
  exact ⟨_, rfl, Ints.nil _ _, al1⟩

theorem M_copyForm (a : Int) (w : World) :
    Calls Try.prog 136 #[.agg #[.int .i64 a]] w fun e w' => ∃ v, e = .returned v ∧ Ints w' w.heap.size v ([a]) ∧ Below w.heap.size w w' := by
  go_enter Try.func136, Try.ntmps136
  go_wp2
  go_ret
  exact ⟨_, rfl, Ints.lit1 _ _ _, al2⟩

theorem M_addForm (a b : Int) (w : World) :
    Calls Try.prog 137 #[.agg #[.int .i64 a, .int .i64 b]] w fun e w' => ∃ v, e = .returned v ∧ Ints w' w.heap.size v ([a, b]) ∧ Below w.heap.size w w' := by
  go_enter Try.func137, Try.ntmps137
  go_wp2
  go_ret
  exact ⟨_, rfl, Ints.lit2 _ _ _ _, al2⟩

theorem M_makeForm (a b : Int) (w : World) :
    Calls Try.prog 134 #[.agg #[.int .i64 a, .int .i64 b]] w fun e w' => ∃ v, e = .returned v ∧ Ints w' w.heap.size v ([]) ∧ Below w.heap.size w w' := by
  go_enter Try.func134, Try.ntmps134
  go_wp2
  go_ret
  exact ⟨_, rfl, Ints.nil _ _, al1⟩

theorem M_callForm (a b : Int) (w : World) :
    Calls Try.prog 138 #[.agg #[.int .i64 a, .int .i64 b]] w fun e w' => ∃ v, e = .returned v ∧ Ints w' w.heap.size v (if b = -1 then [a] else [a, b]) ∧ Below w.heap.size w w' := by
  by_cases h : b = -1
  · have hb : (b == -1) = true := by simp [h]
    rw [if_pos h]
    clear h
    go_enter Try.func138, Try.ntmps138
    go_wp2
    go_ret
    exact ⟨_, rfl, Ints.lit1 _ _ _, al2⟩
  · have hb : (b == -1) = false := by simp [h]
    rw [if_neg h]
    clear h
    go_enter Try.func138, Try.ntmps138
    go_wp2
    go_ret
    exact ⟨_, rfl, Ints.lit2 _ _ _ _, al2⟩

theorem M_getForm (a b : Int) (w : World) :
    Calls Try.prog 139 #[.agg #[.int .i64 a, .int .i64 b]] w fun e w' => ∃ v, e = .returned v ∧ Ints w' w.heap.size v ([a]) ∧ Below w.heap.size w w' := by
  go_enter Try.func139, Try.ntmps139
  go_wp2
  go_ret
  exact ⟨_, rfl, Ints.lit1 _ _ _, al2⟩

theorem M_printForm (a : Int) (w : World) :
    Calls Try.prog 140 #[.agg #[.int .i64 a]] w fun e w' => ∃ v, e = .returned v ∧ Ints w' w.heap.size v ([a]) ∧ Below w.heap.size w w' := by
  go_enter Try.func140, Try.ntmps140
  go_wp2
  go_ret
  exact ⟨_, rfl, Ints.lit1 _ _ _, al2⟩

theorem M_returnForm (a : Int) (w : World) :
    Calls Try.prog 141 #[.agg #[.int .i64 a]] w fun e w' => ∃ v, e = .returned v ∧ Ints w' w.heap.size v ([a]) ∧ Below w.heap.size w w' := by
  go_enter Try.func141, Try.ntmps141
  go_wp2
  go_ret
  exact ⟨_, rfl, Ints.lit1 _ _ _, al2⟩

theorem M_declareForm (w : World) :
    Calls Try.prog 142 #[.agg #[]] w fun e w' => ∃ v, e = .returned v ∧ Ints w' w.heap.size v ([]) ∧ Below w.heap.size w w' := by
  go_enter Try.func142, Try.ntmps142
  go_wp2
  go_ret
  exact ⟨_, rfl, Ints.nil _ _, al1⟩

theorem M_dropForm (w : World) :
    Calls Try.prog 143 #[.agg #[]] w fun e w' => ∃ v, e = .returned v ∧ Ints w' w.heap.size v ([]) ∧ Below w.heap.size w w' := by
  go_enter Try.func143, Try.ntmps143
  go_wp2
  go_ret
  exact ⟨_, rfl, Ints.nil _ _, al1⟩

set_option maxRecDepth 100000 in
set_option maxHeartbeats 4000000 in
theorem I_readSet (k : Bk) (A2 A3 : Option Addr) (n2 C2 C3 lo : Nat) (w : World) (hs : Stmts w lo (.slice A3 k.body.length C3) k.body) (hk : ∀ j, j < k.body.length → 0 ≤ (k.body.getD j default).kind ∧ (k.body.getD j default).kind ≤ 11) (hr : ∀ j, j < k.body.length → ∀ x ∈ (k.body.getD j default).reads, 0 ≤ x ∧ x ≤ 7) :
    Calls Try.prog 72 #[.agg #[.int .i64 k.kind, .int .i64 k.parent, .slice A2 n2 C2, .slice A3 k.body.length C3]] w fun e w' => e = .returned (setV k.readB) ∧ Below w.heap.size w w' := by
  have hR : ∀ x, k.readB x = hasF (readsTo k.body k.body.length) x := fun x => by
    rw [Bool.eq_iff_iff, hasF_iff]
    unfold readsTo Bk.readB
    rw [List.take_length, List.mem_flatMap, List.any_eq_true]
    simp
  generalize k.readB = R at *
  obtain ⟨K, Pa, ps, l⟩ := k
  simp only at hs hk hr hR ⊢
  have HR := Lib.hid hR
  have HS := Lib.hid hs
  have HK := Lib.hid hk
  have HRD := Lib.hid hr
  clear hR hs hk hr
  go_enter Try.func72, Try.ntmps72
  go_wp2
  obtain ⟨W2, hW2⟩ : ∃ W2 : World, W2 = ((w.alloc (.cells #[.int .i64 K, .int .i64 Pa, .slice A2 n2 C2, .slice A3 l.length C3] 56)).alloc (.cells #[.bool false, .bool false, .bool false, .bool false, .bool false, .bool false, .bool false, .bool false] 77)) := ⟨_, rfl⟩
  have hz2 : W2.heap.size = w.heap.size + 1 + 1 := by rw [hW2]; simp
  have hb2 : Below w.heap.size w W2 := by rw [hW2]; exact al2
  have hres : SetAt W2 (w.heap.size + 1) (fun _ => false) := by rw [hW2]; have := SetAt.zero (w.alloc (.cells #[.int .i64 K, .int .i64 Pa, .slice A2 n2 C2, .slice A3 l.length C3] 56)); rwa [World.size_alloc] at this
  rw [← hW2]
  have HRES := Lib.hid hres
  have HB2 := Lib.hid hb2
  have HZ2 := Lib.hid hz2
  clear hW2 hres hz2 hb2
  go_loopw [11] (fun i wr => ∃ j : Nat, j ≤ l.length ∧ i = .int .i64 j ∧ SetAt wr (w.heap.size + 1 + 1) (hasF (readsTo l j)) ∧ Below (w.heap.size + 1 + 1) W2 wr ∧ w.heap.size + 1 + 1 < wr.heap.size) (fun i _ => l.length - (intOf i).toNat)
  case atStart => exact ⟨0, Nat.zero_le _, rfl, by have := SetAt.zero W2; rw [HZ2.out] at this; exact this.congr (fun y _ _ => by simp [hasF, readsTo]), by have := al1 (w := W2) (o := .cells #[.bool false, .bool false, .bool false, .bool false, .bool false, .bool false, .bool false, .bool false] 77); rwa [HZ2.out] at this, by rw [World.size_alloc, HZ2.out]; omega⟩
  case round =>
    obtain ⟨j, hj, rfl, hset, hB, hz⟩ := hrel
    have hBw : Below w.heap.size w wr := HB2.out.trans (hB.mono (by omega))
    obtain ⟨A4, C4, r, e4, hn4, hC4, hA4, hr4, hcell4, _⟩ := (HS.out.keep hBw).rd
    obtain ⟨rfl, rfl⟩ : A3 = A4 ∧ C3 = C4 := by simpa using e4
    unfold maxLen at hC4
    have HSET := Lib.hid hset
    clear e4 hset
    by_cases hlt : j < l.length
    · obtain ⟨d0, d1, d2, d3⟩ := hcell4 j hlt
      obtain rfl := hA4 (by omega)
      have hr := (hr4 (by omega)).2
      have hsu := readsTo_succ l j hlt
      have hkk := HK.out j hlt
      have hrd := HRD.out j hlt
      clear hA4 hr4 hcell4
      generalize hx : l.getD j default = x at *
      have HSU := Lib.hid hsu
      have HRX := Lib.hid hrd
      clear hsu hx hrd
      go_wp2_with fail
      refine (I_formOf x _).mono ?_
      rintro e w4 ⟨rfl, hb4⟩
      have hset4 := (HSET.out.alloc _).keep hb4
      have hB4 := (hB.alloc (by omega) _).trans (hb4.mono (by simp; omega))
      have hz4 := hb4.size
      simp only [World.size_alloc] at hz4
      have HS4 := Lib.hid hset4
      clear hb4 hset4 d0 d1 d2 d3
      rcases formV_cases x with h | h | h | h | h | h | h | h | h | h | h | h

      · obtain ⟨hkx, hf⟩ := h
        rw [hf]
        have HKX := Lib.hid hkx
        clear hkx hf
        go_wp2_with fail
        refine upon_method 135 (.agg #[.int .i64 x.a]) (by kernel_rfl) ?_
        go_wp2_with fail
        refine (M_numForm x.a _).mono ?_
        rintro e w5 ⟨v5, rfl, hi5, hb5⟩
        rw [show ([]) = x.reads from by have := HKX.out; unfold St.reads; simp [this]] at hi5
        have HI := Lib.hid hi5
        obtain ⟨A6, C6, g6, rfl, hn6, hC6, hA6, hg6, hcell6, _⟩ := hi5.rd
        unfold maxLen at hC6
        have hset5 := HS4.out.keep hb5
        have hB5 := hB4.trans (hb5.mono (by omega))
        have hz5 := hb5.size
        generalize hrr : x.reads = rs at *
        have HRR := Lib.hid hrr
        clear hi5 hb5 hg6 hcell6 hA6 hrr
        go_wp2
        go_loopw [19] (fun i wi => ∃ m : Nat, m ≤ rs.length ∧ i = .int .i64 m ∧ SetAt wi (w.heap.size + 1 + 1) (fun y => hasF (readsTo l j) y || parTo rs m y) ∧ Below (w.heap.size + 1 + 1) W2 wi ∧ w5.heap.size ≤ wi.heap.size ∧ Ints wi w4.heap.size (.slice A6 rs.length C6) rs) (fun i _ => rs.length - (intOf i).toNat)
        case atStart => exact ⟨0, Nat.zero_le _, rfl, hset5.congr (fun y _ _ => by simp [parTo]), hB5, Nat.le_refl _, HI.out⟩
        case round =>
          rename_i wo
          clear hset5 hB5
          obtain ⟨m, hm, rfl, hset, hB, hzi, hints⟩ := hrel
          have HIN := Lib.hid hints
          have HSE := Lib.hid hset
          by_cases hml : m < rs.length
          · obtain ⟨A7, C7, g7, e7, hn7, hC7, hA7, hg7, hcell7, _⟩ := hints.rd
            obtain ⟨rfl, rfl⟩ : A6 = A7 ∧ C6 = C7 := by simpa using e7
            obtain rfl := hA7 (by omega)
            have d0 := hcell7 m hml
            have hg := (hg7 (by omega)).2
            have hsu := parTo_succ rs m hml
            have ht : 0 ≤ rs.getD m 0 ∧ rs.getD m 0 ≤ 7 := HRX.out _ (by simp [List.getD, hml])
            obtain ⟨t0, t1⟩ := ht
            clear e7 hA7 hg7 hcell7 hints hn7 hC7
            generalize hx : rs.getD m 0 = y at *
            have HSU2 := Lib.hid hsu
            clear hsu hx
            have hcell := hset.cell (i := y.toNat) (by omega)
            have hfz := hset.frozen y.toNat
            have t2 : y < 8 := by omega
            clear hset
            go_wp2
            go_roundw
            case rel => exact ⟨m + 1, by omega, by go_num, HSE.out.add y t0 (fun z _ _ => by rw [HSU2.out z, Bool.or_assoc]), hB.setCell (p := ⟨w.heap.size + 1 + 1, _, none⟩) (Nat.le_refl _) _, by simp; omega, HIN.out.set (by show w.heap.size + 1 + 1 < _; omega) _⟩
            case measure => simp [intOf]; omega
          · obtain rfl : m = rs.length := by omega
            clear hset hints
            go_wp2
            go_roundw
            case rel => exact ⟨j + 1, by omega, by go_num, HSE.out.congr (fun z _ _ => by rw [HSU.out, Bool.eq_iff_iff, hasF_iff, List.mem_append, Bool.or_eq_true, hasF_iff]; unfold parTo; rw [List.take_length, List.contains_iff_mem]), hB, by omega⟩
            case measure => simp [intOf]; omega
      · obtain ⟨hkx, hf⟩ := h
        rw [hf]
        have HKX := Lib.hid hkx
        clear hkx hf
        go_wp2_with fail
        refine upon_method 136 (.agg #[.int .i64 x.a]) (by kernel_rfl) ?_
        go_wp2_with fail
        refine (M_copyForm x.a _).mono ?_
        rintro e w5 ⟨v5, rfl, hi5, hb5⟩
        rw [show ([x.a]) = x.reads from by have := HKX.out; unfold St.reads; simp [this]] at hi5
        have HI := Lib.hid hi5
        obtain ⟨A6, C6, g6, rfl, hn6, hC6, hA6, hg6, hcell6, _⟩ := hi5.rd
        unfold maxLen at hC6
        have hset5 := HS4.out.keep hb5
        have hB5 := hB4.trans (hb5.mono (by omega))
        have hz5 := hb5.size
        generalize hrr : x.reads = rs at *
        have HRR := Lib.hid hrr
        clear hi5 hb5 hg6 hcell6 hA6 hrr
        go_wp2
        go_loopw [19] (fun i wi => ∃ m : Nat, m ≤ rs.length ∧ i = .int .i64 m ∧ SetAt wi (w.heap.size + 1 + 1) (fun y => hasF (readsTo l j) y || parTo rs m y) ∧ Below (w.heap.size + 1 + 1) W2 wi ∧ w5.heap.size ≤ wi.heap.size ∧ Ints wi w4.heap.size (.slice A6 rs.length C6) rs) (fun i _ => rs.length - (intOf i).toNat)
        case atStart => exact ⟨0, Nat.zero_le _, rfl, hset5.congr (fun y _ _ => by simp [parTo]), hB5, Nat.le_refl _, HI.out⟩
        case round =>
          rename_i wo
          clear hset5 hB5
          obtain ⟨m, hm, rfl, hset, hB, hzi, hints⟩ := hrel
          have HIN := Lib.hid hints
          have HSE := Lib.hid hset
          by_cases hml : m < rs.length
          · obtain ⟨A7, C7, g7, e7, hn7, hC7, hA7, hg7, hcell7, _⟩ := hints.rd
            obtain ⟨rfl, rfl⟩ : A6 = A7 ∧ C6 = C7 := by simpa using e7
            obtain rfl := hA7 (by omega)
            have d0 := hcell7 m hml
            have hg := (hg7 (by omega)).2
            have hsu := parTo_succ rs m hml
            have ht : 0 ≤ rs.getD m 0 ∧ rs.getD m 0 ≤ 7 := HRX.out _ (by simp [List.getD, hml])
            obtain ⟨t0, t1⟩ := ht
            clear e7 hA7 hg7 hcell7 hints hn7 hC7
            generalize hx : rs.getD m 0 = y at *
            have HSU2 := Lib.hid hsu
            clear hsu hx
            have hcell := hset.cell (i := y.toNat) (by omega)
            have hfz := hset.frozen y.toNat
            have t2 : y < 8 := by omega
            clear hset
            go_wp2
            go_roundw
            case rel => exact ⟨m + 1, by omega, by go_num, HSE.out.add y t0 (fun z _ _ => by rw [HSU2.out z, Bool.or_assoc]), hB.setCell (p := ⟨w.heap.size + 1 + 1, _, none⟩) (Nat.le_refl _) _, by simp; omega, HIN.out.set (by show w.heap.size + 1 + 1 < _; omega) _⟩
            case measure => simp [intOf]; omega
          · obtain rfl : m = rs.length := by omega
            clear hset hints
            go_wp2
            go_roundw
            case rel => exact ⟨j + 1, by omega, by go_num, HSE.out.congr (fun z _ _ => by rw [HSU.out, Bool.eq_iff_iff, hasF_iff, List.mem_append, Bool.or_eq_true, hasF_iff]; unfold parTo; rw [List.take_length, List.contains_iff_mem]), hB, by omega⟩
            case measure => simp [intOf]; omega
      · obtain ⟨hkx, hf⟩ := h
        rw [hf]
        have HKX := Lib.hid hkx
        clear hkx hf
        go_wp2_with fail
        refine upon_method 137 (.agg #[.int .i64 x.a, .int .i64 x.b]) (by kernel_rfl) ?_
        go_wp2_with fail
        refine (M_addForm x.a x.b _).mono ?_
        rintro e w5 ⟨v5, rfl, hi5, hb5⟩
        rw [show ([x.a, x.b]) = x.reads from by have := HKX.out; unfold St.reads; simp [this]] at hi5
        have HI := Lib.hid hi5
        obtain ⟨A6, C6, g6, rfl, hn6, hC6, hA6, hg6, hcell6, _⟩ := hi5.rd
        unfold maxLen at hC6
        have hset5 := HS4.out.keep hb5
        have hB5 := hB4.trans (hb5.mono (by omega))
        have hz5 := hb5.size
        generalize hrr : x.reads = rs at *
        have HRR := Lib.hid hrr
        clear hi5 hb5 hg6 hcell6 hA6 hrr
        go_wp2
        go_loopw [19] (fun i wi => ∃ m : Nat, m ≤ rs.length ∧ i = .int .i64 m ∧ SetAt wi (w.heap.size + 1 + 1) (fun y => hasF (readsTo l j) y || parTo rs m y) ∧ Below (w.heap.size + 1 + 1) W2 wi ∧ w5.heap.size ≤ wi.heap.size ∧ Ints wi w4.heap.size (.slice A6 rs.length C6) rs) (fun i _ => rs.length - (intOf i).toNat)
        case atStart => exact ⟨0, Nat.zero_le _, rfl, hset5.congr (fun y _ _ => by simp [parTo]), hB5, Nat.le_refl _, HI.out⟩
        case round =>
          rename_i wo
          clear hset5 hB5
          obtain ⟨m, hm, rfl, hset, hB, hzi, hints⟩ := hrel
          have HIN := Lib.hid hints
          have HSE := Lib.hid hset
          by_cases hml : m < rs.length
          · obtain ⟨A7, C7, g7, e7, hn7, hC7, hA7, hg7, hcell7, _⟩ := hints.rd
            obtain ⟨rfl, rfl⟩ : A6 = A7 ∧ C6 = C7 := by simpa using e7
            obtain rfl := hA7 (by omega)
            have d0 := hcell7 m hml
            have hg := (hg7 (by omega)).2
            have hsu := parTo_succ rs m hml
            have ht : 0 ≤ rs.getD m 0 ∧ rs.getD m 0 ≤ 7 := HRX.out _ (by simp [List.getD, hml])
            obtain ⟨t0, t1⟩ := ht
            clear e7 hA7 hg7 hcell7 hints hn7 hC7
            generalize hx : rs.getD m 0 = y at *
            have HSU2 := Lib.hid hsu
            clear hsu hx
            have hcell := hset.cell (i := y.toNat) (by omega)
            have hfz := hset.frozen y.toNat
            have t2 : y < 8 := by omega
            clear hset
            go_wp2
            go_roundw
            case rel => exact ⟨m + 1, by omega, by go_num, HSE.out.add y t0 (fun z _ _ => by rw [HSU2.out z, Bool.or_assoc]), hB.setCell (p := ⟨w.heap.size + 1 + 1, _, none⟩) (Nat.le_refl _) _, by simp; omega, HIN.out.set (by show w.heap.size + 1 + 1 < _; omega) _⟩
            case measure => simp [intOf]; omega
          · obtain rfl : m = rs.length := by omega
            clear hset hints
            go_wp2
            go_roundw
            case rel => exact ⟨j + 1, by omega, by go_num, HSE.out.congr (fun z _ _ => by rw [HSU.out, Bool.eq_iff_iff, hasF_iff, List.mem_append, Bool.or_eq_true, hasF_iff]; unfold parTo; rw [List.take_length, List.contains_iff_mem]), hB, by omega⟩
            case measure => simp [intOf]; omega
      · obtain ⟨hkx, hf⟩ := h
        rw [hf]
        have HKX := Lib.hid hkx
        clear hkx hf
        go_wp2_with fail
        refine upon_method 134 (.agg #[.int .i64 1, .int .i64 x.a]) (by kernel_rfl) ?_
        go_wp2_with fail
        refine (M_makeForm 1 x.a _).mono ?_
        rintro e w5 ⟨v5, rfl, hi5, hb5⟩
        rw [show ([]) = x.reads from by have := HKX.out; unfold St.reads; simp [this]] at hi5
        have HI := Lib.hid hi5
        obtain ⟨A6, C6, g6, rfl, hn6, hC6, hA6, hg6, hcell6, _⟩ := hi5.rd
        unfold maxLen at hC6
        have hset5 := HS4.out.keep hb5
        have hB5 := hB4.trans (hb5.mono (by omega))
        have hz5 := hb5.size
        generalize hrr : x.reads = rs at *
        have HRR := Lib.hid hrr
        clear hi5 hb5 hg6 hcell6 hA6 hrr
        go_wp2
        go_loopw [19] (fun i wi => ∃ m : Nat, m ≤ rs.length ∧ i = .int .i64 m ∧ SetAt wi (w.heap.size + 1 + 1) (fun y => hasF (readsTo l j) y || parTo rs m y) ∧ Below (w.heap.size + 1 + 1) W2 wi ∧ w5.heap.size ≤ wi.heap.size ∧ Ints wi w4.heap.size (.slice A6 rs.length C6) rs) (fun i _ => rs.length - (intOf i).toNat)
        case atStart => exact ⟨0, Nat.zero_le _, rfl, hset5.congr (fun y _ _ => by simp [parTo]), hB5, Nat.le_refl _, HI.out⟩
        case round =>
          rename_i wo
          clear hset5 hB5
          obtain ⟨m, hm, rfl, hset, hB, hzi, hints⟩ := hrel
          have HIN := Lib.hid hints
          have HSE := Lib.hid hset
          by_cases hml : m < rs.length
          · obtain ⟨A7, C7, g7, e7, hn7, hC7, hA7, hg7, hcell7, _⟩ := hints.rd
            obtain ⟨rfl, rfl⟩ : A6 = A7 ∧ C6 = C7 := by simpa using e7
            obtain rfl := hA7 (by omega)
            have d0 := hcell7 m hml
            have hg := (hg7 (by omega)).2
            have hsu := parTo_succ rs m hml
            have ht : 0 ≤ rs.getD m 0 ∧ rs.getD m 0 ≤ 7 := HRX.out _ (by simp [List.getD, hml])
            obtain ⟨t0, t1⟩ := ht
            clear e7 hA7 hg7 hcell7 hints hn7 hC7
            generalize hx : rs.getD m 0 = y at *
            have HSU2 := Lib.hid hsu
            clear hsu hx
            have hcell := hset.cell (i := y.toNat) (by omega)
            have hfz := hset.frozen y.toNat
            have t2 : y < 8 := by omega
            clear hset
            go_wp2
            go_roundw
            case rel => exact ⟨m + 1, by omega, by go_num, HSE.out.add y t0 (fun z _ _ => by rw [HSU2.out z, Bool.or_assoc]), hB.setCell (p := ⟨w.heap.size + 1 + 1, _, none⟩) (Nat.le_refl _) _, by simp; omega, HIN.out.set (by show w.heap.size + 1 + 1 < _; omega) _⟩
            case measure => simp [intOf]; omega
          · obtain rfl : m = rs.length := by omega
            clear hset hints
            go_wp2
            go_roundw
            case rel => exact ⟨j + 1, by omega, by go_num, HSE.out.congr (fun z _ _ => by rw [HSU.out, Bool.eq_iff_iff, hasF_iff, List.mem_append, Bool.or_eq_true, hasF_iff]; unfold parTo; rw [List.take_length, List.contains_iff_mem]), hB, by omega⟩
            case measure => simp [intOf]; omega
      · obtain ⟨hkx, hf⟩ := h
        rw [hf]
        have HKX := Lib.hid hkx
        clear hkx hf
        go_wp2_with fail
        refine upon_method 134 (.agg #[.int .i64 2, .int .i64 x.a]) (by kernel_rfl) ?_
        go_wp2_with fail
        refine (M_makeForm 2 x.a _).mono ?_
        rintro e w5 ⟨v5, rfl, hi5, hb5⟩
        rw [show ([]) = x.reads from by have := HKX.out; unfold St.reads; simp [this]] at hi5
        have HI := Lib.hid hi5
        obtain ⟨A6, C6, g6, rfl, hn6, hC6, hA6, hg6, hcell6, _⟩ := hi5.rd
        unfold maxLen at hC6
        have hset5 := HS4.out.keep hb5
        have hB5 := hB4.trans (hb5.mono (by omega))
        have hz5 := hb5.size
        generalize hrr : x.reads = rs at *
        have HRR := Lib.hid hrr
        clear hi5 hb5 hg6 hcell6 hA6 hrr
        go_wp2
        go_loopw [19] (fun i wi => ∃ m : Nat, m ≤ rs.length ∧ i = .int .i64 m ∧ SetAt wi (w.heap.size + 1 + 1) (fun y => hasF (readsTo l j) y || parTo rs m y) ∧ Below (w.heap.size + 1 + 1) W2 wi ∧ w5.heap.size ≤ wi.heap.size ∧ Ints wi w4.heap.size (.slice A6 rs.length C6) rs) (fun i _ => rs.length - (intOf i).toNat)
        case atStart => exact ⟨0, Nat.zero_le _, rfl, hset5.congr (fun y _ _ => by simp [parTo]), hB5, Nat.le_refl _, HI.out⟩
        case round =>
          rename_i wo
          clear hset5 hB5
          obtain ⟨m, hm, rfl, hset, hB, hzi, hints⟩ := hrel
          have HIN := Lib.hid hints
          have HSE := Lib.hid hset
          by_cases hml : m < rs.length
          · obtain ⟨A7, C7, g7, e7, hn7, hC7, hA7, hg7, hcell7, _⟩ := hints.rd
            obtain ⟨rfl, rfl⟩ : A6 = A7 ∧ C6 = C7 := by simpa using e7
            obtain rfl := hA7 (by omega)
            have d0 := hcell7 m hml
            have hg := (hg7 (by omega)).2
            have hsu := parTo_succ rs m hml
            have ht : 0 ≤ rs.getD m 0 ∧ rs.getD m 0 ≤ 7 := HRX.out _ (by simp [List.getD, hml])
            obtain ⟨t0, t1⟩ := ht
            clear e7 hA7 hg7 hcell7 hints hn7 hC7
            generalize hx : rs.getD m 0 = y at *
            have HSU2 := Lib.hid hsu
            clear hsu hx
            have hcell := hset.cell (i := y.toNat) (by omega)
            have hfz := hset.frozen y.toNat
            have t2 : y < 8 := by omega
            clear hset
            go_wp2
            go_roundw
            case rel => exact ⟨m + 1, by omega, by go_num, HSE.out.add y t0 (fun z _ _ => by rw [HSU2.out z, Bool.or_assoc]), hB.setCell (p := ⟨w.heap.size + 1 + 1, _, none⟩) (Nat.le_refl _) _, by simp; omega, HIN.out.set (by show w.heap.size + 1 + 1 < _; omega) _⟩
            case measure => simp [intOf]; omega
          · obtain rfl : m = rs.length := by omega
            clear hset hints
            go_wp2
            go_roundw
            case rel => exact ⟨j + 1, by omega, by go_num, HSE.out.congr (fun z _ _ => by rw [HSU.out, Bool.eq_iff_iff, hasF_iff, List.mem_append, Bool.or_eq_true, hasF_iff]; unfold parTo; rw [List.take_length, List.contains_iff_mem]), hB, by omega⟩
            case measure => simp [intOf]; omega
      · obtain ⟨hkx, hf⟩ := h
        rw [hf]
        have HKX := Lib.hid hkx
        clear hkx hf
        go_wp2_with fail
        refine upon_method 138 (.agg #[.int .i64 x.a, .int .i64 x.b]) (by kernel_rfl) ?_
        go_wp2_with fail
        refine (M_callForm x.a x.b _).mono ?_
        rintro e w5 ⟨v5, rfl, hi5, hb5⟩
        rw [show (if x.b = -1 then [x.a] else [x.a, x.b]) = x.reads from by have := HKX.out; unfold St.reads; simp [this]] at hi5
        have HI := Lib.hid hi5
        obtain ⟨A6, C6, g6, rfl, hn6, hC6, hA6, hg6, hcell6, _⟩ := hi5.rd
        unfold maxLen at hC6
        have hset5 := HS4.out.keep hb5
        have hB5 := hB4.trans (hb5.mono (by omega))
        have hz5 := hb5.size
        generalize hrr : x.reads = rs at *
        have HRR := Lib.hid hrr
        clear hi5 hb5 hg6 hcell6 hA6 hrr
        go_wp2
        go_loopw [19] (fun i wi => ∃ m : Nat, m ≤ rs.length ∧ i = .int .i64 m ∧ SetAt wi (w.heap.size + 1 + 1) (fun y => hasF (readsTo l j) y || parTo rs m y) ∧ Below (w.heap.size + 1 + 1) W2 wi ∧ w5.heap.size ≤ wi.heap.size ∧ Ints wi w4.heap.size (.slice A6 rs.length C6) rs) (fun i _ => rs.length - (intOf i).toNat)
        case atStart => exact ⟨0, Nat.zero_le _, rfl, hset5.congr (fun y _ _ => by simp [parTo]), hB5, Nat.le_refl _, HI.out⟩
        case round =>
          rename_i wo
          clear hset5 hB5
          obtain ⟨m, hm, rfl, hset, hB, hzi, hints⟩ := hrel
          have HIN := Lib.hid hints
          have HSE := Lib.hid hset
          by_cases hml : m < rs.length
          · obtain ⟨A7, C7, g7, e7, hn7, hC7, hA7, hg7, hcell7, _⟩ := hints.rd
            obtain ⟨rfl, rfl⟩ : A6 = A7 ∧ C6 = C7 := by simpa using e7
            obtain rfl := hA7 (by omega)
            have d0 := hcell7 m hml
            have hg := (hg7 (by omega)).2
            have hsu := parTo_succ rs m hml
            have ht : 0 ≤ rs.getD m 0 ∧ rs.getD m 0 ≤ 7 := HRX.out _ (by simp [List.getD, hml])
            obtain ⟨t0, t1⟩ := ht
            clear e7 hA7 hg7 hcell7 hints hn7 hC7
            generalize hx : rs.getD m 0 = y at *
            have HSU2 := Lib.hid hsu
            clear hsu hx
            have hcell := hset.cell (i := y.toNat) (by omega)
            have hfz := hset.frozen y.toNat
            have t2 : y < 8 := by omega
            clear hset
            go_wp2
            go_roundw
            case rel => exact ⟨m + 1, by omega, by go_num, HSE.out.add y t0 (fun z _ _ => by rw [HSU2.out z, Bool.or_assoc]), hB.setCell (p := ⟨w.heap.size + 1 + 1, _, none⟩) (Nat.le_refl _) _, by simp; omega, HIN.out.set (by show w.heap.size + 1 + 1 < _; omega) _⟩
            case measure => simp [intOf]; omega
          · obtain rfl : m = rs.length := by omega
            clear hset hints
            go_wp2
            go_roundw
            case rel => exact ⟨j + 1, by omega, by go_num, HSE.out.congr (fun z _ _ => by rw [HSU.out, Bool.eq_iff_iff, hasF_iff, List.mem_append, Bool.or_eq_true, hasF_iff]; unfold parTo; rw [List.take_length, List.contains_iff_mem]), hB, by omega⟩
            case measure => simp [intOf]; omega
      · obtain ⟨hkx, hf⟩ := h
        rw [hf]
        have HKX := Lib.hid hkx
        clear hkx hf
        go_wp2_with fail
        refine upon_method 139 (.agg #[.int .i64 x.a, .int .i64 x.b]) (by kernel_rfl) ?_
        go_wp2_with fail
        refine (M_getForm x.a x.b _).mono ?_
        rintro e w5 ⟨v5, rfl, hi5, hb5⟩
        rw [show ([x.a]) = x.reads from by have := HKX.out; unfold St.reads; simp [this]] at hi5
        have HI := Lib.hid hi5
        obtain ⟨A6, C6, g6, rfl, hn6, hC6, hA6, hg6, hcell6, _⟩ := hi5.rd
        unfold maxLen at hC6
        have hset5 := HS4.out.keep hb5
        have hB5 := hB4.trans (hb5.mono (by omega))
        have hz5 := hb5.size
        generalize hrr : x.reads = rs at *
        have HRR := Lib.hid hrr
        clear hi5 hb5 hg6 hcell6 hA6 hrr
        go_wp2
        go_loopw [19] (fun i wi => ∃ m : Nat, m ≤ rs.length ∧ i = .int .i64 m ∧ SetAt wi (w.heap.size + 1 + 1) (fun y => hasF (readsTo l j) y || parTo rs m y) ∧ Below (w.heap.size + 1 + 1) W2 wi ∧ w5.heap.size ≤ wi.heap.size ∧ Ints wi w4.heap.size (.slice A6 rs.length C6) rs) (fun i _ => rs.length - (intOf i).toNat)
        case atStart => exact ⟨0, Nat.zero_le _, rfl, hset5.congr (fun y _ _ => by simp [parTo]), hB5, Nat.le_refl _, HI.out⟩
        case round =>
          rename_i wo
          clear hset5 hB5
          obtain ⟨m, hm, rfl, hset, hB, hzi, hints⟩ := hrel
          have HIN := Lib.hid hints
          have HSE := Lib.hid hset
          by_cases hml : m < rs.length
          · obtain ⟨A7, C7, g7, e7, hn7, hC7, hA7, hg7, hcell7, _⟩ := hints.rd
            obtain ⟨rfl, rfl⟩ : A6 = A7 ∧ C6 = C7 := by simpa using e7
            obtain rfl := hA7 (by omega)
            have d0 := hcell7 m hml
            have hg := (hg7 (by omega)).2
            have hsu := parTo_succ rs m hml
            have ht : 0 ≤ rs.getD m 0 ∧ rs.getD m 0 ≤ 7 := HRX.out _ (by simp [List.getD, hml])
            obtain ⟨t0, t1⟩ := ht
            clear e7 hA7 hg7 hcell7 hints hn7 hC7
            generalize hx : rs.getD m 0 = y at *
            have HSU2 := Lib.hid hsu
            clear hsu hx
            have hcell := hset.cell (i := y.toNat) (by omega)
            have hfz := hset.frozen y.toNat
            have t2 : y < 8 := by omega
            clear hset
            go_wp2
            go_roundw
            case rel => exact ⟨m + 1, by omega, by go_num, HSE.out.add y t0 (fun z _ _ => by rw [HSU2.out z, Bool.or_assoc]), hB.setCell (p := ⟨w.heap.size + 1 + 1, _, none⟩) (Nat.le_refl _) _, by simp; omega, HIN.out.set (by show w.heap.size + 1 + 1 < _; omega) _⟩
            case measure => simp [intOf]; omega
          · obtain rfl : m = rs.length := by omega
            clear hset hints
            go_wp2
            go_roundw
            case rel => exact ⟨j + 1, by omega, by go_num, HSE.out.congr (fun z _ _ => by rw [HSU.out, Bool.eq_iff_iff, hasF_iff, List.mem_append, Bool.or_eq_true, hasF_iff]; unfold parTo; rw [List.take_length, List.contains_iff_mem]), hB, by omega⟩
            case measure => simp [intOf]; omega
      · obtain ⟨hkx, hf⟩ := h
        rw [hf]
        have HKX := Lib.hid hkx
        clear hkx hf
        go_wp2_with fail
        refine upon_method 140 (.agg #[.int .i64 x.a]) (by kernel_rfl) ?_
        go_wp2_with fail
        refine (M_printForm x.a _).mono ?_
        rintro e w5 ⟨v5, rfl, hi5, hb5⟩
        rw [show ([x.a]) = x.reads from by have := HKX.out; unfold St.reads; simp [this]] at hi5
        have HI := Lib.hid hi5
        obtain ⟨A6, C6, g6, rfl, hn6, hC6, hA6, hg6, hcell6, _⟩ := hi5.rd
        unfold maxLen at hC6
        have hset5 := HS4.out.keep hb5
        have hB5 := hB4.trans (hb5.mono (by omega))
        have hz5 := hb5.size
        generalize hrr : x.reads = rs at *
        have HRR := Lib.hid hrr
        clear hi5 hb5 hg6 hcell6 hA6 hrr
        go_wp2
        go_loopw [19] (fun i wi => ∃ m : Nat, m ≤ rs.length ∧ i = .int .i64 m ∧ SetAt wi (w.heap.size + 1 + 1) (fun y => hasF (readsTo l j) y || parTo rs m y) ∧ Below (w.heap.size + 1 + 1) W2 wi ∧ w5.heap.size ≤ wi.heap.size ∧ Ints wi w4.heap.size (.slice A6 rs.length C6) rs) (fun i _ => rs.length - (intOf i).toNat)
        case atStart => exact ⟨0, Nat.zero_le _, rfl, hset5.congr (fun y _ _ => by simp [parTo]), hB5, Nat.le_refl _, HI.out⟩
        case round =>
          rename_i wo
          clear hset5 hB5
          obtain ⟨m, hm, rfl, hset, hB, hzi, hints⟩ := hrel
          have HIN := Lib.hid hints
          have HSE := Lib.hid hset
          by_cases hml : m < rs.length
          · obtain ⟨A7, C7, g7, e7, hn7, hC7, hA7, hg7, hcell7, _⟩ := hints.rd
            obtain ⟨rfl, rfl⟩ : A6 = A7 ∧ C6 = C7 := by simpa using e7
            obtain rfl := hA7 (by omega)
            have d0 := hcell7 m hml
            have hg := (hg7 (by omega)).2
            have hsu := parTo_succ rs m hml
            have ht : 0 ≤ rs.getD m 0 ∧ rs.getD m 0 ≤ 7 := HRX.out _ (by simp [List.getD, hml])
            obtain ⟨t0, t1⟩ := ht
            clear e7 hA7 hg7 hcell7 hints hn7 hC7
            generalize hx : rs.getD m 0 = y at *
            have HSU2 := Lib.hid hsu
            clear hsu hx
            have hcell := hset.cell (i := y.toNat) (by omega)
            have hfz := hset.frozen y.toNat
            have t2 : y < 8 := by omega
            clear hset
            go_wp2
            go_roundw
            case rel => exact ⟨m + 1, by omega, by go_num, HSE.out.add y t0 (fun z _ _ => by rw [HSU2.out z, Bool.or_assoc]), hB.setCell (p := ⟨w.heap.size + 1 + 1, _, none⟩) (Nat.le_refl _) _, by simp; omega, HIN.out.set (by show w.heap.size + 1 + 1 < _; omega) _⟩
            case measure => simp [intOf]; omega
          · obtain rfl : m = rs.length := by omega
            clear hset hints
            go_wp2
            go_roundw
            case rel => exact ⟨j + 1, by omega, by go_num, HSE.out.congr (fun z _ _ => by rw [HSU.out, Bool.eq_iff_iff, hasF_iff, List.mem_append, Bool.or_eq_true, hasF_iff]; unfold parTo; rw [List.take_length, List.contains_iff_mem]), hB, by omega⟩
            case measure => simp [intOf]; omega
      · obtain ⟨hkx, hf⟩ := h
        rw [hf]
        have HKX := Lib.hid hkx
        clear hkx hf
        go_wp2_with fail
        refine upon_method 141 (.agg #[.int .i64 x.a]) (by kernel_rfl) ?_
        go_wp2_with fail
        refine (M_returnForm x.a _).mono ?_
        rintro e w5 ⟨v5, rfl, hi5, hb5⟩
        rw [show ([x.a]) = x.reads from by have := HKX.out; unfold St.reads; simp [this]] at hi5
        have HI := Lib.hid hi5
        obtain ⟨A6, C6, g6, rfl, hn6, hC6, hA6, hg6, hcell6, _⟩ := hi5.rd
        unfold maxLen at hC6
        have hset5 := HS4.out.keep hb5
        have hB5 := hB4.trans (hb5.mono (by omega))
        have hz5 := hb5.size
        generalize hrr : x.reads = rs at *
        have HRR := Lib.hid hrr
        clear hi5 hb5 hg6 hcell6 hA6 hrr
        go_wp2
        go_loopw [19] (fun i wi => ∃ m : Nat, m ≤ rs.length ∧ i = .int .i64 m ∧ SetAt wi (w.heap.size + 1 + 1) (fun y => hasF (readsTo l j) y || parTo rs m y) ∧ Below (w.heap.size + 1 + 1) W2 wi ∧ w5.heap.size ≤ wi.heap.size ∧ Ints wi w4.heap.size (.slice A6 rs.length C6) rs) (fun i _ => rs.length - (intOf i).toNat)
        case atStart => exact ⟨0, Nat.zero_le _, rfl, hset5.congr (fun y _ _ => by simp [parTo]), hB5, Nat.le_refl _, HI.out⟩
        case round =>
          rename_i wo
          clear hset5 hB5
          obtain ⟨m, hm, rfl, hset, hB, hzi, hints⟩ := hrel
          have HIN := Lib.hid hints
          have HSE := Lib.hid hset
          by_cases hml : m < rs.length
          · obtain ⟨A7, C7, g7, e7, hn7, hC7, hA7, hg7, hcell7, _⟩ := hints.rd
            obtain ⟨rfl, rfl⟩ : A6 = A7 ∧ C6 = C7 := by simpa using e7
            obtain rfl := hA7 (by omega)
            have d0 := hcell7 m hml
            have hg := (hg7 (by omega)).2
            have hsu := parTo_succ rs m hml
            have ht : 0 ≤ rs.getD m 0 ∧ rs.getD m 0 ≤ 7 := HRX.out _ (by simp [List.getD, hml])
            obtain ⟨t0, t1⟩ := ht
            clear e7 hA7 hg7 hcell7 hints hn7 hC7
            generalize hx : rs.getD m 0 = y at *
            have HSU2 := Lib.hid hsu
            clear hsu hx
            have hcell := hset.cell (i := y.toNat) (by omega)
            have hfz := hset.frozen y.toNat
            have t2 : y < 8 := by omega
            clear hset
            go_wp2
            go_roundw
            case rel => exact ⟨m + 1, by omega, by go_num, HSE.out.add y t0 (fun z _ _ => by rw [HSU2.out z, Bool.or_assoc]), hB.setCell (p := ⟨w.heap.size + 1 + 1, _, none⟩) (Nat.le_refl _) _, by simp; omega, HIN.out.set (by show w.heap.size + 1 + 1 < _; omega) _⟩
            case measure => simp [intOf]; omega
          · obtain rfl : m = rs.length := by omega
            clear hset hints
            go_wp2
            go_roundw
            case rel => exact ⟨j + 1, by omega, by go_num, HSE.out.congr (fun z _ _ => by rw [HSU.out, Bool.eq_iff_iff, hasF_iff, List.mem_append, Bool.or_eq_true, hasF_iff]; unfold parTo; rw [List.take_length, List.contains_iff_mem]), hB, by omega⟩
            case measure => simp [intOf]; omega
      · obtain ⟨hkx, hf⟩ := h
        rw [hf]
        have HKX := Lib.hid hkx
        clear hkx hf
        go_wp2_with fail
        refine upon_method 142 (.agg #[]) (by kernel_rfl) ?_
        go_wp2_with fail
        refine (M_declareForm _).mono ?_
        rintro e w5 ⟨v5, rfl, hi5, hb5⟩
        rw [show ([]) = x.reads from by have := HKX.out; unfold St.reads; rcases this with h | h <;> simp [h]] at hi5
        have HI := Lib.hid hi5
        obtain ⟨A6, C6, g6, rfl, hn6, hC6, hA6, hg6, hcell6, _⟩ := hi5.rd
        unfold maxLen at hC6
        have hset5 := HS4.out.keep hb5
        have hB5 := hB4.trans (hb5.mono (by omega))
        have hz5 := hb5.size
        generalize hrr : x.reads = rs at *
        have HRR := Lib.hid hrr
        clear hi5 hb5 hg6 hcell6 hA6 hrr
        go_wp2
        go_loopw [19] (fun i wi => ∃ m : Nat, m ≤ rs.length ∧ i = .int .i64 m ∧ SetAt wi (w.heap.size + 1 + 1) (fun y => hasF (readsTo l j) y || parTo rs m y) ∧ Below (w.heap.size + 1 + 1) W2 wi ∧ w5.heap.size ≤ wi.heap.size ∧ Ints wi w4.heap.size (.slice A6 rs.length C6) rs) (fun i _ => rs.length - (intOf i).toNat)
        case atStart => exact ⟨0, Nat.zero_le _, rfl, hset5.congr (fun y _ _ => by simp [parTo]), hB5, Nat.le_refl _, HI.out⟩
        case round =>
          rename_i wo
          clear hset5 hB5
          obtain ⟨m, hm, rfl, hset, hB, hzi, hints⟩ := hrel
          have HIN := Lib.hid hints
          have HSE := Lib.hid hset
          by_cases hml : m < rs.length
          · obtain ⟨A7, C7, g7, e7, hn7, hC7, hA7, hg7, hcell7, _⟩ := hints.rd
            obtain ⟨rfl, rfl⟩ : A6 = A7 ∧ C6 = C7 := by simpa using e7
            obtain rfl := hA7 (by omega)
            have d0 := hcell7 m hml
            have hg := (hg7 (by omega)).2
            have hsu := parTo_succ rs m hml
            have ht : 0 ≤ rs.getD m 0 ∧ rs.getD m 0 ≤ 7 := HRX.out _ (by simp [List.getD, hml])
            obtain ⟨t0, t1⟩ := ht
            clear e7 hA7 hg7 hcell7 hints hn7 hC7
            generalize hx : rs.getD m 0 = y at *
            have HSU2 := Lib.hid hsu
            clear hsu hx
            have hcell := hset.cell (i := y.toNat) (by omega)
            have hfz := hset.frozen y.toNat
            have t2 : y < 8 := by omega
            clear hset
            go_wp2
            go_roundw
            case rel => exact ⟨m + 1, by omega, by go_num, HSE.out.add y t0 (fun z _ _ => by rw [HSU2.out z, Bool.or_assoc]), hB.setCell (p := ⟨w.heap.size + 1 + 1, _, none⟩) (Nat.le_refl _) _, by simp; omega, HIN.out.set (by show w.heap.size + 1 + 1 < _; omega) _⟩
            case measure => simp [intOf]; omega
          · obtain rfl : m = rs.length := by omega
            clear hset hints
            go_wp2
            go_roundw
            case rel => exact ⟨j + 1, by omega, by go_num, HSE.out.congr (fun z _ _ => by rw [HSU.out, Bool.eq_iff_iff, hasF_iff, List.mem_append, Bool.or_eq_true, hasF_iff]; unfold parTo; rw [List.take_length, List.contains_iff_mem]), hB, by omega⟩
            case measure => simp [intOf]; omega
      · obtain ⟨hkx, hf⟩ := h
        rw [hf]
        have HKX := Lib.hid hkx
        clear hkx hf
        go_wp2_with fail
        refine upon_method 143 (.agg #[]) (by kernel_rfl) ?_
        go_wp2_with fail
        refine (M_dropForm _).mono ?_
        rintro e w5 ⟨v5, rfl, hi5, hb5⟩
        rw [show ([]) = x.reads from by have := HKX.out; unfold St.reads; simp [this]] at hi5
        have HI := Lib.hid hi5
        obtain ⟨A6, C6, g6, rfl, hn6, hC6, hA6, hg6, hcell6, _⟩ := hi5.rd
        unfold maxLen at hC6
        have hset5 := HS4.out.keep hb5
        have hB5 := hB4.trans (hb5.mono (by omega))
        have hz5 := hb5.size
        generalize hrr : x.reads = rs at *
        have HRR := Lib.hid hrr
        clear hi5 hb5 hg6 hcell6 hA6 hrr
        go_wp2
        go_loopw [19] (fun i wi => ∃ m : Nat, m ≤ rs.length ∧ i = .int .i64 m ∧ SetAt wi (w.heap.size + 1 + 1) (fun y => hasF (readsTo l j) y || parTo rs m y) ∧ Below (w.heap.size + 1 + 1) W2 wi ∧ w5.heap.size ≤ wi.heap.size ∧ Ints wi w4.heap.size (.slice A6 rs.length C6) rs) (fun i _ => rs.length - (intOf i).toNat)
        case atStart => exact ⟨0, Nat.zero_le _, rfl, hset5.congr (fun y _ _ => by simp [parTo]), hB5, Nat.le_refl _, HI.out⟩
        case round =>
          rename_i wo
          clear hset5 hB5
          obtain ⟨m, hm, rfl, hset, hB, hzi, hints⟩ := hrel
          have HIN := Lib.hid hints
          have HSE := Lib.hid hset
          by_cases hml : m < rs.length
          · obtain ⟨A7, C7, g7, e7, hn7, hC7, hA7, hg7, hcell7, _⟩ := hints.rd
            obtain ⟨rfl, rfl⟩ : A6 = A7 ∧ C6 = C7 := by simpa using e7
            obtain rfl := hA7 (by omega)
            have d0 := hcell7 m hml
            have hg := (hg7 (by omega)).2
            have hsu := parTo_succ rs m hml
            have ht : 0 ≤ rs.getD m 0 ∧ rs.getD m 0 ≤ 7 := HRX.out _ (by simp [List.getD, hml])
            obtain ⟨t0, t1⟩ := ht
            clear e7 hA7 hg7 hcell7 hints hn7 hC7
            generalize hx : rs.getD m 0 = y at *
            have HSU2 := Lib.hid hsu
            clear hsu hx
            have hcell := hset.cell (i := y.toNat) (by omega)
            have hfz := hset.frozen y.toNat
            have t2 : y < 8 := by omega
            clear hset
            go_wp2
            go_roundw
            case rel => exact ⟨m + 1, by omega, by go_num, HSE.out.add y t0 (fun z _ _ => by rw [HSU2.out z, Bool.or_assoc]), hB.setCell (p := ⟨w.heap.size + 1 + 1, _, none⟩) (Nat.le_refl _) _, by simp; omega, HIN.out.set (by show w.heap.size + 1 + 1 < _; omega) _⟩
            case measure => simp [intOf]; omega
          · obtain rfl : m = rs.length := by omega
            clear hset hints
            go_wp2
            go_roundw
            case rel => exact ⟨j + 1, by omega, by go_num, HSE.out.congr (fun z _ _ => by rw [HSU.out, Bool.eq_iff_iff, hasF_iff, List.mem_append, Bool.or_eq_true, hasF_iff]; unfold parTo; rw [List.take_length, List.contains_iff_mem]), hB, by omega⟩
            case measure => simp [intOf]; omega
      · exfalso
        omega
    · obtain rfl : j = l.length := by omega
      have hset2 : SetAt wr (w.heap.size + 1 + 1) R := HSET.out.congr (fun y _ _ => HR.out y)
      have hres2 := HRES.out.below hB (by omega)
      obtain ⟨s0, s1, s2, s3, s4, s5, s6, s7⟩ := hset2.cells
      obtain ⟨q0, q1, q2, q3, q4, q5, q6, q7⟩ := hres2.cells
      have hfz := World.rowIs.frozen hres2
      clear hset2 hres2 hA4 hr4 hcell4 hn4
      go_wp2
      exact bodyPost_ret (v := setV R) (by simp [results, Try.f72, go_sem, q0, q1, q2, q3, q4, q5, q6, q7, setV]) rfl ⟨rfl, below_set8 hBw (by omega)⟩

end Go.Proofs.Ytiemhadpepbcjaa
