/-
  Walks: the laws' markProgram, heldProgram at a program in memory of its own. Condition: the rows lie in memory as data, apart from each other.
-/
import Derived.Test.YtelhemhbgpfokaaCopyP
namespace Go.Proofs.Ytelhemhbgpfokaa
open Go.RowKit
set_option linter.unusedVariables false

/-! ### plain: what bears the marks -/
def seqSt (k : Int) : Nat → List St
  | 0 => []
  | n + 1 => ⟨k, k + 1, k + 1 + 1, k + 1 + 1 + 1⟩ :: seqSt (k + 1 + 1 + 1 + 1) n
theorem seqSt_len : ∀ (n : Nat) (k : Int), (seqSt k n).length = n
  | 0, _ => rfl
  | n + 1, k => by simp [seqSt, seqSt_len n]
theorem seqSt_cells : ∀ (n : Nat) (k : Int), stCells (seqSt k n) = (seqI k (n * 4)).map (Value.int .i64)
  | 0, _ => rfl
  | n + 1, k => by
    have h := seqSt_cells n (k + 1 + 1 + 1 + 1)
    rw [show (n + 1) * 4 = n * 4 + 1 + 1 + 1 + 1 by omega]
    simp only [seqSt, stCells, List.flatMap_cons, seqI, List.map_cons] at h ⊢
    rw [h]
    rfl
theorem seqSt_getD : ∀ (n : Nat) (k : Int) (j : Nat), j < n → (seqSt k n).getD j default = ⟨k + j * 4, k + j * 4 + 1, k + j * 4 + 1 + 1, k + j * 4 + 1 + 1 + 1⟩
  | 0, _, _, h => absurd h (Nat.not_lt_zero _)
  | n + 1, k, 0, _ => by simp [seqSt]
  | n + 1, k, j + 1, h => by
    rw [seqSt, List.getD_cons_succ, seqSt_getD n _ j (by omega), show k + 1 + 1 + 1 + 1 + (j : Int) * 4 = k + ((j + 1 : Nat) : Int) * 4 by omega]
def markB (k : Int) (b : Bk) : Bk := ⟨k, k + 1, seqI (k + 1 + 1) b.params.length, seqSt (k + 1 + 1 + b.params.length) b.body.length⟩
def markP (k : Int) : Pr → Pr
  | [] => []
  | b :: p => markB k b :: markP (k + b.marks) p
theorem markP_len : ∀ (p : Pr) (k : Int), (markP k p).length = p.length
  | [], _ => rfl
  | b :: p, k => by simp [markP, markP_len p]
theorem markP_getD : ∀ (p : Pr) (k : Int) (i : Nat), i < p.length → (markP k p).getD i default = markB (k + marksTo (p.take i)) (p.getD i default)
  | [], _, _, h => absurd h (Nat.not_lt_zero _)
  | b :: p, k, 0, _ => by simp [markP, marksTo]
  | b :: p, k, i + 1, h => by
    rw [markP, List.getD_cons_succ, markP_getD p _ i (by simpa using h), List.getD_cons_succ, List.take_succ_cons, marksTo]
    congr 1
    omega
def mixP (k : Int) (p : Pr) (j : Nat) : Pr := (markP k p).take j ++ p.drop j
theorem mixP_len (k : Int) (p : Pr) (j : Nat) : (mixP k p j).length = p.length := by
  unfold mixP
  rw [List.length_append, List.length_take, List.length_drop, markP_len]
  omega
theorem mixP_zero (k : Int) (p : Pr) : mixP k p 0 = p := by simp [mixP]
theorem mixP_all (k : Int) (p : Pr) : mixP k p p.length = markP k p := by
  unfold mixP
  rw [List.drop_length, List.append_nil, ← markP_len p k, List.take_length]
theorem mixP_at (k : Int) (p : Pr) (j : Nat) (h : j < p.length) : (mixP k p j).getD j default = p.getD j default := by
  unfold mixP
  have e : ((markP k p).take j).length = j := by rw [List.length_take, markP_len]; omega
  rw [List.getD, List.getElem?_append_right (by omega), e, Nat.sub_self, List.getElem?_drop, Nat.add_zero]
  rfl
theorem mixP_succ (k : Int) (p : Pr) (j : Nat) (h : j < p.length) : (mixP k p j).set j (markB (k + marksTo (p.take j)) (p.getD j default)) = mixP k p (j + 1) := by
  have hj : j < (markP k p).length := by rw [markP_len]; exact h
  have e2 : (markP k p)[j] = markB (k + marksTo (p.take j)) (p.getD j default) := by rw [← markP_getD p k j h]; simp [List.getD, hj]
  unfold mixP
  have e : ((markP k p).take j).length = j := by rw [List.length_take, markP_len]; omega
  rw [List.set_append, if_neg (by omega), e, Nat.sub_self, List.drop_eq_getElem_cons h, List.set_cons_zero, List.take_succ_eq_append_getElem hj, e2, List.append_assoc]
  rfl
theorem set4_eq (q : Pr) (j : Nat) (h : j < q.length) (a b : Int) (c : List Int) (d : List St) :
    ((((q.set j { q.getD j default with kind := a }).set j { (q.set j { q.getD j default with kind := a }).getD j default with parent := b }).set j
      { ((q.set j { q.getD j default with kind := a }).set j { (q.set j { q.getD j default with kind := a }).getD j default with parent := b }).getD j default with params := c }).set j
      { (((q.set j { q.getD j default with kind := a }).set j { (q.set j { q.getD j default with kind := a }).getD j default with parent := b }).set j
      { ((q.set j { q.getD j default with kind := a }).set j { (q.set j { q.getD j default with kind := a }).getD j default with parent := b }).getD j default with params := c }).getD j default with body := d }) = q.set j ⟨a, b, c, d⟩ := by
  have hg : ∀ x : Bk, (q.set j x).getD j default = x := fun x => getD_set_eq _ _ _ _ h
  simp only [List.set_set, hg]

/-! ### memory -/
/-- The rows of parameters lie apart. -/
def ApartP (xs : List Value) (n : Nat) : Prop := ∀ i j, i < n → j < n → i ≠ j → Apart (xs.getD (i * 4 + 2) undef) (xs.getD (j * 4 + 2) undef)
theorem ApartP.set {xs : List Value} {n : Nat} (h : ApartP xs n) (m : Nat) (hm : ∀ i, m ≠ i * 4 + 2) (u : Value) : ApartP (xs.set m u) n := fun i j hi hj hij => by
  rw [getD_set_ne _ _ _ _ _ (fun e => hm i e.symm), getD_set_ne _ _ _ _ _ (fun e => hm j e.symm)]
  exact h i j hi hj hij
theorem Raw.seqSt {w : World} {lo n : Nat} {v : Value} {k : Int} (h : Raw w lo v n (seqI k (n * 4))) : Stmts w lo v (seqSt k n) := by
  unfold Stmts
  rw [seqSt_len, seqSt_cells]
  exact h
section
variable {w w' : World} {lo k g n C : Nat} {v : Value} {xs : List Value} {p : Pr}
theorem PRowX.setKind {x : Int} (h : PRow w lo (.slice (some ⟨g, 0, none⟩) n C) xs p) (hk : k < p.length) :
    PRow (w.setCell ⟨g, k * 4, none⟩ (.int .i64 x)) lo (.slice (some ⟨g, 0, none⟩) n C) (xs.set (k * 4) (.int .i64 x)) (p.set k { p.getD k default with kind := x }) := by
  obtain ⟨_, _, _, e, _⟩ := own_rd h.own
  simp only [Value.slice.injEq] at e
  obtain ⟨_, rfl, _⟩ := e
  have hl := h.own.1
  obtain ⟨h1, h2⟩ := World.ownsRow.stored (w := w) h.own (k * 4) (.int .i64 x)
  have kI : ∀ i, i < p.length → Ints (w.setCell ⟨g, k * 4, none⟩ (.int .i64 x)) lo (xs.getD (i * 4 + 2) undef) (p.getD i default).params := fun i hi => Ints.kept (h.pars i hi) h2 (by have := own_types (h.pars i hi) h.own (by decide); simpa [Value.ownBlock] using this)
  have kS : ∀ V m, Stmts w lo V m → Stmts (w.setCell ⟨g, k * 4, none⟩ (.int .i64 x)) lo V m := fun V m hV => Stmts.kept hV h2 (by have := own_types hV h.own (by decide); simpa [Value.ownBlock] using this)
  have gs : ∀ j, j ≠ k * 4 → (xs.set (k * 4) (.int .i64 x)).getD j undef = xs.getD j undef := fun j hj => getD_set_ne _ _ _ _ _ hj
  have gk : (xs.set (k * 4) (.int .i64 x)).getD (k * 4) undef = .int .i64 x := getD_set_eq _ _ _ _ (by omega)
  have ps : ∀ i, i ≠ k → (p.set k { p.getD k default with kind := x }).getD i default = p.getD i default := fun i hi => getD_set_ne _ _ _ _ _ hi
  have pk : (p.set k { p.getD k default with kind := x }).getD k default = { p.getD k default with kind := x } := getD_set_eq _ _ _ _ hk
  refine ⟨by rw [List.length_set]; exact h1, fun i hi => ?_, fun i hi => ?_, fun i hi _ => ?_, fun i j hi hj _ _ hij => ?_⟩
  · rw [List.length_set] at hi
    by_cases e : i = k
    · subst e; rw [pk, gk, gs _ (by omega)]; exact ⟨rfl, (h.head i hi).2⟩
    · rw [ps i e, gs _ (by omega), gs _ (by omega)]; exact h.head i hi
  · rw [List.length_set] at hi
    rw [gs _ (by omega)]
    by_cases e : i = k
    · subst e; rw [pk]; exact kI i hi
    · rw [ps i e]; exact kI i hi
  · rw [List.length_set] at hi
    rw [gs _ (by omega)]
    by_cases e : i = k
    · subst e; rw [pk]; exact kS _ _ (h.full hi)
    · rw [ps i e]; exact kS _ _ (h.full hi)
  · rw [List.length_set] at hi hj
    rw [gs _ (by omega), gs _ (by omega)]
    exact h.apart i j hi hj (by omega) (by omega) hij
/-- The parameters of the block k are written over, in their place. -/
theorem PRowX.parsIn {l : List Int} (h : PRow w lo v xs p) (hap : ApartP xs p.length) (hk : k < p.length) (hg : w.grownBy w' (xs.getD (k * 4 + 2) undef).ownBlock) (hU : Ints w' lo (xs.getD (k * 4 + 2) undef) l) :
    PRow w' lo v xs (p.set k { p.getD k default with params := l }) := by
  have ps : ∀ i, i ≠ k → (p.set k { p.getD k default with params := l }).getD i default = p.getD i default := fun i hi => getD_set_ne _ _ _ _ _ hi
  have pk : (p.set k { p.getD k default with params := l }).getD k default = { p.getD k default with params := l } := getD_set_eq _ _ _ _ hk
  have kS : ∀ V m, Stmts w lo V m → Stmts w' lo V m := fun V m hV => Stmts.kept hV hg (own_types hV (h.pars k hk) (by decide))
  refine ⟨by rw [List.length_set]; exact World.ownsRow.kept h.own hg (own_types h.own (h.pars k hk) (by decide)), fun i hi => ?_, fun i hi => ?_, fun i hi _ => ?_, fun i j hi hj _ _ hij => ?_⟩
  · rw [List.length_set] at hi
    by_cases e : i = k
    · subst e; rw [pk]; exact h.head i hi
    · rw [ps i e]; exact h.head i hi
  · rw [List.length_set] at hi
    by_cases e : i = k
    · subst e; rw [pk]; exact hU
    · rw [ps i e]; exact Ints.kept (h.pars i hi) hg (hap k i hk hi (by omega)).kept
  · rw [List.length_set] at hi
    by_cases e : i = k
    · subst e; rw [pk]; exact kS _ _ (h.full hi)
    · rw [ps i e]; exact kS _ _ (h.full hi)
  · rw [List.length_set] at hi hj
    exact h.apart i j hi hj (by omega) (by omega) hij
/-- The body of the block k is written over, in its place. -/
theorem PRowX.bodyIn {l : List St} (h : PRow w lo v xs p) (hk : k < p.length) (hg : w.grownBy w' (xs.getD (k * 4 + 3) undef).ownBlock) (hU : Stmts w' lo (xs.getD (k * 4 + 3) undef) l) :
    PRow w' lo v xs (p.set k { p.getD k default with body := l }) := by
  have ps : ∀ i, i ≠ k → (p.set k { p.getD k default with body := l }).getD i default = p.getD i default := fun i hi => getD_set_ne _ _ _ _ _ hi
  have pk : (p.set k { p.getD k default with body := l }).getD k default = { p.getD k default with body := l } := getD_set_eq _ _ _ _ hk
  have h2 := PRowX.grown h hk hg
  refine ⟨by rw [List.length_set]; exact h2.own, fun i hi => ?_, fun i hi => ?_, fun i hi _ => ?_, fun i j hi hj _ _ hij => ?_⟩
  · rw [List.length_set] at hi
    by_cases e : i = k
    · subst e; rw [pk]; exact h.head i hi
    · rw [ps i e]; exact h.head i hi
  · rw [List.length_set] at hi
    by_cases e : i = k
    · subst e; rw [pk]; exact h2.pars i hi
    · rw [ps i e]; exact h2.pars i hi
  · rw [List.length_set] at hi
    by_cases e : i = k
    · subst e; rw [pk]; exact hU
    · rw [ps i e]; exact h2.body i hi e
  · rw [List.length_set] at hi hj
    exact h.apart i j hi hj (by omega) (by omega) hij
end

/-- All rows of a program lie below hi. -/
def Under (hi : Nat) (v : Value) (xs : List Value) (n : Nat) : Prop :=
  (∀ r, v.ownBlock = some r → r < hi) ∧ (∀ i, i < n → ∀ r, (xs.getD (i * 4 + 2) undef).ownBlock = some r → r < hi) ∧ (∀ i, i < n → ∀ r, (xs.getD (i * 4 + 3) undef).ownBlock = some r → r < hi)
theorem PRowX.under {w : World} {lo : Nat} {v : Value} {xs : List Value} {p : Pr} (h : PRow w lo v xs p) : Under w.heap.size v xs p.length :=
  ⟨own_block_lt h.own, fun i hi r hr => own_block_lt (h.pars i hi) r hr, fun i hi r hr => own_block_lt (PRowX.full h hi) r hr⟩

/-! ### marks -/
set_option maxRecDepth 100000 in
set_option maxHeartbeats 1000000 in
theorem markBlockS_row (v : Value) (xs0 : List Value) (p : Pr) (lo hi : Nat) (k : Int) (w : World) (hv : PRow w lo v xs0 p) (hun : Under hi v xs0 p.length) (hap : ApartP xs0 p.length) (hk : 0 ≤ k) (hk2 : k + marksTo p ≤ 1099511627776) :
    Calls Try.prog 56 #[v, .int .i64 k] w fun e w' => e = .returned (.int .i64 (k + marksTo p)) ∧ (∃ xs', PRow w' lo v xs' (markP k p)) ∧ Only lo hi w w' := by
  obtain ⟨hh3, hh1, hh2⟩ := hun
  have HH1 := Lib.hid hh1
  have HH2 := Lib.hid hh2
  clear hh1 hh2
  rcases Nat.eq_zero_or_pos p.length with h0 | h0
  · obtain rfl : p = [] := List.eq_nil_of_length_eq_zero h0
    obtain ⟨A, C, rfl⟩ := PRowX.form hv
    have HV := Lib.hid hv
    refine (markBlockS_nil A C k w).mono ?_
    rintro e w' ⟨rfl, rfl⟩
    exact ⟨ret_int (by simp [marksTo]), ⟨_, HV.out⟩, Only.refl _ _ _⟩
  · obtain ⟨g, C, rfl, hnC, hC, hlg, hgl0, _, _⟩ := PRowX.rd hv h0
    unfold maxLen at hC
    have hgh : g < hi := hh3 g rfl
    have HV := Lib.hid hv
    have HAP := Lib.hid hap
    have ha : marksTo (p.take p.length) = marksTo p := by rw [List.take_length]
    have HA := Lib.hid ha
    clear ha hv hap
    go_enter Try.func56, Try.ntmps56
    go_wp2
    go_loopw [1, 5] (fun q i wr => ∃ (j : Nat) (xs : List Value), j ≤ p.length ∧ i = .int .i64 j ∧ q = .int .i64 (k + marksTo (p.take j)) ∧ PRow wr lo (.slice (some ⟨g, 0, none⟩) p.length C) xs (mixP k p j) ∧ ApartP xs p.length ∧ (∀ i, i < p.length → ∀ r, (xs.getD (i * 4 + 2) undef).ownBlock = some r → r < hi) ∧ (∀ i, i < p.length → ∀ r, (xs.getD (i * 4 + 3) undef).ownBlock = some r → r < hi) ∧ Only lo hi w wr) (fun _ i _ => p.length - (intOf i).toNat)
    case atStart => exact ⟨0, xs0, Nat.zero_le _, rfl, by simp [marksTo], by rw [mixP_zero]; exact HV.out, HAP.out, HH1.out, HH2.out, Only.refl _ _ _⟩
    case round =>
      clear HH1 HH2
      obtain ⟨j, xs, hj, rfl, rfl, hrow, hap, hx1, hx2, hB⟩ := hrel
      have HX1 := Lib.hid hx1
      have HX2 := Lib.hid hx2
      clear hx1 hx2
      have hml : (mixP k p j).length = p.length := mixP_len k p j
      have HR := Lib.hid hrow
      have HP := Lib.hid hap
      have HML := Lib.hid hml
      clear hap
      by_cases hlt : j < p.length
      · obtain ⟨g', C', e, _, _, _, hgl, hcell, hf0⟩ := PRowX.rd hrow (by omega)
        rw [hml] at e hcell
        simp only [Value.slice.injEq, Option.some.injEq, Addr.mk.injEq, and_true, true_and] at e
        obtain ⟨rfl, rfl⟩ := e
        obtain ⟨hh0, hh1⟩ := hrow.head j (by omega)
        have hip := hrow.pars j (by omega)
        have hib := PRowX.full hrow (i := j) (by omega)
        have c0 := hcell (j * 4) (by omega)
        have c1 := hcell (j * 4 + 1) (by omega)
        have c2 := hcell (j * 4 + 2) (by omega)
        have c3 := hcell (j * 4 + 3) (by omega)
        rw [hh0] at c0
        rw [hh1] at c1
        have e2 := mixP_at k p j hlt
        have e3 := mixP_succ k p j hlt
        have E2 := Lib.hid e2
        have hs := marksTo_succ p j hlt
        have hle := marksTo_le p (j + 1)
        have hm : (p.getD j default).marks = 2 + (p.getD j default).params.length + (p.getD j default).body.length * 4 := rfl
        have h4 := set4_eq (mixP k p j) j (by omega) (k + marksTo (p.take j)) (k + marksTo (p.take j) + 1) (seqI (k + marksTo (p.take j) + 1 + 1) (p.getD j default).params.length) (seqSt (k + marksTo (p.take j) + 1 + 1 + (p.getD j default).params.length) (p.getD j default).body.length)
        have h5 : ∀ q : Pr, q = (mixP k p j).set j (markB (k + marksTo (p.take j)) (p.getD j default)) → q = mixP k p (j + 1) := fun q hq => hq.trans e3
        unfold markB at h5
        have H4 := Lib.hid h4
        have H5 := Lib.hid h5
        rw [e2] at hip hib
        rw [hs] at hle
        generalize mixP k p j = q at *
        generalize hK : p.getD j default = K at *
        obtain ⟨kd, pt, ps, bd⟩ := K
        simp only at hip hib hm H4 H5
        generalize marksTo (p.take j) = T at *
        have HS := Lib.hid hs
        have HM := Lib.hid hm
        have hmk : 2 + ps.length + bd.length * 4 ≤ (Bk.mk kd pt ps bd).marks := by rw [hm]; exact Nat.le_refl _
        generalize hMK : (Bk.mk kd pt ps bd).marks = mk at *
        have hidx : (j : Int) < (p.length : Int) := by omega
        obtain ⟨U, hU⟩ : ∃ U : Value, xs.getD (j * 4 + 2) undef = U := ⟨_, rfl⟩
        obtain ⟨V, hV⟩ : ∃ V : Value, xs.getD (j * 4 + 3) undef = V := ⟨_, rfl⟩
        rw [hU] at hip c2
        rw [hV] at hib c3
        have HU := Lib.hid hU
        have HVV := Lib.hid hV
        have HIP := Lib.hid hip
        have HIB := Lib.hid hib
        clear hh0 hh1 e2 e3 hs hm h4 h5 hK hMK hU hV hcell hrow hip hib hml
        go_wp2_with fail
        have h1 := PRowX.setKind (k := j) (x := k + (T : Int)) HR.out (by rw [HML.out]; exact hlt)
        have h2 := PRowX.setParent (k := j) (x := k + (T : Int) + 1) h1 (by rw [List.length_set, HML.out]; exact hlt)
        have hp2 := (HP.out.set (j * 4) (fun i => by omega) (.int .i64 (k + (T : Int)))).set (j * 4 + 1) (fun i => by omega) (.int .i64 (k + (T : Int) + 1))
        have gU : ((xs.set (j * 4) (.int .i64 (k + (T : Int)))).set (j * 4 + 1) (.int .i64 (k + (T : Int) + 1))).getD (j * 4 + 2) undef = U := by rw [getD_set_ne _ _ _ _ _ (by omega), getD_set_ne _ _ _ _ _ (by omega), HU.out]
        have gV : ((xs.set (j * 4) (.int .i64 (k + (T : Int)))).set (j * 4 + 1) (.int .i64 (k + (T : Int) + 1))).getD (j * 4 + 3) undef = V := by rw [getD_set_ne _ _ _ _ _ (by omega), getD_set_ne _ _ _ _ _ (by omega), HVV.out]
        have hB2 := (hB.setCell (p := ⟨g, j * 4, none⟩) hlg hgh (.int .i64 (k + (T : Int)))).setCell (p := ⟨g, j * 4 + 1, none⟩) hlg hgh (.int .i64 (k + (T : Int) + 1))
        have hi2 := h2.pars j (by rw [List.length_set, List.length_set, HML.out]; exact hlt)
        have hb2 := PRowX.full h2 (i := j) (by rw [List.length_set, List.length_set, HML.out]; exact hlt)
        have hn1 : ∀ i, i < p.length → ∀ r, (((xs.set (j * 4) (.int .i64 (k + (T : Int)))).set (j * 4 + 1) (.int .i64 (k + (T : Int) + 1))).getD (i * 4 + 2) undef).ownBlock = some r → r < hi := fun i hi' r hr => by
          rw [getD_set_ne _ _ _ _ _ (by omega), getD_set_ne _ _ _ _ _ (by omega)] at hr
          exact HX1.out i hi' r hr
        have hn2 : ∀ i, i < p.length → ∀ r, (((xs.set (j * 4) (.int .i64 (k + (T : Int)))).set (j * 4 + 1) (.int .i64 (k + (T : Int) + 1))).getD (i * 4 + 3) undef).ownBlock = some r → r < hi := fun i hi' r hr => by
          rw [getD_set_ne _ _ _ _ _ (by omega), getD_set_ne _ _ _ _ _ (by omega)] at hr
          exact HX2.out i hi' r hr
        have hxU : ∀ r, U.ownBlock = some r → r < hi := fun r hr => HX1.out j hlt r (by rw [HU.out]; exact hr)
        have hxV : ∀ r, V.ownBlock = some r → r < hi := fun r hr => HX2.out j hlt r (by rw [HVV.out]; exact hr)
        have HN1 := Lib.hid hn1
        have HN2 := Lib.hid hn2
        have HXU := Lib.hid hxU
        have HXV := Lib.hid hxV
        clear hn1 hn2 hxU hxV
        have hqg : ∀ x : Bk, (q.set j x).getD j default = x := fun x => getD_set_eq _ _ _ _ (by rw [HML.out]; exact hlt)
        rw [gU] at hi2
        rw [gV] at hb2
        simp only [List.set_set, hqg, E2.out] at hi2 hb2
        have H2 := Lib.hid h2
        have HP2 := Lib.hid hp2
        have HGU := Lib.hid gU
        have HGV := Lib.hid gV
        generalize (xs.set (j * 4) (.int .i64 (k + (T : Int)))).set (j * 4 + 1) (.int .i64 (k + (T : Int) + 1)) = xs2 at *
        clear h1 h2 hp2 gU gV hqg
        refine (markIntS_any _ ps lo _ _ hi2 (by omega) (by omega)).mono ?_
        rintro e W2 ⟨rfl, hi3, hg2, _⟩
        have h3 := PRowX.parsIn (k := j) H2.out (by rw [List.length_set, List.length_set, HML.out]; exact HP2.out) (by rw [List.length_set, List.length_set, HML.out]; exact hlt) (by rw [HGU.out]; exact hg2) (by rw [HGU.out]; exact hi3)
        have hz2 := hg2.size
        have hB3 := hB2.grown hg2 (fun r hr => ⟨own_block_ge hi2 r hr, HXU.out r hr⟩)
        have hb3 := Stmts.kept hb2 hg2 (own_types hb2 hi2 (by decide))
        obtain ⟨g9, C9, e9, _, _, _, hgl9, hcell9, _⟩ := PRowX.rd h3 (by rw [List.length_set, List.length_set, List.length_set, HML.out]; omega)
        simp only [Value.slice.injEq, Option.some.injEq, Addr.mk.injEq, and_true] at e9
        obtain ⟨rfl, hz9, rfl⟩ := e9
        clear hz9
        have d3 := hcell9 (j * 4 + 3) (by rw [List.length_set, List.length_set, List.length_set, HML.out]; omega)
        rw [HGV.out] at d3
        have H3 := Lib.hid h3
        have HB3 := Lib.hid hB3
        clear h3 hcell9 hi3 hg2 hi2 hb2 c0 c1 c2 c3 hB2 hz2 hB3
        go_wp2_with fail
        refine (markStmtS_any _ bd.length _ lo _ _ hb3.raw (by omega) (by omega)).mono ?_
        rintro e W3 ⟨rfl, hi4, hg3, _⟩
        have h6 := PRowX.bodyIn (k := j) H3.out (by rw [List.length_set, List.length_set, List.length_set, HML.out]; exact hlt) (by rw [HGV.out]; exact hg3) (by rw [HGV.out]; exact hi4.seqSt)
        have hB4 := HB3.out.grown hg3 (fun r hr => ⟨own_block_ge hb3 r hr, HXV.out r hr⟩)
        rw [H5.out _ H4.out] at h6
        have H6 := Lib.hid h6
        have HB4 := Lib.hid hB4
        clear h6 hi4 hg3 hb3 d3 hB4
        go_wp2
        go_roundw
        case rel => exact ⟨j + 1, xs2, by omega, by go_num, by rw [HS.out, HM.out]; go_num, H6.out, HP2.out, HN1.out, HN2.out, HB4.out⟩
        case measure => simp [intOf]; omega
      · obtain rfl : j = p.length := by omega
        rw [mixP_all] at hrow
        go_wp2
        go_ret
        exact ⟨ret_int (by rw [HA.out]), ⟨_, hrow⟩, hB⟩

theorem markProgram_row (sl : Value) (xs0 : List Value) (p : Pr) (lo hi : Nat) (k : Int) (w : World) (hv : PRow w lo sl xs0 p) (hun : Under hi sl xs0 p.length) (hap : ApartP xs0 p.length) (hk : 0 ≤ k) (hk2 : k + marksTo p ≤ 1099511627776) :
    Calls Try.prog 22 #[.agg #[sl], .int .i64 k] w fun e w' => e = .returned (.int .i64 (k + marksTo p)) ∧ (∃ xs', PRow w' lo sl xs' (markP k p)) ∧ Only lo hi w w' := by
  have HV := Lib.hid hv
  have HB := Lib.hid hun
  have HAP := Lib.hid hap
  obtain ⟨A, C, rfl⟩ := PRowX.form hv
  clear hv hap hun
  go_enter Try.func22, Try.ntmps22
  go_wp2_with fail
  refine (markBlockS_row _ xs0 p lo hi k _ (PRowX.keep HV.out al1) HB.out HAP.out hk hk2).mono ?_
  rintro e w' ⟨rfl, h1, h2⟩
  have H1 := Lib.hid h1
  clear h1
  go_wp2
  go_ret
  exact ⟨rfl, H1.out, ((Only.refl _ _ _).alloc _).trans h2⟩

/-! ### the look whether they stand -/
theorem heldStmtS_any (v : Value) (n lo : Nat) (k : Int) (w : World) (hv : Stmts w lo v (seqSt k n)) (hk : 0 ≤ k) (hk2 : k + n * 4 ≤ 1099511627776) :
    Calls Try.prog 106 #[v, .int .i64 k] w fun e w' => e = .returned (.int .i64 (k + n * 4)) ∧ w = w' := by
  obtain ⟨A, C, g, rfl, hn, hc, hA, hg, hcell, hf⟩ := hv.rd
  rw [seqSt_len] at hn hA hg hcell ⊢
  unfold maxLen at hc
  clear hf hv
  go_enter Try.func106, Try.ntmps106
  go_wp2
  go_loop [1, 5] (fun q i => ∃ j : Nat, j ≤ n ∧ i = .int .i64 j ∧ q = .int .i64 (k + j * 4)) (fun _ i => n - (intOf i).toNat)
  case atStart => exact ⟨0, Nat.zero_le _, rfl, by simp⟩
  case round =>
    obtain ⟨j, hj, rfl, rfl⟩ := hrel
    by_cases hlt : j < n
    · obtain rfl := hA (by omega)
      obtain ⟨c0, c1, c2, c3⟩ := hcell j hlt
      rw [seqSt_getD n k j hlt] at c0 c1 c2 c3
      simp only at c0 c1 c2 c3
      have hb0 : ((k + (j : Int) * 4) != (k + (j : Int) * 4)) = false := by simp
      have hb1 : ((k + (j : Int) * 4 + 1) != (k + (j : Int) * 4 + 1)) = false := by simp
      have hb2 : ((k + (j : Int) * 4 + 1 + 1) != (k + (j : Int) * 4 + 1 + 1)) = false := by simp
      have hb3 : ((k + (j : Int) * 4 + 1 + 1 + 1) != (k + (j : Int) * 4 + 1 + 1 + 1)) = false := by simp
      clear hA hg hcell
      go_wp2
      go_round
      case rel => exact ⟨j + 1, by omega, by go_num, by go_num⟩
      case measure => simp [intOf]; omega
    · obtain rfl : j = n := by omega
      go_wp2
      go_ret
      exact ⟨rfl, rfl⟩

set_option maxRecDepth 100000 in
set_option maxHeartbeats 1000000 in
theorem heldBlockS_row (v : Value) (xs : List Value) (p : Pr) (lo : Nat) (k : Int) (w : World) (hv : PRow w lo v xs (markP k p)) (hk : 0 ≤ k) (hk2 : k + marksTo p ≤ 1099511627776) :
    Calls Try.prog 73 #[v, .int .i64 k] w fun e w' => e = .returned (.int .i64 (k + marksTo p)) ∧ w = w' := by
  obtain ⟨A, C, g, rfl, hn, hc, hA, hg, hcell, _⟩ := own_rd hv.own
  have hml := markP_len p k
  have HV := Lib.hid hv
  have HML := Lib.hid hml
  rw [hml] at hn hA hg hcell ⊢
  unfold maxLen at hc
  have ha : marksTo (p.take p.length) = marksTo p := by rw [List.take_length]
  have HA := Lib.hid ha
  have HCELL := Lib.hid hcell
  clear hv ha hcell hml
  go_enter Try.func73, Try.ntmps73
  go_wp2
  go_loop [1, 5] (fun q i => ∃ j : Nat, j ≤ p.length ∧ i = .int .i64 j ∧ q = .int .i64 (k + marksTo (p.take j))) (fun _ i => p.length - (intOf i).toNat)
  case atStart => exact ⟨0, Nat.zero_le _, rfl, by simp [marksTo]⟩
  case round =>
    obtain ⟨j, hj, rfl, rfl⟩ := hrel
    by_cases hlt : j < p.length
    · obtain rfl := hA (by omega)
      obtain ⟨hh0, hh1⟩ := HV.out.head j (by rw [HML.out]; exact hlt)
      have hip := HV.out.pars j (by rw [HML.out]; exact hlt)
      have hib := PRowX.full HV.out (i := j) (by rw [HML.out]; exact hlt)
      have c0 := HCELL.out (j * 4) (by omega)
      have c1 := HCELL.out (j * 4 + 1) (by omega)
      have c2 := HCELL.out (j * 4 + 2) (by omega)
      have c3 := HCELL.out (j * 4 + 3) (by omega)
      rw [hh0] at c0
      rw [hh1] at c1
      have hs := marksTo_succ p j hlt
      have hle := marksTo_le p (j + 1)
      have hm : (p.getD j default).marks = 2 + (p.getD j default).params.length + (p.getD j default).body.length * 4 := rfl
      rw [markP_getD p k j hlt] at c0 c1 hip hib
      unfold markB at c0 c1 hip hib
      simp only at c0 c1 hip hib
      rw [hs] at hle
      generalize (p.getD j default).params.length = np at *
      generalize (p.getD j default).body.length = nb at *
      generalize (p.getD j default).marks = mk at *
      generalize marksTo (p.take j) = T at *
      have HS := Lib.hid hs
      have HM := Lib.hid hm
      have hmk : 2 + np + nb * 4 ≤ mk := by omega
      generalize xs.getD (j * 4 + 2) undef = U at *
      generalize xs.getD (j * 4 + 3) undef = V at *
      have hidx : (j : Int) < (p.length : Int) := by omega
      have hb0 : ((k + (T : Int)) != (k + (T : Int))) = false := by simp
      have hb1 : ((k + (T : Int) + 1) != (k + (T : Int) + 1)) = false := by simp
      have hn1 : (decide (k + (T : Int) + 1 + 1 + (np : Int) < 0)) = false := by simp; omega
      have hn2 : (decide (k + (T : Int) + 1 + 1 + (np : Int) + (nb : Int) * 4 < 0)) = false := by simp; omega
      have hg1 : ¬ (k + (T : Int) + 1 + 1 + (np : Int) < 0) := by omega
      have hg2 : ¬ (k + (T : Int) + 1 + 1 + (np : Int) + (nb : Int) * 4 < 0) := by omega
      have HIP := Lib.hid hip
      have HIB := Lib.hid hib
      clear hh0 hh1 hs hm hip hib hA hg
      go_wp2_with (first
        | (go_at_call 58; refine (heldIntS_any _ np lo _ _ HIP.out (by omega) (by omega)).mono ?_; rintro e w' ⟨rfl, rfl⟩)
        | (go_at_call 106; refine (heldStmtS_any _ nb lo _ _ HIB.out (by omega) (by omega)).mono ?_; rintro e w' ⟨rfl, rfl⟩))
      go_round
      case rel => exact ⟨j + 1, by omega, by go_num, by rw [HS.out, HM.out]; go_num⟩
      case measure => simp [intOf]; omega
    · obtain rfl : j = p.length := by omega
      go_wp2
      go_ret
      exact ⟨rfl, rfl⟩

theorem heldProgram_row (sl : Value) (xs : List Value) (p : Pr) (lo : Nat) (k : Int) (w : World) (hv : PRow w lo sl xs (markP k p)) (hk : 0 ≤ k) (hk2 : k + marksTo p ≤ 1099511627776) :
    Calls Try.prog 34 #[.agg #[sl], .int .i64 k] w fun e w' => e = .returned (.int .i64 (k + marksTo p)) ∧ Below w.heap.size w w' := by
  have HV := Lib.hid hv
  obtain ⟨A, C, rfl⟩ := PRowX.form hv
  have hn1 : (decide (k + (marksTo p : Int) < 0)) = false := by simp; omega
  have hg1 : ¬ (k + (marksTo p : Int) < 0) := by omega
  clear hv
  go_enter Try.func34, Try.ntmps34
  go_wp2_with (go_at_call 73; refine (heldBlockS_row _ xs p lo k _ (PRowX.keep HV.out al1) hk hk2).mono ?_; rintro e w' ⟨rfl, rfl⟩)
  go_ret
  exact ⟨rfl, al1⟩

end Go.Proofs.Ytelhemhbgpfokaa
