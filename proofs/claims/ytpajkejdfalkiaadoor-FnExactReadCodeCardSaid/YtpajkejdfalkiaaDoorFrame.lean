/-
  From the row's reading of its arguments to the words of the walks: an argument of the law's own Program type reads as a program (OProg). And the row's last step, where the call has only made new memory. No condition.
-/
import Derived.Test.YtpajkejdfalkiaaDoorOld
import Derived.ProofKit
import Derived.OpenShut
import Derived.Deep.Slices
import Derived.Deep.Fields
import Derived.ChangeSame
namespace Go.Proofs.YtpajkejdfalkiaaDoor
open Go.ChangeShapes Go.WideShapes Go.ChangeAt Go.RowKit Go.Deep

theorem Tryd.cells3 : Tryd.prog.cellsOf 3 = 1 := by kernel_rfl
theorem Tryd.cells123 : Tryd.prog.cellsOf 123 = 4 := by kernel_rfl
theorem Tryd.cells67 : Tryd.prog.cellsOf 67 = 4 := by kernel_rfl
theorem Tryd.cells30 : Tryd.prog.cellsOf 30 = 1 := by kernel_rfl
theorem Tryd.cells28 : Tryd.prog.cellsOf 28 = 1 := by kernel_rfl

section
variable {H : Type} {enc : TypeId × Value → H} {w : World} {base : Nat} {spare : Nat → Bool} {held : Bool}

/-- A slice that came in, whatever its elements: its cells by a function. -/
theorem old_slice {P : Program} {t e : TypeId} {size fuel : Nat} {cs : List Value} {x : DataW H × List MemPlace} (ht : P.underlying t = some (.slice e)) (hC : P.cellsOf e = size) (hs : 0 < size)
    (h : DataW.trod enc P w base spare held fuel t cs = some x) :
    ∃ v n f, cs = [v] ∧ Old w size v n f ∧ ∀ i, i < n → ∃ m y, DataW.trod enc P w base spare held m e ((List.range size).map fun j => f (i * size + j)) = some y := by
  rcases open_slice ht h with ⟨rfl, _⟩ | ⟨a, len, cap, m, k, D, Pl, rfl, _, hl, hm, hmm, _, hi⟩
  · exact ⟨_, 0, fun _ => undef, rfl, ⟨none, 0, 0, 0, rfl, Nat.le_refl _, Nat.zero_le _, fun h => absurd h (by omega), fun j hj => absurd hj (by omega)⟩, fun i hi => absurd hi (by omega)⟩
  · have hlm : len ≤ m := by rw [hmm]; split <;> omega
    rw [hC] at hi
    have hcell : ∀ i, i < len → ∀ j, j < size → (w.cell? (a.add (i * size + j))).isSome := fun i hil j hj => by
      obtain ⟨cs', hc, _⟩ := hi i (by omega)
      obtain ⟨_, hcl, hat⟩ := World.cells?_some hc
      have h1 := hat j hj
      rw [Go.Deep.add_add] at h1
      rw [h1, List.getElem?_eq_getElem (by omega)]
      rfl
    refine ⟨_, len, fun j => (w.cell? (a.add j)).getD undef, rfl, ?_, fun i hil => ?_⟩
    · rcases Nat.eq_zero_or_pos len with h0 | h0
      · subst h0
        exact ⟨some a, cap, 0, 0, rfl, hl, hm, fun h => absurd h (by omega), fun j hj => absurd hj (by omega)⟩
      · obtain ⟨b, o, spot⟩ := a
        have h1 := hcell 0 h0 0 hs
        obtain ⟨u, hu⟩ := Option.isSome_iff_exists.1 h1
        have hspot : spot = none := by
          have := World.cell?_spot hu
          simpa [Addr.add] using this
        subst hspot
        refine ⟨some ⟨b, o, none⟩, cap, b, o, rfl, hl, hm, fun _ => ⟨rfl, ?_⟩, fun j hj => ?_⟩
        · have := World.block_lt_of_cell? _ _ hu
          rw [Go.WideShapes.add_plain] at this
          exact this
        · have h2 := hcell (j / size) (Nat.div_lt_of_lt_mul (by rw [Nat.mul_comm]; exact hj)) (j % size) (Nat.mod_lt _ hs)
          have e : j / size * size + j % size = j := by rw [Nat.mul_comm]; exact Nat.div_add_mod j size
          rw [e] at h2
          obtain ⟨u2, hu2⟩ := Option.isSome_iff_exists.1 h2
          show w.cell? ⟨b, o + j, none⟩ = some ((w.cell? ((⟨b, o, none⟩ : Addr).add j)).getD undef)
          rw [hu2, Option.getD_some, ← Go.WideShapes.add_plain]
          exact hu2
    · obtain ⟨cs', hc, ht'⟩ := hi i (by omega)
      obtain ⟨_, hcl, hat⟩ := World.cells?_some hc
      refine ⟨k, (D i, Pl i), ?_⟩
      rw [← ht']
      congr 1
      apply List.ext_getElem
      · simp [hcl]
      · intro j h1 h2
        have h3 := hat j (by omega)
        rw [Go.Deep.add_add, List.getElem?_eq_getElem h2] at h3
        simp [h3]

theorem open_oints {fuel : Nat} {cs : List Value} {x : DataW H × List MemPlace} (h : DataW.trod enc Tryd.prog w base spare held fuel 50 cs = some x) : ∃ v l, cs = [v] ∧ OInts w v l := by
  obtain ⟨v, n, f, hcs, ho, hel⟩ := old_slice Tryd.underlying50 Tryd.cells3 (by omega) h
  refine ⟨v, (List.range n).map fun i => intOf (f i), hcs, ?_⟩
  obtain ⟨A, C, b, o, h1, h2, h3, h4, h5⟩ := ho
  refine ⟨A, C, b, o, by simpa using h1, by simpa using h2, h3, by simpa using h4, fun j hj => ?_⟩
  have hj' : j < n := by simpa using hj
  obtain ⟨m, y, ht⟩ := hel j hj'
  obtain ⟨q, hq, _⟩ := DataW.trod_int Tryd.underlying3 ht
  simp only [Nat.mul_one, List.range_one, List.map_cons, List.map_nil, Nat.add_zero, List.cons.injEq, and_true] at hq
  rw [h5 j (by omega)]
  simp [List.getD, hj', hq, intOf]

/-- One field of a struct of one-cell fields. -/
theorem field_of {P : Program} {e fuel : Nat} {fs : Array Field} {cs : List Value} {x : DataW H × List MemPlace} (he : P.underlying e = some (.struct fs)) (hone : oneCellFields P fs = true)
    (h : DataW.trod enc P w base spare held fuel e cs = some x) (j : Nat) (fl : Field) (v : Value) (hj : fs[j]? = some fl) (hv : cs[j]? = some v) : ∃ m y, DataW.trod enc P w base spare held m fl.type [v] = some y := by
  obtain ⟨xs, n, _, _, hlen, hxl, hf⟩ := DataW.trod_struct he h
  obtain ⟨ho, hk⟩ := hone_of hone j fl hj
  have hjl : j < fs.size := (Array.getElem?_eq_some_iff.1 hj).1
  have h1 := hf j fl hj
  rw [ho, hk] at h1
  obtain ⟨hjc, hcv⟩ := List.getElem?_eq_some_iff.1 hv
  have h2 : (cs.drop j).take 1 = [v] := by
    rw [List.drop_eq_getElem_cons hjc, hcv]
    rfl
  rw [h2, List.getElem?_eq_getElem (by omega)] at h1
  exact ⟨n, _, h1⟩

theorem open_ostmts {fuel : Nat} {cs : List Value} {x : DataW H × List MemPlace} (h : DataW.trod enc Tryd.prog w base spare held fuel 65 cs = some x) : ∃ v l, cs = [v] ∧ OStmts w v l := by
  obtain ⟨v, n, f, hcs, ho, hel⟩ := old_slice Tryd.underlying65 Tryd.cells123 (by omega) h
  refine ⟨v, (List.range n).map fun i => ⟨intOf (f (i * 4)), intOf (f (i * 4 + 1)), intOf (f (i * 4 + 2)), intOf (f (i * 4 + 3))⟩, hcs, ?_⟩
  obtain ⟨A, C, b, o, h1, h2, h3, h4, h5⟩ := ho
  refine ⟨A, C, b, o, by simpa using h1, by simpa using h2, h3, by simpa using h4, fun j hj => ?_⟩
  have hj' : j < n * 4 := by simpa using hj
  have hi : j / 4 < n := by omega
  obtain ⟨m, y, ht⟩ := hel (j / 4) hi
  have each : ∀ c, c < 4 → ∃ q, f (j / 4 * 4 + c) = .int .i64 q := fun c hc => by
    have hv : ((List.range 4).map fun i => f (j / 4 * 4 + i))[c]? = some (f (j / 4 * 4 + c)) := by simp [hc]
    match c, hc with
    | 0, _ =>
      obtain ⟨m', y', ht'⟩ := field_of Tryd.underlying123 (by kernel_rfl) ht 0 _ _ rfl hv
      obtain ⟨q, hq, _⟩ := DataW.trod_int Tryd.underlying3 ht'
      exact ⟨q, by simpa using hq⟩
    | 1, _ =>
      obtain ⟨m', y', ht'⟩ := field_of Tryd.underlying123 (by kernel_rfl) ht 1 _ _ rfl hv
      obtain ⟨q, hq, _⟩ := DataW.trod_int Tryd.underlying3 ht'
      exact ⟨q, by simpa using hq⟩
    | 2, _ =>
      obtain ⟨m', y', ht'⟩ := field_of Tryd.underlying123 (by kernel_rfl) ht 2 _ _ rfl hv
      obtain ⟨q, hq, _⟩ := DataW.trod_int Tryd.underlying3 ht'
      exact ⟨q, by simpa using hq⟩
    | 3, _ =>
      obtain ⟨m', y', ht'⟩ := field_of Tryd.underlying123 (by kernel_rfl) ht 3 _ _ rfl hv
      obtain ⟨q, hq, _⟩ := DataW.trod_int Tryd.underlying3 ht'
      exact ⟨q, by simpa using hq⟩
  have e : j / 4 * 4 + j % 4 = j := by omega
  obtain ⟨q, hq⟩ := each (j % 4) (by omega)
  rw [e] at hq
  rw [h5 j hj', hq]
  obtain ⟨s0, s1, s2, s3⟩ := stCells_at ((List.range n).map fun i => (⟨intOf (f (i * 4)), intOf (f (i * 4 + 1)), intOf (f (i * 4 + 2)), intOf (f (i * 4 + 3))⟩ : St)) (j / 4) (by simpa using hi)
  have hg : ((List.range n).map fun i => (⟨intOf (f (i * 4)), intOf (f (i * 4 + 1)), intOf (f (i * 4 + 2)), intOf (f (i * 4 + 3))⟩ : St)).getD (j / 4) default = ⟨intOf (f (j / 4 * 4)), intOf (f (j / 4 * 4 + 1)), intOf (f (j / 4 * 4 + 2)), intOf (f (j / 4 * 4 + 3))⟩ := by
    simp [List.getD, hi]
  rw [hg] at s0 s1 s2 s3
  simp only [List.getD]
  rcases (show j % 4 = 0 ∨ j % 4 = 1 ∨ j % 4 = 2 ∨ j % 4 = 3 by omega) with r | r | r | r <;> rw [r] at e
  · rw [Nat.add_zero] at e; rw [e] at s0; rw [s0, hq]; rfl
  · rw [e] at s1; rw [s1, hq]; rfl
  · rw [e] at s2; rw [s2, hq]; rfl
  · rw [e] at s3; rw [s3, hq]; rfl

theorem open_oblks {fuel : Nat} {cs : List Value} {x : DataW H × List MemPlace} (h : DataW.trod enc Tryd.prog w base spare held fuel 28 cs = some x) : ∃ v p, cs = [v] ∧ OBlks w v p := by
  obtain ⟨v, n, f, hcs, ho, hel⟩ := old_slice Tryd.underlying28 Tryd.cells67 (by omega) h
  have each : ∀ i, i < n → ∃ k : Bk, f (i * 4) = .int .i64 k.kind ∧ f (i * 4 + 1) = .int .i64 k.parent ∧ OInts w (f (i * 4 + 2)) k.params ∧ OStmts w (f (i * 4 + 3)) k.body := fun i hi => by
    obtain ⟨m, y, ht⟩ := hel i hi
    have hv : ∀ c, c < 4 → ((List.range 4).map fun j => f (i * 4 + j))[c]? = some (f (i * 4 + c)) := fun c hc => by simp [hc]
    obtain ⟨m0, y0, ht0⟩ := field_of Tryd.underlying67 (by kernel_rfl) ht 0 _ _ rfl (hv 0 (by omega))
    obtain ⟨m1, y1, ht1⟩ := field_of Tryd.underlying67 (by kernel_rfl) ht 1 _ _ rfl (hv 1 (by omega))
    obtain ⟨m2, y2, ht2⟩ := field_of Tryd.underlying67 (by kernel_rfl) ht 2 _ _ rfl (hv 2 (by omega))
    obtain ⟨m3, y3, ht3⟩ := field_of Tryd.underlying67 (by kernel_rfl) ht 3 _ _ rfl (hv 3 (by omega))
    obtain ⟨q0, hq0, _⟩ := DataW.trod_int Tryd.underlying3 ht0
    obtain ⟨q1, hq1, _⟩ := DataW.trod_int Tryd.underlying3 ht1
    obtain ⟨v2, l2, e2, o2⟩ := open_oints ht2
    obtain ⟨v3, l3, e3, o3⟩ := open_ostmts ht3
    simp only [List.cons.injEq, and_true] at hq0 hq1 e2 e3
    exact ⟨⟨q0, q1, l2, l3⟩, hq0, hq1, by rw [e2]; exact o2, by rw [e3]; exact o3⟩
  obtain ⟨K, hK⟩ := choose_lt each
  refine ⟨v, (List.range n).map K, hcs, f, by simpa using ho, fun i hi => ?_⟩
  have hi' : i < n := by simpa using hi
  have e : ((List.range n).map K).getD i default = K i := by simp [List.getD, hi']
  rw [e]
  exact hK i hi'

set_option maxRecDepth 100000 in
theorem open_oprog {v : Value} {d : DataW H} {ps : List MemPlace} {r : Reach} {b0 : Nat} (hv : Value.okWide Tryd.prog w r b0 30 v) (h : DataW.Trod enc Tryd.prog w base spare held 30 v d ps) : ∃ p, OProg w v p := by
  obtain ⟨cs, rfl, hsz⟩ := okWide_struct Tryd.underlying30 hv
  obtain ⟨l⟩ := cs
  obtain ⟨fuel, hf⟩ := h
  have hl1 : l.length = 1 := hsz.trans Tryd.cells30
  obtain ⟨c0, rfl⟩ := List.length_eq_one_iff.1 hl1
  obtain ⟨m, y, ht⟩ := field_of Tryd.underlying30 (by kernel_rfl) (by simpa [Value.cells] using hf) 0 _ c0 rfl rfl
  obtain ⟨v', p, e, ho⟩ := open_oblks ht
  simp only [List.cons.injEq, and_true] at e
  subst e
  exact ⟨p, c0, rfl, ho⟩

/-- THE ROW's LAST STEP where the call has left all that was there: the result is a bool. -/
theorem post_of_below {P : Program} {f : Func} {s : ChangeSpec} {apart fresh handsOn again : Bool} {W W' : World} {args : Array Value} {v : Value} {ds gs : List (DataW H)} {before pa pv : List MemPlace}
    (hW : DataW.Whole enc P f.params.toList s.vars apart W args.toList ds gs before)
    (hres : ∀ (b : Nat) (sp : Nat → Bool) (hd : Bool), DataW.TrodAll enc P W' b sp hd f.resultTypes.toList (v.resultList f.resultTypes.size) (s.fn H (ds ++ gs)).results [])
    (hargs : ∀ sp : Nat → Bool, (∀ p ∈ before, sp p.block = true) → DataW.TrodAll enc P W' 0 sp true f.params.toList args.toList (s.fn H (ds ++ gs)).args pa)
    (hvars : ∀ sp : Nat → Bool, (∀ p ∈ before, sp p.block = true) → DataW.TrodVars enc P W' sp s.vars (s.fn H (ds ++ gs)).vars pv)
    (hps : before = pa ++ pv) (hb : Below W.heap.size W W')
    (hok : ∀ (j : Nat) (t : TypeId) (r : Value), f.resultTypes[j]? = some t → (v.resultList f.resultTypes.size)[j]? = some r → Value.okWide P W' .any 0 t r) :
    s.post enc P f apart fresh handsOn again W args v W' := by
  have hlt : ∀ p ∈ before, p.block < W.heap.size := fun p hp => hW.lt p hp
  have hold : ∀ p ∈ before, (fun b => decide (b < W.heap.size)) p.block = true := fun p hp => by simpa using hlt p hp
  refine ⟨ds, gs, before, [], pa, pv, hW, hres _ _ _, hargs _ hold, hvars _ hold, World.keptBut_mono (fun p hp => ⟨hp, ?_⟩) (hb.frame (· ∈ before)), fun _ => ?_⟩
  · rw [hps, List.mem_append] at hp
    exact Or.inr hp
  · obtain ⟨_, _, _, _, _, hz, hn⟩ := hW
    refine ⟨hok, _, _, ([] ++ pa) ++ pv, ⟨[] ++ pa, pv, trodAll_append (hargs _ (fun _ _ => rfl)) (hres _ _ _), hvars _ (fun _ _ => rfl), rfl, ?_, ?_⟩, ?_⟩
    · intro b off hp
      have hin : MemPlace.cell b off ∈ before := by rw [hps]; simpa using hp
      rw [hb.frozen (hlt _ hin)]
      exact hz b off hin
    · intro ha
      have := hn ha
      rw [hps] at this
      simpa using this
    · intro p hp _
      rw [hps]
      simpa using hp
end

end Go.Proofs.YtpajkejdfalkiaaDoor
