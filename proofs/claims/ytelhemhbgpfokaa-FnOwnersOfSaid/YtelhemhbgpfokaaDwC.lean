/-
  Walks: the reference's draws of a valid program and of any program. Condition: what the arguments name stands in memory.
-/
import Derived.Test.YtelhemhbgpfokaaDwB
namespace Go.Proofs.Ytelhemhbgpfokaa
open Go.RowKit
set_option linter.unusedVariables false

theorem Tame.weak {p : Pr} (h : Tame p) (hl : p.length ≤ 7) : Weak p := by
  have e : ∀ b : Int, 0 ≤ b → p.bk b = p.getD b.toNat default := fun b _ => rfl
  refine ⟨⟨h.len, hl⟩, fun b h0 h1 => ?_, fun b h0 h1 => ?_, fun b h0 h1 => ?_, ?_⟩
  · rw [e b h0]; exact (h.body _ (by omega)).2
  · rw [e b h0]; exact h.params _ (by omega)
  · have := h.par b.toNat (by omega) (by omega)
    rw [e b (by omega)]
    omega
  · exact h.par0
/-- A statement that goodProgram leaves out. -/
def badS (p : Pr) (b : Int) (s : St) : Bool :=
  (s.kind == 10 && (decide (outerF p b s.to < 0) || hasF (p.bk b).params s.to)) || (s.kind == 9 && (hasF (p.bk b).params s.to || hasF (declF p b 10) s.to))

def Tos (p : Pr) : Prop := ∀ i, i < p.length → ∀ s ∈ (p.getD i default).body, 0 ≤ s.to ∧ s.to ≤ 7
theorem Weak.setBody {p : Pr} (h : Weak p) {k : Nat} (hk : k < p.length) {l : List St} (h2 : l.length ≤ 12) : Weak (p.set k { p.getD k default with body := l }) := by
  have hl : (p.set k { p.getD k default with body := l }).length = p.length := List.length_set
  have e : ∀ b : Int, 0 ≤ b → b < p.length → (Pr.bk (p.set k { p.getD k default with body := l }) b) = if b.toNat = k then { p.getD k default with body := l } else p.bk b := fun b h0 h1 => by
    show (p.set k { p.getD k default with body := l }).getD b.toNat default = _
    by_cases q : b.toNat = k
    · rw [if_pos q, q, getD_set_eq _ _ _ _ hk]
    · rw [if_neg q, getD_set_ne _ _ _ _ _ q]; rfl
  have hkb : p.getD k default = p.bk (k : Int) := by show _ = p.getD (k : Int).toNat default; rw [Int.toNat_natCast]
  refine ⟨by rw [hl]; exact h.len, fun b h0 h1 => ?_, fun b h0 h1 => ?_, fun b h0 h1 => ?_, ?_⟩
  · rw [hl] at h1; rw [e b h0 h1]; split; exact h2; exact h.body b h0 h1
  · rw [hl] at h1; rw [e b h0 h1]; split; rw [hkb]; exact h.params k (by omega) (by omega); exact h.params b h0 h1
  · rw [hl] at h1
    rw [e b (by omega) h1]
    by_cases q : b.toNat = k
    · rw [if_pos q]
      have := h.par b h0 h1
      rw [hkb, show (k : Int) = b by omega]
      exact this
    · rw [if_neg q]; exact h.par b h0 h1
  · have hl1 := h.len
    rw [e 0 (by omega) (by omega)]
    by_cases q : (0 : Int).toNat = k
    · rw [if_pos q, hkb, show (k : Int) = 0 by omega]; exact h.par0
    · rw [if_neg q]; exact h.par0
theorem Tos.setBody {p : Pr} (h : Tos p) {k : Nat} (hk : k < p.length) {l : List St} (h5 : ∀ s ∈ l, 0 ≤ s.to ∧ s.to ≤ 7) : Tos (p.set k { p.getD k default with body := l }) := by
  intro i hi
  rw [List.length_set] at hi
  by_cases q : i = k
  · subst q; rw [getD_set_eq _ _ _ _ hk]; exact h5
  · rw [getD_set_ne _ _ _ _ _ q]; exact h i hi
theorem bareP_at (p : Pr) (i : Nat) : (bareP p).getD i default = bareB (p.getD i default) := by
  unfold bareP
  simp only [List.getD, List.getElem?_map]
  cases p[i]? <;> rfl
theorem Weak.bare {p : Pr} (h : Weak p) : Weak (bareP p) := by
  have hl : (bareP p).length = p.length := by unfold bareP; rw [List.length_map]
  have e : ∀ b : Int, (bareP p).bk b = bareB (p.bk b) := fun b => bareP_at p b.toNat
  refine ⟨by rw [hl]; exact h.len, fun b h0 h1 => ?_, fun b h0 h1 => ?_, fun b h0 h1 => ?_, ?_⟩
  · rw [hl] at h1; rw [e]; exact Nat.le_trans (List.length_filter_le _ _) (h.body b h0 h1)
  · rw [hl] at h1; rw [e]; exact h.params b h0 h1
  · rw [hl] at h1; rw [e]; exact h.par b h0 h1
  · rw [e]; exact h.par0

set_option maxRecDepth 100000 in
set_option maxHeartbeats 16000000 in
theorem S_goodProgram (g m : Nat) (w : World) (h : Rdr w g m) (hm : m ≤ 690000) :
    Calls Try.prog 80 #[.pointer (some ⟨g, 0, none⟩)] w fun e w' => ∃ (sl : Value) (xs : List Value) (p : Pr), e = .returned (.agg #[sl]) ∧ PRow w' w.heap.size sl xs p ∧ Weak p ∧ Rdr w' g (m + 500) ∧ Only g (g + 1) w w' := by
  have hgl : g < w.heap.size := h.lt
  have hr := h.keep (al1 (o := (.cells #[.slice none 0 0] 25)))
  have hcur := Only.refl g (g + 1) (w.alloc (.cells #[.slice none 0 0] 25))
  clear h
  go_enter Try.func80, Try.ntmps80
  go_wp2_with fail
  refine (S_shapedProgram g _ _ hr (by omega)).mono ?_
  rintro e w1 ⟨sl, xs0, p0, rfl, hrow, hT, hpl, hr, ho⟩
  have hcur := hcur.trans ho
  have hsz1 : w.heap.size + 1 ≤ w1.heap.size := by have := ho.size; simpa using this
  have hwk := hT.weak (by omega)
  have htos : Tos p0 := hT.tos
  have hp1 := hT.len
  simp only [World.size_alloc] at hrow
  obtain ⟨ga, Cp, rfl, _, hCp, hga1, hga2, _, _⟩ := PRowX.rd hrow hp1
  unfold maxLen at hCp
  obtain ⟨n0, hn0⟩ : ∃ n0 : Nat, n0 = p0.length := ⟨_, rfl⟩
  rw [← hn0] at hrow hp1 hpl ⊢
  have hrow := PRowX.keep hrow (al1 (o := .cells #[.slice (some ⟨ga, 0, none⟩) n0 Cp] 25))
  have hcur := hcur.alloc (.cells #[.slice (some ⟨ga, 0, none⟩) n0 Cp] 25)
  have hr := hr.keep (al1 (o := .cells #[.slice (some ⟨ga, 0, none⟩) n0 Cp] 25))
  have bP : BoxP (w1.alloc (.cells #[.slice (some ⟨ga, 0, none⟩) n0 Cp] 25)) w1.heap.size (.slice (some ⟨ga, 0, none⟩) n0 Cp) := BoxP.new rfl _
  obtain ⟨PB, hPB⟩ : ∃ PB : Nat, PB = w1.heap.size := ⟨_, rfl⟩
  have hPB1 : w.heap.size + 1 ≤ PB := by omega
  have hgaPB : ga < PB := by omega
  have hgal : w.heap.size + 1 ≤ ga := hga1
  rw [← hPB] at bP
  have HN := Lib.hid hn0
  clear hn0
  go_wp2
  rw [← hPB]
  clear hPB hsz1 ho hga1 hga2 hT
  go_loopw [4] (fun i wr => ∃ (b : Nat) (xs : List Value) (p : Pr), i = .int .i64 b ∧ 1 ≤ b ∧ (b ≤ n0 ∨ b = 1) ∧ p.length = n0 ∧ Weak p ∧ Tos p ∧ PRow wr (w.heap.size + 1) (.slice (some ⟨ga, 0, none⟩) n0 Cp) xs p ∧ BoxP wr PB (.slice (some ⟨ga, 0, none⟩) n0 Cp) ∧ Rdr wr g (m + 500) ∧ Only g (g + 1) (w.alloc (.cells #[.slice none 0 0] 25)) wr) (fun i _ => n0 - (intOf i).toNat)
  case atStart => exact ⟨1, xs0, p0, rfl, Nat.le_refl _, .inr rfl, HN.out.symm, hwk, htos, by rw [HN.out] at hrow ⊢; exact hrow, bP, hr, hcur⟩
  case round =>
    clear hrow bP hr hcur hwk htos
    obtain ⟨b, xs, p, rfl, hb1, hb2, hpn, hwk, htos, hrow, bP, hr, hcur⟩ := hrel
    have cP := bP.cell
    have hblk : Blks wr (w.heap.size + 1) (.slice (some ⟨ga, 0, none⟩) n0 Cp) p := PRowX.blks hrow
    by_cases hlt : b < n0
    · cases hvp : validP p
      · have HVP := Lib.hid hvp
        clear hvp
        go_wp2_with fail
        refine (S_validProgram _ p _ _ hblk).mono ?_
        rintro e wz ⟨rfl, hbz⟩
        rw [HVP.out]
        have hrow := PRowX.keep hrow hbz
        have bP := bP.below hbz (lt_of_block bP)
        have cP := bP.cell
        have hr := hr.keep hbz
        have hcur := hcur.trans (Only.of_below hbz)
        have zP := lt_of_block bP
        have hbp : b < p.length := by omega
        obtain ⟨ga2, Cp2, ea, _, _, _, hgz, hcell, hfzz⟩ := PRowX.rd hrow (by omega)
        obtain ⟨rfl, -, rfl⟩ : ga = ga2 ∧ n0 = p.length ∧ Cp = Cp2 := by simpa using ea
        have b2 := hcell (b * 4 + 2) (by omega)
        have b3 := hcell (b * 4 + 3) (by omega)
        have f3 := hfzz (b * 4 + 3)
        have hpv := hrow.pars b hbp
        have hbv := PRowX.full hrow hbp
        have hto := htos b hbp
        have hblen := hwk.body b (by omega) (by omega)
        have hplen := hwk.params b (by omega) (by omega)
        have ebk : p.bk (b : Int) = p.getD b default := by show p.getD (b : Int).toNat default = _; rw [Int.toNat_natCast]
        rw [ebk] at hblen hplen
        generalize xs.getD (b * 4 + 2) undef = PV at b2 hpv
        obtain ⟨ps, hps⟩ : ∃ ps : List Int, ps = (p.getD b default).params := ⟨_, rfl⟩
        rw [← hps] at hpv hplen
        clear hps
        obtain ⟨BV, hBV⟩ : ∃ BV : Value, BV = xs.getD (b * 4 + 3) undef := ⟨_, rfl⟩
        rw [← hBV] at b3 hbv
        obtain ⟨A2, C2, rfl⟩ := hpv.form
        obtain ⟨A3, C3, g3, e3, hn3, hc3, hA3, hg3, hst, _⟩ := hbv.rd
        subst e3
        obtain ⟨body, hbody⟩ : ∃ body : List St, body = (p.getD b default).body := ⟨_, rfl⟩
        rw [← hbody] at b3 hbv hn3 hA3 hg3 hst hto hblen
        have HST := Lib.hid hst
        have HTO := Lib.hid hto
        have hbi0 : (0 : Int) ≤ (b : Int) := by omega
        have hbi1 : (b : Int) < (n0 : Int) := by omega
        have HROW := Lib.hid hrow
        have HBK := Lib.hid ebk
        have HR := Lib.hid hr
        have HCUR := Lib.hid hcur
        have HBODY := Lib.hid hbody
        unfold maxLen at hc3
        clear hblk hrow hst hto hcell hfzz ebk ea hbody hBV hr hcur
        go_wp2
        go_loopw [5, 6] (fun q i wi => ∃ (j : Nat) (l : List St), j ≤ body.length ∧ i = .int .i64 j ∧ Stmts wi wz.heap.size q l ∧ l.length ≤ j ∧ (∀ s ∈ l, 0 ≤ s.to ∧ s.to ≤ 7) ∧ Below wz.heap.size wz wi) (fun _ i _ => body.length - (intOf i).toNat)
        case atStart => exact ⟨0, [], Nat.zero_le _, rfl, Stmts.zero rfl (Nat.le_refl _), by simp, by simp, al1⟩
        case round =>
          obtain ⟨j, l, hj, rfl, hq, hlj, hlt2, hBi⟩ := hrel
          have cPi := cell_later hBi cP
          have b2i := cell_later hBi b2
          have b3i := cell_later hBi b3
          have HLT2 := Lib.hid hlt2
          clear hlt2
          by_cases hjl : j < body.length
          · obtain ⟨s0, s1, s2, s3⟩ := HST.out j hjl
            have hg3l := (hg3 (by omega)).2
            have s0 := cell_later hBi s0
            have s1 := cell_later hBi s1
            have s2 := cell_later hBi s2
            have s3 := cell_later hBi s3
            obtain rfl := hA3 (by omega)
            have hj0 : (0 : Int) ≤ (j : Int) := by omega
            have hj1 : (j : Int) < (body.length : Int) := by omega
            have hsto : 0 ≤ (body.getD j default).to ∧ (body.getD j default).to ≤ 7 := HTO.out _ (by rw [show body.getD j default = body[j] by simp [List.getD, hjl]]; exact List.getElem_mem _)
            obtain ⟨s, hs⟩ : ∃ s : St, s = body.getD j default := ⟨_, rfl⟩
            rw [← hs] at s0 s1 s2 s3 hsto
            obtain ⟨sk, st, sa, sb⟩ := s
            have hx := (al1 (w := wr) (o := .cells #[.int .i64 sk, .int .i64 st, .int .i64 sa, .int .i64 sb] 75)).drew
            have cP := cell_later hx cPi
            have b2 := cell_later hx b2i
            have q0 : (wr.alloc (.cells #[.int .i64 sk, .int .i64 st, .int .i64 sa, .int .i64 sb] 75)).drew.cell? ⟨wr.heap.size, 0, none⟩ = some (.int .i64 sk) := by simp [go_sem]
            have q1 : (wr.alloc (.cells #[.int .i64 sk, .int .i64 st, .int .i64 sa, .int .i64 sb] 75)).drew.cell? ⟨wr.heap.size, 1, none⟩ = some (.int .i64 st) := by simp [go_sem]
            have q2 : (wr.alloc (.cells #[.int .i64 sk, .int .i64 st, .int .i64 sa, .int .i64 sb] 75)).drew.cell? ⟨wr.heap.size, 2, none⟩ = some (.int .i64 sa) := by simp [go_sem]
            have q3 : (wr.alloc (.cells #[.int .i64 sk, .int .i64 st, .int .i64 sa, .int .i64 sb] 75)).drew.cell? ⟨wr.heap.size, 3, none⟩ = some (.int .i64 sb) := by simp [go_sem]
            have hB5 := bthen hBi hx
            have hrow5 := PRowX.keep HROW.out hB5
            have hpv5 := hpv.keep hB5
            have hq5 := hq.keep hx
            have hsz5 : wr.heap.size < (wr.alloc (.cells #[.int .i64 sk, .int .i64 st, .int .i64 sa, .int .i64 sb] 75)).drew.heap.size := by show _ < (wr.alloc _).heap.size; simp
            have HQ := Lib.hid hq
            have HBX := Lib.hid hBi
            clear hs hA3 hg3 hq hBi hx b2i
            by_cases hk10 : sk = 10
            · subst hk10
              rcases outerF_cases p b st (by omega) with hRn | hRn
              · have HRN := Lib.hid hRn
                clear hRn
                go_wp2
                have hS := And.intro cP (And.intro q0 (And.intro q1 b2))
                refine wp_region_T 47 (by kernel_rfl) (fun w' => w'.cell? ⟨PB, 0, none⟩ = some (.slice (some ⟨ga, 0, none⟩) n0 Cp) ∧ w'.cell? ⟨wr.heap.size, 0, none⟩ = some (.int .i64 10) ∧ w'.cell? ⟨wr.heap.size, 1, none⟩ = some (.int .i64 st) ∧ w'.cell? ⟨ga, b * 4 + 2, none⟩ = some (.slice A2 ps.length C2)) ?_
                refine wpAnyT_take (i := 0) (oi := ⟨_, _, _, _, _, _⟩) (v := ?vr1_0) (by kernel_rfl) (by decide) rfl (by kernel_rfl) (by kernel_rfl) (by kernel_rfl) (fun _ _ _ h => h) (Or.inl ⟨by rfl, ?hyr1_0⟩) hS ?restr1_0
                case hyr1_0 =>
                  intro w' hSw
                  obtain ⟨s0, s1, s2, s3⟩ := hSw
                  go_simp
                  try with_reducible rfl
                try simp only [Act.put, List.setIfInBounds_toArray, List.set_cons_zero, List.set_cons_succ]
                refine wpAnyT_take (i := 1) (oi := ⟨_, _, _, _, _, _⟩) (v := ?vr1_1) (by kernel_rfl) (by decide) rfl (by kernel_rfl) (by kernel_rfl) (by kernel_rfl) (fun _ _ _ h => h) (Or.inl ⟨by rfl, ?hyr1_1⟩) hS ?restr1_1
                case hyr1_1 =>
                  intro w' hSw
                  obtain ⟨s0, s1, s2, s3⟩ := hSw
                  go_simp
                  try with_reducible rfl
                try simp only [Act.put, List.setIfInBounds_toArray, List.set_cons_zero, List.set_cons_succ]
                refine wpAnyT_take (i := 2) (oi := ⟨_, _, _, _, _, _⟩) (v := ?vr1_2) (by kernel_rfl) (by decide) rfl (by kernel_rfl) (by kernel_rfl) (by kernel_rfl) (fun _ _ _ h => h) (Or.inl ⟨by rfl, ?hyr1_2⟩) hS ?restr1_2
                case hyr1_2 =>
                  intro w' hSw
                  obtain ⟨s0, s1, s2, s3⟩ := hSw
                  go_simp
                  try with_reducible rfl
                try simp only [Act.put, List.setIfInBounds_toArray, List.set_cons_zero, List.set_cons_succ]
                refine wpAnyT_take (i := 3) (oi := ⟨_, _, _, _, _, _⟩) (v := ?vr1_3) (by kernel_rfl) (by decide) rfl (by kernel_rfl) (by kernel_rfl) (by kernel_rfl) (fun _ _ _ h => h) (Or.inl ⟨by rfl, ?hyr1_3⟩) hS ?restr1_3
                case hyr1_3 =>
                  intro w' hSw
                  obtain ⟨s0, s1, s2, s3⟩ := hSw
                  go_simp
                  try with_reducible rfl
                try simp only [Act.put, List.setIfInBounds_toArray, List.set_cons_zero, List.set_cons_succ]
                refine wpAnyT_take (i := 4) (oi := ⟨_, _, _, _, _, _⟩) (v := ?vr1_4) (by kernel_rfl) (by decide) rfl (by kernel_rfl) (by kernel_rfl) (by kernel_rfl) (fun _ _ _ h => h) (Or.inl ⟨by rfl, ?hyr1_4⟩) hS ?restr1_4
                case hyr1_4 =>
                  intro w' hSw
                  obtain ⟨s0, s1, s2, s3⟩ := hSw
                  go_simp
                  try with_reducible rfl
                try simp only [Act.put, List.setIfInBounds_toArray, List.set_cons_zero, List.set_cons_succ]
                refine wpAnyT_take (i := 5) (oi := ⟨_, _, _, _, _, _⟩) (v := ?vr1_5) (by kernel_rfl) (by decide) rfl (by kernel_rfl) (by kernel_rfl) (by kernel_rfl) (fun _ _ _ h => h) (Or.inl ⟨by rfl, ?hyr1_5⟩) hS ?restr1_5
                case hyr1_5 =>
                  intro w' hSw
                  obtain ⟨s0, s1, s2, s3⟩ := hSw
                  go_simp
                  try with_reducible rfl
                try simp only [Act.put, List.setIfInBounds_toArray, List.set_cons_zero, List.set_cons_succ]
                refine wpAnyT_take (i := 6) (oi := ⟨_, _, _, _, _, _⟩) (v := ?vr1_6) (by kernel_rfl) (by decide) rfl (by kernel_rfl) (by kernel_rfl) (by kernel_rfl) (fun _ _ _ h => h) (Or.inl ⟨by rfl, ?hyr1_6⟩) hS ?restr1_6
                case hyr1_6 =>
                  intro w' hSw
                  obtain ⟨s0, s1, s2, s3⟩ := hSw
                  go_simp
                  try with_reducible rfl
                try simp only [Act.put, List.setIfInBounds_toArray, List.set_cons_zero, List.set_cons_succ]
                refine wpAnyT_take (i := 7) (oi := ⟨_, _, _, _, _, _⟩) (v := ?vr1_7) (by kernel_rfl) (by decide) rfl (by kernel_rfl) (by kernel_rfl) (by kernel_rfl) (fun _ _ _ h => h) (Or.inl ⟨by rfl, ?hyr1_7⟩) hS ?restr1_7
                case hyr1_7 =>
                  intro w' hSw
                  obtain ⟨s0, s1, s2, s3⟩ := hSw
                  go_simp
                  try with_reducible rfl
                try simp only [Act.put, List.setIfInBounds_toArray, List.set_cons_zero, List.set_cons_succ]
                refine wpAnyT_ready1 (i := 8) (o := ⟨_, _, _, _, _, _⟩) (by kernel_rfl) rfl (fun K hK => ?_)
                go_simp
                go_at_call 84
                refine (S_outerW _ p (w.heap.size + 1) b st _ (PRowX.blks hrow5) hwk (by omega) (by omega) hsto.1 hsto.2).mono ?_
                rintro e wu ⟨rfl, hbu⟩
                rw [HRN.out]
                have cP := cell_later hbu cP
                have b2 := cell_later hbu b2
                have q0 := cell_later hbu q0
                have q1 := cell_later hbu q1
                have q2 := cell_later hbu q2
                have q3 := cell_later hbu q3
                have hB5 := bthen hB5 hbu
                have hrow5 := PRowX.keep hrow5 hbu
                have hpv5 := hpv5.keep hbu
                have hq5 := hq5.keep hbu
                have hsz5 := Nat.lt_of_lt_of_le hsz5 hbu.size
                have hS := And.intro cP (And.intro q0 (And.intro q1 b2))
                refine hK _ _ (fun _ => hS) ?_
                try simp only [Act.put, List.setIfInBounds_toArray, List.set_cons_zero, List.set_cons_succ]
                refine wpAnyT_take (i := 9) (oi := ⟨_, _, _, _, _, _⟩) (v := ?vr1_9) (by kernel_rfl) (by decide) rfl (by kernel_rfl) (by kernel_rfl) (by kernel_rfl) (fun _ _ _ h => h) (Or.inl ⟨by rfl, ?hyr1_9⟩) hS ?restr1_9
                case hyr1_9 =>
                  intro w' hSw
                  obtain ⟨s0, s1, s2, s3⟩ := hSw
                  go_simp
                  try with_reducible rfl
                try simp only [Act.put, List.setIfInBounds_toArray, List.set_cons_zero, List.set_cons_succ]
                refine wpAnyT_take (i := 10) (oi := ⟨_, _, _, _, _, _⟩) (v := ?vr1_10) (by kernel_rfl) (by decide) rfl (by kernel_rfl) (by kernel_rfl) (by kernel_rfl) (fun _ _ _ h => h) (Or.inl ⟨by rfl, ?hyr1_10⟩) hS ?restr1_10
                case hyr1_10 =>
                  intro w' hSw
                  obtain ⟨s0, s1, s2, s3⟩ := hSw
                  go_simp
                  try with_reducible rfl
                try simp only [Act.put, List.setIfInBounds_toArray, List.set_cons_zero, List.set_cons_succ]
                refine wpAnyT_take (i := 11) (oi := ⟨_, _, _, _, _, _⟩) (v := undef) (by kernel_rfl) (by decide) rfl (by kernel_rfl) (by kernel_rfl) (by kernel_rfl) (fun _ _ _ h => h) (Or.inr ⟨by rfl, rfl⟩) hS ?restr1_11
                try simp only [Act.put, List.setIfInBounds_toArray, List.set_cons_zero, List.set_cons_succ]
                refine wpAnyT_take (i := 12) (oi := ⟨_, _, _, _, _, _⟩) (v := undef) (by kernel_rfl) (by decide) rfl (by kernel_rfl) (by kernel_rfl) (by kernel_rfl) (fun _ _ _ h => h) (Or.inr ⟨by rfl, rfl⟩) hS ?restr1_12
                try simp only [Act.put, List.setIfInBounds_toArray, List.set_cons_zero, List.set_cons_succ]
                refine wpAnyT_take (i := 13) (oi := ⟨_, _, _, _, _, _⟩) (v := undef) (by kernel_rfl) (by decide) rfl (by kernel_rfl) (by kernel_rfl) (by kernel_rfl) (fun _ _ _ h => h) (Or.inr ⟨by rfl, rfl⟩) hS ?restr1_13
                try simp only [Act.put, List.setIfInBounds_toArray, List.set_cons_zero, List.set_cons_succ]
                refine wpAnyT_take (i := 14) (oi := ⟨_, _, _, _, _, _⟩) (v := undef) (by kernel_rfl) (by decide) rfl (by kernel_rfl) (by kernel_rfl) (by kernel_rfl) (fun _ _ _ h => h) (Or.inr ⟨by rfl, rfl⟩) hS ?restr1_14
                try simp only [Act.put, List.setIfInBounds_toArray, List.set_cons_zero, List.set_cons_succ]
                refine wpAnyT_take (i := 15) (oi := ⟨_, _, _, _, _, _⟩) (v := undef) (by kernel_rfl) (by decide) rfl (by kernel_rfl) (by kernel_rfl) (by kernel_rfl) (fun _ _ _ h => h) (Or.inr ⟨by rfl, rfl⟩) hS ?restr1_15
                try simp only [Act.put, List.setIfInBounds_toArray, List.set_cons_zero, List.set_cons_succ]
                refine wpAnyT_take (i := 16) (oi := ⟨_, _, _, _, _, _⟩) (v := undef) (by kernel_rfl) (by decide) rfl (by kernel_rfl) (by kernel_rfl) (by kernel_rfl) (fun _ _ _ h => h) (Or.inr ⟨by rfl, rfl⟩) hS ?restr1_16
                try simp only [Act.put, List.setIfInBounds_toArray, List.set_cons_zero, List.set_cons_succ]
                refine wpAnyT_take (i := 17) (oi := ⟨_, _, _, _, _, _⟩) (v := undef) (by kernel_rfl) (by decide) rfl (by kernel_rfl) (by kernel_rfl) (by kernel_rfl) (fun _ _ _ h => h) (Or.inr ⟨by rfl, rfl⟩) hS ?restr1_17
                try simp only [Act.put, List.setIfInBounds_toArray, List.set_cons_zero, List.set_cons_succ]
                refine wpAnyT_take (i := 18) (oi := ⟨_, _, _, _, _, _⟩) (v := undef) (by kernel_rfl) (by decide) rfl (by kernel_rfl) (by kernel_rfl) (by kernel_rfl) (fun _ _ _ h => h) (Or.inr ⟨by rfl, rfl⟩) hS ?restr1_18
                try simp only [Act.put, List.setIfInBounds_toArray, List.set_cons_zero, List.set_cons_succ]
                refine wpAnyT_ready1 (i := 19) (o := ⟨_, _, _, _, _, _⟩) (by kernel_rfl) rfl (fun K hK => ?_)
                go_simp
                refine hK _ _ (fun _ => hS) ?_
                try simp only [Act.put, List.setIfInBounds_toArray, List.set_cons_zero, List.set_cons_succ]
                refine wpAnyT_take (i := 20) (oi := ⟨_, _, _, _, _, _⟩) (v := ?vr1_20) (by kernel_rfl) (by decide) rfl (by kernel_rfl) (by kernel_rfl) (by kernel_rfl) (fun _ _ _ h => h) (Or.inl ⟨by rfl, ?hyr1_20⟩) hS ?restr1_20
                case hyr1_20 =>
                  intro w' hSw
                  obtain ⟨s0, s1, s2, s3⟩ := hSw
                  go_simp
                  try with_reducible rfl
                try simp only [Act.put, List.setIfInBounds_toArray, List.set_cons_zero, List.set_cons_succ]
                refine wpAnyT_take (i := 21) (oi := ⟨_, _, _, _, _, _⟩) (v := ?vr1_21) (by kernel_rfl) (by decide) rfl (by kernel_rfl) (by kernel_rfl) (by kernel_rfl) (fun _ _ _ h => h) (Or.inl ⟨by rfl, ?hyr1_21⟩) hS ?restr1_21
                case hyr1_21 =>
                  intro w' hSw
                  obtain ⟨s0, s1, s2, s3⟩ := hSw
                  go_simp
                  try with_reducible rfl
                try simp only [Act.put, List.setIfInBounds_toArray, List.set_cons_zero, List.set_cons_succ]
                refine wpAnyT_take (i := 22) (oi := ⟨_, _, _, _, _, _⟩) (v := ?vr1_22) (by kernel_rfl) (by decide) rfl (by kernel_rfl) (by kernel_rfl) (by kernel_rfl) (fun _ _ _ h => h) (Or.inl ⟨by rfl, ?hyr1_22⟩) hS ?restr1_22
                case hyr1_22 =>
                  intro w' hSw
                  obtain ⟨s0, s1, s2, s3⟩ := hSw
                  go_simp
                  try with_reducible rfl
                try simp only [Act.put, List.setIfInBounds_toArray, List.set_cons_zero, List.set_cons_succ]
                refine wpAnyT_take (i := 23) (oi := ⟨_, _, _, _, _, _⟩) (v := undef) (by kernel_rfl) (by decide) rfl (by kernel_rfl) (by kernel_rfl) (by kernel_rfl) (fun _ _ _ h => h) (Or.inr ⟨by rfl, rfl⟩) hS ?restr1_23
                try simp only [Act.put, List.setIfInBounds_toArray, List.set_cons_zero, List.set_cons_succ]
                refine wpAnyT_take (i := 24) (oi := ⟨_, _, _, _, _, _⟩) (v := undef) (by kernel_rfl) (by decide) rfl (by kernel_rfl) (by kernel_rfl) (by kernel_rfl) (fun _ _ _ h => h) (Or.inr ⟨by rfl, rfl⟩) hS ?restr1_24
                try simp only [Act.put, List.setIfInBounds_toArray, List.set_cons_zero, List.set_cons_succ]
                refine wpAnyT_take (i := 25) (oi := ⟨_, _, _, _, _, _⟩) (v := undef) (by kernel_rfl) (by decide) rfl (by kernel_rfl) (by kernel_rfl) (by kernel_rfl) (fun _ _ _ h => h) (Or.inr ⟨by rfl, rfl⟩) hS ?restr1_25
                try simp only [Act.put, List.setIfInBounds_toArray, List.set_cons_zero, List.set_cons_succ]
                refine wpAnyT_take (i := 26) (oi := ⟨_, _, _, _, _, _⟩) (v := undef) (by kernel_rfl) (by decide) rfl (by kernel_rfl) (by kernel_rfl) (by kernel_rfl) (fun _ _ _ h => h) (Or.inr ⟨by rfl, rfl⟩) hS ?restr1_26
                try simp only [Act.put, List.setIfInBounds_toArray, List.set_cons_zero, List.set_cons_succ]
                refine wpAnyT_take (i := 27) (oi := ⟨_, _, _, _, _, _⟩) (v := undef) (by kernel_rfl) (by decide) rfl (by kernel_rfl) (by kernel_rfl) (by kernel_rfl) (fun _ _ _ h => h) (Or.inr ⟨by rfl, rfl⟩) hS ?restr1_27
                try simp only [Act.put, List.setIfInBounds_toArray, List.set_cons_zero, List.set_cons_succ]
                refine wpAnyT_take (i := 28) (oi := ⟨_, _, _, _, _, _⟩) (v := undef) (by kernel_rfl) (by decide) rfl (by kernel_rfl) (by kernel_rfl) (by kernel_rfl) (fun _ _ _ h => h) (Or.inr ⟨by rfl, rfl⟩) hS ?restr1_28
                try simp only [Act.put, List.setIfInBounds_toArray, List.set_cons_zero, List.set_cons_succ]
                refine wpAnyT_take (i := 29) (oi := ⟨_, _, _, _, _, _⟩) (v := undef) (by kernel_rfl) (by decide) rfl (by kernel_rfl) (by kernel_rfl) (by kernel_rfl) (fun _ _ _ h => h) (Or.inr ⟨by rfl, rfl⟩) hS ?restr1_29
                try simp only [Act.put, List.setIfInBounds_toArray, List.set_cons_zero, List.set_cons_succ]
                refine wpAnyT_take (i := 30) (oi := ⟨_, _, _, _, _, _⟩) (v := undef) (by kernel_rfl) (by decide) rfl (by kernel_rfl) (by kernel_rfl) (by kernel_rfl) (fun _ _ _ h => h) (Or.inr ⟨by rfl, rfl⟩) hS ?restr1_30
                try simp only [Act.put, List.setIfInBounds_toArray, List.set_cons_zero, List.set_cons_succ]
                refine wpAnyT_take (i := 31) (oi := ⟨_, _, _, _, _, _⟩) (v := undef) (by kernel_rfl) (by decide) rfl (by kernel_rfl) (by kernel_rfl) (by kernel_rfl) (fun _ _ _ h => h) (Or.inr ⟨by rfl, rfl⟩) hS ?restr1_31
                try simp only [Act.put, List.setIfInBounds_toArray, List.set_cons_zero, List.set_cons_succ]
                refine wpAnyT_take (i := 32) (oi := ⟨_, _, _, _, _, _⟩) (v := undef) (by kernel_rfl) (by decide) rfl (by kernel_rfl) (by kernel_rfl) (by kernel_rfl) (fun _ _ _ h => h) (Or.inr ⟨by rfl, rfl⟩) hS ?restr1_32
                try simp only [Act.put, List.setIfInBounds_toArray, List.set_cons_zero, List.set_cons_succ]
                refine wpAnyT_take (i := 33) (oi := ⟨_, _, _, _, _, _⟩) (v := undef) (by kernel_rfl) (by decide) rfl (by kernel_rfl) (by kernel_rfl) (by kernel_rfl) (fun _ _ _ h => h) (Or.inr ⟨by rfl, rfl⟩) hS ?restr1_33
                try simp only [Act.put, List.setIfInBounds_toArray, List.set_cons_zero, List.set_cons_succ]
                refine wpAnyT_take (i := 34) (oi := ⟨_, _, _, _, _, _⟩) (v := undef) (by kernel_rfl) (by decide) rfl (by kernel_rfl) (by kernel_rfl) (by kernel_rfl) (fun _ _ _ h => h) (Or.inr ⟨by rfl, rfl⟩) hS ?restr1_34
                try simp only [Act.put, List.setIfInBounds_toArray, List.set_cons_zero, List.set_cons_succ]
                refine wpAnyT_ready1 (i := 35) (o := ⟨_, _, _, _, _, _⟩) (by kernel_rfl) rfl (fun K hK => ?_)
                go_simp
                refine hK _ _ (fun _ => hS) ?_
                try simp only [Act.put, List.setIfInBounds_toArray, List.set_cons_zero, List.set_cons_succ]
                refine wpAnyT_take (i := 36) (oi := ⟨_, _, _, _, _, _⟩) (v := undef) (by kernel_rfl) (by decide) rfl (by kernel_rfl) (by kernel_rfl) (by kernel_rfl) (fun _ _ _ h => h) (Or.inr ⟨by rfl, rfl⟩) hS ?restr1_36
                try simp only [Act.put, List.setIfInBounds_toArray, List.set_cons_zero, List.set_cons_succ]
                refine wpAnyT_take (i := 37) (oi := ⟨_, _, _, _, _, _⟩) (v := undef) (by kernel_rfl) (by decide) rfl (by kernel_rfl) (by kernel_rfl) (by kernel_rfl) (fun _ _ _ h => h) (Or.inr ⟨by rfl, rfl⟩) hS ?restr1_37
                try simp only [Act.put, List.setIfInBounds_toArray, List.set_cons_zero, List.set_cons_succ]
                refine wpAnyT_take (i := 38) (oi := ⟨_, _, _, _, _, _⟩) (v := undef) (by kernel_rfl) (by decide) rfl (by kernel_rfl) (by kernel_rfl) (by kernel_rfl) (fun _ _ _ h => h) (Or.inr ⟨by rfl, rfl⟩) hS ?restr1_38
                try simp only [Act.put, List.setIfInBounds_toArray, List.set_cons_zero, List.set_cons_succ]
                refine wpAnyT_take (i := 40) (oi := ⟨_, _, _, _, _, _⟩) (v := undef) (by kernel_rfl) (by decide) rfl (by kernel_rfl) (by kernel_rfl) (by kernel_rfl) (fun _ _ _ h => h) (Or.inr ⟨by rfl, rfl⟩) hS ?restr1_40
                try simp only [Act.put, List.setIfInBounds_toArray, List.set_cons_zero, List.set_cons_succ]
                refine wpAnyT_take (i := 41) (oi := ⟨_, _, _, _, _, _⟩) (v := undef) (by kernel_rfl) (by decide) rfl (by kernel_rfl) (by kernel_rfl) (by kernel_rfl) (fun _ _ _ h => h) (Or.inr ⟨by rfl, rfl⟩) hS ?restr1_41
                try simp only [Act.put, List.setIfInBounds_toArray, List.set_cons_zero, List.set_cons_succ]
                refine wpAnyT_ready1 (i := 39) (o := ⟨_, _, _, _, _, _⟩) (by kernel_rfl) rfl (fun K hK => ?_)
                go_simp
                refine hK _ _ (fun _ => hS) ?_
                try simp only [Act.put, List.setIfInBounds_toArray, List.set_cons_zero, List.set_cons_succ]
                refine wpAnyT_ready1 (i := 42) (o := ⟨_, _, _, _, _, _⟩) (by kernel_rfl) rfl (fun K hK => ?_)
                go_simp
                refine hK _ _ (fun _ => hS) ?_
                try simp only [Act.put, List.setIfInBounds_toArray, List.set_cons_zero, List.set_cons_succ]
                refine wpAnyT_take (i := 43) (oi := ⟨_, _, _, _, _, _⟩) (v := undef) (by kernel_rfl) (by decide) rfl (by kernel_rfl) (by kernel_rfl) (by kernel_rfl) (fun _ _ _ h => h) (Or.inr ⟨by rfl, rfl⟩) hS ?restr1_43
                try simp only [Act.put, List.setIfInBounds_toArray, List.set_cons_zero, List.set_cons_succ]
                refine wpAnyT_take (i := 44) (oi := ⟨_, _, _, _, _, _⟩) (v := undef) (by kernel_rfl) (by decide) rfl (by kernel_rfl) (by kernel_rfl) (by kernel_rfl) (fun _ _ _ h => h) (Or.inr ⟨by rfl, rfl⟩) hS ?restr1_44
                try simp only [Act.put, List.setIfInBounds_toArray, List.set_cons_zero, List.set_cons_succ]
                refine wpAnyT_take (i := 45) (oi := ⟨_, _, _, _, _, _⟩) (v := ?vr1_45) (by kernel_rfl) (by decide) rfl (by kernel_rfl) (by kernel_rfl) (by kernel_rfl) (fun _ _ _ h => h) (Or.inl ⟨by rfl, ?hyr1_45⟩) hS ?restr1_45
                case hyr1_45 =>
                  intro w' hSw
                  obtain ⟨s0, s1, s2, s3⟩ := hSw
                  go_simp
                  try with_reducible rfl
                try simp only [Act.put, List.setIfInBounds_toArray, List.set_cons_zero, List.set_cons_succ]
                refine wpAnyT_take (i := 46) (oi := ⟨_, _, _, _, _, _⟩) (v := ?vr1_46) (by kernel_rfl) (by decide) rfl (by kernel_rfl) (by kernel_rfl) (by kernel_rfl) (fun _ _ _ h => h) (Or.inl ⟨by rfl, ?hyr1_46⟩) hS ?restr1_46
                case hyr1_46 =>
                  intro w' hSw
                  obtain ⟨s0, s1, s2, s3⟩ := hSw
                  go_simp
                  try with_reducible rfl
                try simp only [Act.put, List.setIfInBounds_toArray, List.set_cons_zero, List.set_cons_succ]
                refine wpAnyT_done (by kernel_rfl) ?_ _
                all_goals
                  go_wp2
                  go_roundw
                  case rel => exact ⟨j + 1, l, by omega, by go_num, hq5, by omega, HLT2.out, hB5⟩
                  case measure => simp [intOf]; omega
              · obtain ⟨Q, hQ⟩ := Int.eq_ofNat_of_zero_le (show 0 ≤ outerF p b st by omega)
                have HRN := Lib.hid hQ
                clear hQ hRn
                cases hhp : hasF ps st
                · have HHP := Lib.hid hhp
                  clear hhp
                  go_wp2
                  have hS := And.intro cP (And.intro q0 (And.intro q1 b2))
                  refine wp_region_T 47 (by kernel_rfl) (fun w' => w'.cell? ⟨PB, 0, none⟩ = some (.slice (some ⟨ga, 0, none⟩) n0 Cp) ∧ w'.cell? ⟨wr.heap.size, 0, none⟩ = some (.int .i64 10) ∧ w'.cell? ⟨wr.heap.size, 1, none⟩ = some (.int .i64 st) ∧ w'.cell? ⟨ga, b * 4 + 2, none⟩ = some (.slice A2 ps.length C2)) ?_
                  refine wpAnyT_take (i := 0) (oi := ⟨_, _, _, _, _, _⟩) (v := ?vr2_0) (by kernel_rfl) (by decide) rfl (by kernel_rfl) (by kernel_rfl) (by kernel_rfl) (fun _ _ _ h => h) (Or.inl ⟨by rfl, ?hyr2_0⟩) hS ?restr2_0
                  case hyr2_0 =>
                    intro w' hSw
                    obtain ⟨s0, s1, s2, s3⟩ := hSw
                    go_simp
                    try with_reducible rfl
                  try simp only [Act.put, List.setIfInBounds_toArray, List.set_cons_zero, List.set_cons_succ]
                  refine wpAnyT_take (i := 1) (oi := ⟨_, _, _, _, _, _⟩) (v := ?vr2_1) (by kernel_rfl) (by decide) rfl (by kernel_rfl) (by kernel_rfl) (by kernel_rfl) (fun _ _ _ h => h) (Or.inl ⟨by rfl, ?hyr2_1⟩) hS ?restr2_1
                  case hyr2_1 =>
                    intro w' hSw
                    obtain ⟨s0, s1, s2, s3⟩ := hSw
                    go_simp
                    try with_reducible rfl
                  try simp only [Act.put, List.setIfInBounds_toArray, List.set_cons_zero, List.set_cons_succ]
                  refine wpAnyT_take (i := 2) (oi := ⟨_, _, _, _, _, _⟩) (v := ?vr2_2) (by kernel_rfl) (by decide) rfl (by kernel_rfl) (by kernel_rfl) (by kernel_rfl) (fun _ _ _ h => h) (Or.inl ⟨by rfl, ?hyr2_2⟩) hS ?restr2_2
                  case hyr2_2 =>
                    intro w' hSw
                    obtain ⟨s0, s1, s2, s3⟩ := hSw
                    go_simp
                    try with_reducible rfl
                  try simp only [Act.put, List.setIfInBounds_toArray, List.set_cons_zero, List.set_cons_succ]
                  refine wpAnyT_take (i := 3) (oi := ⟨_, _, _, _, _, _⟩) (v := ?vr2_3) (by kernel_rfl) (by decide) rfl (by kernel_rfl) (by kernel_rfl) (by kernel_rfl) (fun _ _ _ h => h) (Or.inl ⟨by rfl, ?hyr2_3⟩) hS ?restr2_3
                  case hyr2_3 =>
                    intro w' hSw
                    obtain ⟨s0, s1, s2, s3⟩ := hSw
                    go_simp
                    try with_reducible rfl
                  try simp only [Act.put, List.setIfInBounds_toArray, List.set_cons_zero, List.set_cons_succ]
                  refine wpAnyT_take (i := 4) (oi := ⟨_, _, _, _, _, _⟩) (v := ?vr2_4) (by kernel_rfl) (by decide) rfl (by kernel_rfl) (by kernel_rfl) (by kernel_rfl) (fun _ _ _ h => h) (Or.inl ⟨by rfl, ?hyr2_4⟩) hS ?restr2_4
                  case hyr2_4 =>
                    intro w' hSw
                    obtain ⟨s0, s1, s2, s3⟩ := hSw
                    go_simp
                    try with_reducible rfl
                  try simp only [Act.put, List.setIfInBounds_toArray, List.set_cons_zero, List.set_cons_succ]
                  refine wpAnyT_take (i := 5) (oi := ⟨_, _, _, _, _, _⟩) (v := ?vr2_5) (by kernel_rfl) (by decide) rfl (by kernel_rfl) (by kernel_rfl) (by kernel_rfl) (fun _ _ _ h => h) (Or.inl ⟨by rfl, ?hyr2_5⟩) hS ?restr2_5
                  case hyr2_5 =>
                    intro w' hSw
                    obtain ⟨s0, s1, s2, s3⟩ := hSw
                    go_simp
                    try with_reducible rfl
                  try simp only [Act.put, List.setIfInBounds_toArray, List.set_cons_zero, List.set_cons_succ]
                  refine wpAnyT_take (i := 6) (oi := ⟨_, _, _, _, _, _⟩) (v := ?vr2_6) (by kernel_rfl) (by decide) rfl (by kernel_rfl) (by kernel_rfl) (by kernel_rfl) (fun _ _ _ h => h) (Or.inl ⟨by rfl, ?hyr2_6⟩) hS ?restr2_6
                  case hyr2_6 =>
                    intro w' hSw
                    obtain ⟨s0, s1, s2, s3⟩ := hSw
                    go_simp
                    try with_reducible rfl
                  try simp only [Act.put, List.setIfInBounds_toArray, List.set_cons_zero, List.set_cons_succ]
                  refine wpAnyT_take (i := 7) (oi := ⟨_, _, _, _, _, _⟩) (v := ?vr2_7) (by kernel_rfl) (by decide) rfl (by kernel_rfl) (by kernel_rfl) (by kernel_rfl) (fun _ _ _ h => h) (Or.inl ⟨by rfl, ?hyr2_7⟩) hS ?restr2_7
                  case hyr2_7 =>
                    intro w' hSw
                    obtain ⟨s0, s1, s2, s3⟩ := hSw
                    go_simp
                    try with_reducible rfl
                  try simp only [Act.put, List.setIfInBounds_toArray, List.set_cons_zero, List.set_cons_succ]
                  refine wpAnyT_ready1 (i := 8) (o := ⟨_, _, _, _, _, _⟩) (by kernel_rfl) rfl (fun K hK => ?_)
                  go_simp
                  go_at_call 84
                  refine (S_outerW _ p (w.heap.size + 1) b st _ (PRowX.blks hrow5) hwk (by omega) (by omega) hsto.1 hsto.2).mono ?_
                  rintro e wu ⟨rfl, hbu⟩
                  rw [HRN.out]
                  have cP := cell_later hbu cP
                  have b2 := cell_later hbu b2
                  have q0 := cell_later hbu q0
                  have q1 := cell_later hbu q1
                  have q2 := cell_later hbu q2
                  have q3 := cell_later hbu q3
                  have hB5 := bthen hB5 hbu
                  have hrow5 := PRowX.keep hrow5 hbu
                  have hpv5 := hpv5.keep hbu
                  have hq5 := hq5.keep hbu
                  have hsz5 := Nat.lt_of_lt_of_le hsz5 hbu.size
                  have hS := And.intro cP (And.intro q0 (And.intro q1 b2))
                  refine hK _ _ (fun _ => hS) ?_
                  try simp only [Act.put, List.setIfInBounds_toArray, List.set_cons_zero, List.set_cons_succ]
                  refine wpAnyT_take (i := 9) (oi := ⟨_, _, _, _, _, _⟩) (v := ?vr2_9) (by kernel_rfl) (by decide) rfl (by kernel_rfl) (by kernel_rfl) (by kernel_rfl) (fun _ _ _ h => h) (Or.inl ⟨by rfl, ?hyr2_9⟩) hS ?restr2_9
                  case hyr2_9 =>
                    intro w' hSw
                    obtain ⟨s0, s1, s2, s3⟩ := hSw
                    go_simp
                    try with_reducible rfl
                  try simp only [Act.put, List.setIfInBounds_toArray, List.set_cons_zero, List.set_cons_succ]
                  refine wpAnyT_take (i := 10) (oi := ⟨_, _, _, _, _, _⟩) (v := ?vr2_10) (by kernel_rfl) (by decide) rfl (by kernel_rfl) (by kernel_rfl) (by kernel_rfl) (fun _ _ _ h => h) (Or.inl ⟨by rfl, ?hyr2_10⟩) hS ?restr2_10
                  case hyr2_10 =>
                    intro w' hSw
                    obtain ⟨s0, s1, s2, s3⟩ := hSw
                    go_simp
                    try with_reducible rfl
                  try simp only [Act.put, List.setIfInBounds_toArray, List.set_cons_zero, List.set_cons_succ]
                  refine wpAnyT_take (i := 11) (oi := ⟨_, _, _, _, _, _⟩) (v := ?vr2_11) (by kernel_rfl) (by decide) rfl (by kernel_rfl) (by kernel_rfl) (by kernel_rfl) (fun _ _ _ h => h) (Or.inl ⟨by rfl, ?hyr2_11⟩) hS ?restr2_11
                  case hyr2_11 =>
                    intro w' hSw
                    obtain ⟨s0, s1, s2, s3⟩ := hSw
                    go_simp
                    try with_reducible rfl
                  try simp only [Act.put, List.setIfInBounds_toArray, List.set_cons_zero, List.set_cons_succ]
                  refine wpAnyT_take (i := 12) (oi := ⟨_, _, _, _, _, _⟩) (v := ?vr2_12) (by kernel_rfl) (by decide) rfl (by kernel_rfl) (by kernel_rfl) (by kernel_rfl) (fun _ _ _ h => h) (Or.inl ⟨by rfl, ?hyr2_12⟩) hS ?restr2_12
                  case hyr2_12 =>
                    intro w' hSw
                    obtain ⟨s0, s1, s2, s3⟩ := hSw
                    go_simp
                    try with_reducible rfl
                  try simp only [Act.put, List.setIfInBounds_toArray, List.set_cons_zero, List.set_cons_succ]
                  refine wpAnyT_take (i := 13) (oi := ⟨_, _, _, _, _, _⟩) (v := ?vr2_13) (by kernel_rfl) (by decide) rfl (by kernel_rfl) (by kernel_rfl) (by kernel_rfl) (fun _ _ _ h => h) (Or.inl ⟨by rfl, ?hyr2_13⟩) hS ?restr2_13
                  case hyr2_13 =>
                    intro w' hSw
                    obtain ⟨s0, s1, s2, s3⟩ := hSw
                    go_simp
                    try with_reducible rfl
                  try simp only [Act.put, List.setIfInBounds_toArray, List.set_cons_zero, List.set_cons_succ]
                  refine wpAnyT_take (i := 14) (oi := ⟨_, _, _, _, _, _⟩) (v := ?vr2_14) (by kernel_rfl) (by decide) rfl (by kernel_rfl) (by kernel_rfl) (by kernel_rfl) (fun _ _ _ h => h) (Or.inl ⟨by rfl, ?hyr2_14⟩) hS ?restr2_14
                  case hyr2_14 =>
                    intro w' hSw
                    obtain ⟨s0, s1, s2, s3⟩ := hSw
                    go_simp
                    try with_reducible rfl
                  try simp only [Act.put, List.setIfInBounds_toArray, List.set_cons_zero, List.set_cons_succ]
                  refine wpAnyT_take (i := 15) (oi := ⟨_, _, _, _, _, _⟩) (v := ?vr2_15) (by kernel_rfl) (by decide) rfl (by kernel_rfl) (by kernel_rfl) (by kernel_rfl) (fun _ _ _ h => h) (Or.inl ⟨by rfl, ?hyr2_15⟩) hS ?restr2_15
                  case hyr2_15 =>
                    intro w' hSw
                    obtain ⟨s0, s1, s2, s3⟩ := hSw
                    go_simp
                    try with_reducible rfl
                  try simp only [Act.put, List.setIfInBounds_toArray, List.set_cons_zero, List.set_cons_succ]
                  refine wpAnyT_take (i := 16) (oi := ⟨_, _, _, _, _, _⟩) (v := ?vr2_16) (by kernel_rfl) (by decide) rfl (by kernel_rfl) (by kernel_rfl) (by kernel_rfl) (fun _ _ _ h => h) (Or.inl ⟨by rfl, ?hyr2_16⟩) hS ?restr2_16
                  case hyr2_16 =>
                    intro w' hSw
                    obtain ⟨s0, s1, s2, s3⟩ := hSw
                    go_simp
                    try with_reducible rfl
                  try simp only [Act.put, List.setIfInBounds_toArray, List.set_cons_zero, List.set_cons_succ]
                  refine wpAnyT_take (i := 17) (oi := ⟨_, _, _, _, _, _⟩) (v := ?vr2_17) (by kernel_rfl) (by decide) rfl (by kernel_rfl) (by kernel_rfl) (by kernel_rfl) (fun _ _ _ h => h) (Or.inl ⟨by rfl, ?hyr2_17⟩) hS ?restr2_17
                  case hyr2_17 =>
                    intro w' hSw
                    obtain ⟨s0, s1, s2, s3⟩ := hSw
                    go_simp
                    try with_reducible rfl
                  try simp only [Act.put, List.setIfInBounds_toArray, List.set_cons_zero, List.set_cons_succ]
                  refine wpAnyT_take (i := 18) (oi := ⟨_, _, _, _, _, _⟩) (v := ?vr2_18) (by kernel_rfl) (by decide) rfl (by kernel_rfl) (by kernel_rfl) (by kernel_rfl) (fun _ _ _ h => h) (Or.inl ⟨by rfl, ?hyr2_18⟩) hS ?restr2_18
                  case hyr2_18 =>
                    intro w' hSw
                    obtain ⟨s0, s1, s2, s3⟩ := hSw
                    go_simp
                    try with_reducible rfl
                  try simp only [Act.put, List.setIfInBounds_toArray, List.set_cons_zero, List.set_cons_succ]
                  refine wpAnyT_ready1 (i := 19) (o := ⟨_, _, _, _, _, _⟩) (by kernel_rfl) rfl (fun K hK => ?_)
                  go_simp
                  go_at_call 83
                  refine (S_has _ _ _ st _ hpv5).mono ?_
                  rintro e w' ⟨rfl, rfl⟩
                  rw [HHP.out]
                  refine hK _ _ (fun _ => hS) ?_
                  try simp only [Act.put, List.setIfInBounds_toArray, List.set_cons_zero, List.set_cons_succ]
                  refine wpAnyT_take (i := 20) (oi := ⟨_, _, _, _, _, _⟩) (v := ?vr2_20) (by kernel_rfl) (by decide) rfl (by kernel_rfl) (by kernel_rfl) (by kernel_rfl) (fun _ _ _ h => h) (Or.inl ⟨by rfl, ?hyr2_20⟩) hS ?restr2_20
                  case hyr2_20 =>
                    intro w' hSw
                    obtain ⟨s0, s1, s2, s3⟩ := hSw
                    go_simp
                    try with_reducible rfl
                  try simp only [Act.put, List.setIfInBounds_toArray, List.set_cons_zero, List.set_cons_succ]
                  refine wpAnyT_take (i := 21) (oi := ⟨_, _, _, _, _, _⟩) (v := ?vr2_21) (by kernel_rfl) (by decide) rfl (by kernel_rfl) (by kernel_rfl) (by kernel_rfl) (fun _ _ _ h => h) (Or.inl ⟨by rfl, ?hyr2_21⟩) hS ?restr2_21
                  case hyr2_21 =>
                    intro w' hSw
                    obtain ⟨s0, s1, s2, s3⟩ := hSw
                    go_simp
                    try with_reducible rfl
                  try simp only [Act.put, List.setIfInBounds_toArray, List.set_cons_zero, List.set_cons_succ]
                  refine wpAnyT_take (i := 22) (oi := ⟨_, _, _, _, _, _⟩) (v := ?vr2_22) (by kernel_rfl) (by decide) rfl (by kernel_rfl) (by kernel_rfl) (by kernel_rfl) (fun _ _ _ h => h) (Or.inl ⟨by rfl, ?hyr2_22⟩) hS ?restr2_22
                  case hyr2_22 =>
                    intro w' hSw
                    obtain ⟨s0, s1, s2, s3⟩ := hSw
                    go_simp
                    try with_reducible rfl
                  try simp only [Act.put, List.setIfInBounds_toArray, List.set_cons_zero, List.set_cons_succ]
                  refine wpAnyT_take (i := 23) (oi := ⟨_, _, _, _, _, _⟩) (v := ?vr2_23) (by kernel_rfl) (by decide) rfl (by kernel_rfl) (by kernel_rfl) (by kernel_rfl) (fun _ _ _ h => h) (Or.inl ⟨by rfl, ?hyr2_23⟩) hS ?restr2_23
                  case hyr2_23 =>
                    intro w' hSw
                    obtain ⟨s0, s1, s2, s3⟩ := hSw
                    go_simp
                    try with_reducible rfl
                  try simp only [Act.put, List.setIfInBounds_toArray, List.set_cons_zero, List.set_cons_succ]
                  refine wpAnyT_take (i := 24) (oi := ⟨_, _, _, _, _, _⟩) (v := ?vr2_24) (by kernel_rfl) (by decide) rfl (by kernel_rfl) (by kernel_rfl) (by kernel_rfl) (fun _ _ _ h => h) (Or.inl ⟨by rfl, ?hyr2_24⟩) hS ?restr2_24
                  case hyr2_24 =>
                    intro w' hSw
                    obtain ⟨s0, s1, s2, s3⟩ := hSw
                    go_simp
                    try with_reducible rfl
                  try simp only [Act.put, List.setIfInBounds_toArray, List.set_cons_zero, List.set_cons_succ]
                  refine wpAnyT_take (i := 25) (oi := ⟨_, _, _, _, _, _⟩) (v := ?vr2_25) (by kernel_rfl) (by decide) rfl (by kernel_rfl) (by kernel_rfl) (by kernel_rfl) (fun _ _ _ h => h) (Or.inl ⟨by rfl, ?hyr2_25⟩) hS ?restr2_25
                  case hyr2_25 =>
                    intro w' hSw
                    obtain ⟨s0, s1, s2, s3⟩ := hSw
                    go_simp
                    try with_reducible rfl
                  try simp only [Act.put, List.setIfInBounds_toArray, List.set_cons_zero, List.set_cons_succ]
                  refine wpAnyT_take (i := 26) (oi := ⟨_, _, _, _, _, _⟩) (v := ?vr2_26) (by kernel_rfl) (by decide) rfl (by kernel_rfl) (by kernel_rfl) (by kernel_rfl) (fun _ _ _ h => h) (Or.inl ⟨by rfl, ?hyr2_26⟩) hS ?restr2_26
                  case hyr2_26 =>
                    intro w' hSw
                    obtain ⟨s0, s1, s2, s3⟩ := hSw
                    go_simp
                    try with_reducible rfl
                  try simp only [Act.put, List.setIfInBounds_toArray, List.set_cons_zero, List.set_cons_succ]
                  refine wpAnyT_take (i := 27) (oi := ⟨_, _, _, _, _, _⟩) (v := undef) (by kernel_rfl) (by decide) rfl (by kernel_rfl) (by kernel_rfl) (by kernel_rfl) (fun _ _ _ h => h) (Or.inr ⟨by rfl, rfl⟩) hS ?restr2_27
                  try simp only [Act.put, List.setIfInBounds_toArray, List.set_cons_zero, List.set_cons_succ]
                  refine wpAnyT_take (i := 28) (oi := ⟨_, _, _, _, _, _⟩) (v := undef) (by kernel_rfl) (by decide) rfl (by kernel_rfl) (by kernel_rfl) (by kernel_rfl) (fun _ _ _ h => h) (Or.inr ⟨by rfl, rfl⟩) hS ?restr2_28
                  try simp only [Act.put, List.setIfInBounds_toArray, List.set_cons_zero, List.set_cons_succ]
                  refine wpAnyT_take (i := 29) (oi := ⟨_, _, _, _, _, _⟩) (v := undef) (by kernel_rfl) (by decide) rfl (by kernel_rfl) (by kernel_rfl) (by kernel_rfl) (fun _ _ _ h => h) (Or.inr ⟨by rfl, rfl⟩) hS ?restr2_29
                  try simp only [Act.put, List.setIfInBounds_toArray, List.set_cons_zero, List.set_cons_succ]
                  refine wpAnyT_take (i := 30) (oi := ⟨_, _, _, _, _, _⟩) (v := undef) (by kernel_rfl) (by decide) rfl (by kernel_rfl) (by kernel_rfl) (by kernel_rfl) (fun _ _ _ h => h) (Or.inr ⟨by rfl, rfl⟩) hS ?restr2_30
                  try simp only [Act.put, List.setIfInBounds_toArray, List.set_cons_zero, List.set_cons_succ]
                  refine wpAnyT_take (i := 31) (oi := ⟨_, _, _, _, _, _⟩) (v := undef) (by kernel_rfl) (by decide) rfl (by kernel_rfl) (by kernel_rfl) (by kernel_rfl) (fun _ _ _ h => h) (Or.inr ⟨by rfl, rfl⟩) hS ?restr2_31
                  try simp only [Act.put, List.setIfInBounds_toArray, List.set_cons_zero, List.set_cons_succ]
                  refine wpAnyT_take (i := 32) (oi := ⟨_, _, _, _, _, _⟩) (v := undef) (by kernel_rfl) (by decide) rfl (by kernel_rfl) (by kernel_rfl) (by kernel_rfl) (fun _ _ _ h => h) (Or.inr ⟨by rfl, rfl⟩) hS ?restr2_32
                  try simp only [Act.put, List.setIfInBounds_toArray, List.set_cons_zero, List.set_cons_succ]
                  refine wpAnyT_take (i := 33) (oi := ⟨_, _, _, _, _, _⟩) (v := undef) (by kernel_rfl) (by decide) rfl (by kernel_rfl) (by kernel_rfl) (by kernel_rfl) (fun _ _ _ h => h) (Or.inr ⟨by rfl, rfl⟩) hS ?restr2_33
                  try simp only [Act.put, List.setIfInBounds_toArray, List.set_cons_zero, List.set_cons_succ]
                  refine wpAnyT_take (i := 34) (oi := ⟨_, _, _, _, _, _⟩) (v := undef) (by kernel_rfl) (by decide) rfl (by kernel_rfl) (by kernel_rfl) (by kernel_rfl) (fun _ _ _ h => h) (Or.inr ⟨by rfl, rfl⟩) hS ?restr2_34
                  try simp only [Act.put, List.setIfInBounds_toArray, List.set_cons_zero, List.set_cons_succ]
                  refine wpAnyT_ready1 (i := 35) (o := ⟨_, _, _, _, _, _⟩) (by kernel_rfl) rfl (fun K hK => ?_)
                  go_simp
                  refine hK _ _ (fun _ => hS) ?_
                  try simp only [Act.put, List.setIfInBounds_toArray, List.set_cons_zero, List.set_cons_succ]
                  refine wpAnyT_take (i := 36) (oi := ⟨_, _, _, _, _, _⟩) (v := undef) (by kernel_rfl) (by decide) rfl (by kernel_rfl) (by kernel_rfl) (by kernel_rfl) (fun _ _ _ h => h) (Or.inr ⟨by rfl, rfl⟩) hS ?restr2_36
                  try simp only [Act.put, List.setIfInBounds_toArray, List.set_cons_zero, List.set_cons_succ]
                  refine wpAnyT_take (i := 37) (oi := ⟨_, _, _, _, _, _⟩) (v := undef) (by kernel_rfl) (by decide) rfl (by kernel_rfl) (by kernel_rfl) (by kernel_rfl) (fun _ _ _ h => h) (Or.inr ⟨by rfl, rfl⟩) hS ?restr2_37
                  try simp only [Act.put, List.setIfInBounds_toArray, List.set_cons_zero, List.set_cons_succ]
                  refine wpAnyT_take (i := 38) (oi := ⟨_, _, _, _, _, _⟩) (v := undef) (by kernel_rfl) (by decide) rfl (by kernel_rfl) (by kernel_rfl) (by kernel_rfl) (fun _ _ _ h => h) (Or.inr ⟨by rfl, rfl⟩) hS ?restr2_38
                  try simp only [Act.put, List.setIfInBounds_toArray, List.set_cons_zero, List.set_cons_succ]
                  refine wpAnyT_take (i := 40) (oi := ⟨_, _, _, _, _, _⟩) (v := undef) (by kernel_rfl) (by decide) rfl (by kernel_rfl) (by kernel_rfl) (by kernel_rfl) (fun _ _ _ h => h) (Or.inr ⟨by rfl, rfl⟩) hS ?restr2_40
                  try simp only [Act.put, List.setIfInBounds_toArray, List.set_cons_zero, List.set_cons_succ]
                  refine wpAnyT_take (i := 41) (oi := ⟨_, _, _, _, _, _⟩) (v := undef) (by kernel_rfl) (by decide) rfl (by kernel_rfl) (by kernel_rfl) (by kernel_rfl) (fun _ _ _ h => h) (Or.inr ⟨by rfl, rfl⟩) hS ?restr2_41
                  try simp only [Act.put, List.setIfInBounds_toArray, List.set_cons_zero, List.set_cons_succ]
                  refine wpAnyT_ready1 (i := 39) (o := ⟨_, _, _, _, _, _⟩) (by kernel_rfl) rfl (fun K hK => ?_)
                  go_simp
                  refine hK _ _ (fun _ => hS) ?_
                  try simp only [Act.put, List.setIfInBounds_toArray, List.set_cons_zero, List.set_cons_succ]
                  refine wpAnyT_ready1 (i := 42) (o := ⟨_, _, _, _, _, _⟩) (by kernel_rfl) rfl (fun K hK => ?_)
                  go_simp
                  refine hK _ _ (fun _ => hS) ?_
                  try simp only [Act.put, List.setIfInBounds_toArray, List.set_cons_zero, List.set_cons_succ]
                  refine wpAnyT_take (i := 43) (oi := ⟨_, _, _, _, _, _⟩) (v := undef) (by kernel_rfl) (by decide) rfl (by kernel_rfl) (by kernel_rfl) (by kernel_rfl) (fun _ _ _ h => h) (Or.inr ⟨by rfl, rfl⟩) hS ?restr2_43
                  try simp only [Act.put, List.setIfInBounds_toArray, List.set_cons_zero, List.set_cons_succ]
                  refine wpAnyT_take (i := 44) (oi := ⟨_, _, _, _, _, _⟩) (v := ?vr2_44) (by kernel_rfl) (by decide) rfl (by kernel_rfl) (by kernel_rfl) (by kernel_rfl) (fun _ _ _ h => h) (Or.inl ⟨by rfl, ?hyr2_44⟩) hS ?restr2_44
                  case hyr2_44 =>
                    intro w' hSw
                    obtain ⟨s0, s1, s2, s3⟩ := hSw
                    go_simp
                    try with_reducible rfl
                  try simp only [Act.put, List.setIfInBounds_toArray, List.set_cons_zero, List.set_cons_succ]
                  refine wpAnyT_take (i := 45) (oi := ⟨_, _, _, _, _, _⟩) (v := ?vr2_45) (by kernel_rfl) (by decide) rfl (by kernel_rfl) (by kernel_rfl) (by kernel_rfl) (fun _ _ _ h => h) (Or.inl ⟨by rfl, ?hyr2_45⟩) hS ?restr2_45
                  case hyr2_45 =>
                    intro w' hSw
                    obtain ⟨s0, s1, s2, s3⟩ := hSw
                    go_simp
                    try with_reducible rfl
                  try simp only [Act.put, List.setIfInBounds_toArray, List.set_cons_zero, List.set_cons_succ]
                  refine wpAnyT_take (i := 46) (oi := ⟨_, _, _, _, _, _⟩) (v := ?vr2_46) (by kernel_rfl) (by decide) rfl (by kernel_rfl) (by kernel_rfl) (by kernel_rfl) (fun _ _ _ h => h) (Or.inl ⟨by rfl, ?hyr2_46⟩) hS ?restr2_46
                  case hyr2_46 =>
                    intro w' hSw
                    obtain ⟨s0, s1, s2, s3⟩ := hSw
                    go_simp
                    try with_reducible rfl
                  try simp only [Act.put, List.setIfInBounds_toArray, List.set_cons_zero, List.set_cons_succ]
                  refine wpAnyT_done (by kernel_rfl) ?_ _
                  all_goals
                    go_wp2_with (at_builtin; refine wpList_append_stmts rfl _ _ rfl _ _ l [⟨10, st, sa, sb⟩] wz.heap.size rfl rfl (hq5.keep al1) (Stmts.feed (Stmts.one (lo := 0) rfl (Nat.zero_le _) 10 st sa sb)) (by simp only [List.length_cons, List.length_nil]; omega) (by have := hB5.size; simp only [World.size_alloc]; omega) ?_; intro q' w5 hq6 hg5 hb5 hf5)
                    go_roundw
                    case rel => exact ⟨j + 1, l ++ [⟨10, st, sa, sb⟩], by omega, by go_num, hq6, by simp; omega, (fun s hs => (List.mem_append.1 hs).elim (HLT2.out s) (fun h => by rw [List.mem_singleton.1 h]; exact hsto)), (hB5.alloc hB5.size _).grown hg5 (by have := hB5.size; simp only [World.size_alloc]; omega) (fun r hr => own_block_ge hq5 r hr)⟩
                    case measure => simp [intOf]; omega
                · have HHP := Lib.hid hhp
                  clear hhp
                  go_wp2
                  have hS := And.intro cP (And.intro q0 (And.intro q1 b2))
                  refine wp_region_T 47 (by kernel_rfl) (fun w' => w'.cell? ⟨PB, 0, none⟩ = some (.slice (some ⟨ga, 0, none⟩) n0 Cp) ∧ w'.cell? ⟨wr.heap.size, 0, none⟩ = some (.int .i64 10) ∧ w'.cell? ⟨wr.heap.size, 1, none⟩ = some (.int .i64 st) ∧ w'.cell? ⟨ga, b * 4 + 2, none⟩ = some (.slice A2 ps.length C2)) ?_
                  refine wpAnyT_take (i := 0) (oi := ⟨_, _, _, _, _, _⟩) (v := ?vr3_0) (by kernel_rfl) (by decide) rfl (by kernel_rfl) (by kernel_rfl) (by kernel_rfl) (fun _ _ _ h => h) (Or.inl ⟨by rfl, ?hyr3_0⟩) hS ?restr3_0
                  case hyr3_0 =>
                    intro w' hSw
                    obtain ⟨s0, s1, s2, s3⟩ := hSw
                    go_simp
                    try with_reducible rfl
                  try simp only [Act.put, List.setIfInBounds_toArray, List.set_cons_zero, List.set_cons_succ]
                  refine wpAnyT_take (i := 1) (oi := ⟨_, _, _, _, _, _⟩) (v := ?vr3_1) (by kernel_rfl) (by decide) rfl (by kernel_rfl) (by kernel_rfl) (by kernel_rfl) (fun _ _ _ h => h) (Or.inl ⟨by rfl, ?hyr3_1⟩) hS ?restr3_1
                  case hyr3_1 =>
                    intro w' hSw
                    obtain ⟨s0, s1, s2, s3⟩ := hSw
                    go_simp
                    try with_reducible rfl
                  try simp only [Act.put, List.setIfInBounds_toArray, List.set_cons_zero, List.set_cons_succ]
                  refine wpAnyT_take (i := 2) (oi := ⟨_, _, _, _, _, _⟩) (v := ?vr3_2) (by kernel_rfl) (by decide) rfl (by kernel_rfl) (by kernel_rfl) (by kernel_rfl) (fun _ _ _ h => h) (Or.inl ⟨by rfl, ?hyr3_2⟩) hS ?restr3_2
                  case hyr3_2 =>
                    intro w' hSw
                    obtain ⟨s0, s1, s2, s3⟩ := hSw
                    go_simp
                    try with_reducible rfl
                  try simp only [Act.put, List.setIfInBounds_toArray, List.set_cons_zero, List.set_cons_succ]
                  refine wpAnyT_take (i := 3) (oi := ⟨_, _, _, _, _, _⟩) (v := ?vr3_3) (by kernel_rfl) (by decide) rfl (by kernel_rfl) (by kernel_rfl) (by kernel_rfl) (fun _ _ _ h => h) (Or.inl ⟨by rfl, ?hyr3_3⟩) hS ?restr3_3
                  case hyr3_3 =>
                    intro w' hSw
                    obtain ⟨s0, s1, s2, s3⟩ := hSw
                    go_simp
                    try with_reducible rfl
                  try simp only [Act.put, List.setIfInBounds_toArray, List.set_cons_zero, List.set_cons_succ]
                  refine wpAnyT_take (i := 4) (oi := ⟨_, _, _, _, _, _⟩) (v := ?vr3_4) (by kernel_rfl) (by decide) rfl (by kernel_rfl) (by kernel_rfl) (by kernel_rfl) (fun _ _ _ h => h) (Or.inl ⟨by rfl, ?hyr3_4⟩) hS ?restr3_4
                  case hyr3_4 =>
                    intro w' hSw
                    obtain ⟨s0, s1, s2, s3⟩ := hSw
                    go_simp
                    try with_reducible rfl
                  try simp only [Act.put, List.setIfInBounds_toArray, List.set_cons_zero, List.set_cons_succ]
                  refine wpAnyT_take (i := 5) (oi := ⟨_, _, _, _, _, _⟩) (v := ?vr3_5) (by kernel_rfl) (by decide) rfl (by kernel_rfl) (by kernel_rfl) (by kernel_rfl) (fun _ _ _ h => h) (Or.inl ⟨by rfl, ?hyr3_5⟩) hS ?restr3_5
                  case hyr3_5 =>
                    intro w' hSw
                    obtain ⟨s0, s1, s2, s3⟩ := hSw
                    go_simp
                    try with_reducible rfl
                  try simp only [Act.put, List.setIfInBounds_toArray, List.set_cons_zero, List.set_cons_succ]
                  refine wpAnyT_take (i := 6) (oi := ⟨_, _, _, _, _, _⟩) (v := ?vr3_6) (by kernel_rfl) (by decide) rfl (by kernel_rfl) (by kernel_rfl) (by kernel_rfl) (fun _ _ _ h => h) (Or.inl ⟨by rfl, ?hyr3_6⟩) hS ?restr3_6
                  case hyr3_6 =>
                    intro w' hSw
                    obtain ⟨s0, s1, s2, s3⟩ := hSw
                    go_simp
                    try with_reducible rfl
                  try simp only [Act.put, List.setIfInBounds_toArray, List.set_cons_zero, List.set_cons_succ]
                  refine wpAnyT_take (i := 7) (oi := ⟨_, _, _, _, _, _⟩) (v := ?vr3_7) (by kernel_rfl) (by decide) rfl (by kernel_rfl) (by kernel_rfl) (by kernel_rfl) (fun _ _ _ h => h) (Or.inl ⟨by rfl, ?hyr3_7⟩) hS ?restr3_7
                  case hyr3_7 =>
                    intro w' hSw
                    obtain ⟨s0, s1, s2, s3⟩ := hSw
                    go_simp
                    try with_reducible rfl
                  try simp only [Act.put, List.setIfInBounds_toArray, List.set_cons_zero, List.set_cons_succ]
                  refine wpAnyT_ready1 (i := 8) (o := ⟨_, _, _, _, _, _⟩) (by kernel_rfl) rfl (fun K hK => ?_)
                  go_simp
                  go_at_call 84
                  refine (S_outerW _ p (w.heap.size + 1) b st _ (PRowX.blks hrow5) hwk (by omega) (by omega) hsto.1 hsto.2).mono ?_
                  rintro e wu ⟨rfl, hbu⟩
                  rw [HRN.out]
                  have cP := cell_later hbu cP
                  have b2 := cell_later hbu b2
                  have q0 := cell_later hbu q0
                  have q1 := cell_later hbu q1
                  have q2 := cell_later hbu q2
                  have q3 := cell_later hbu q3
                  have hB5 := bthen hB5 hbu
                  have hrow5 := PRowX.keep hrow5 hbu
                  have hpv5 := hpv5.keep hbu
                  have hq5 := hq5.keep hbu
                  have hsz5 := Nat.lt_of_lt_of_le hsz5 hbu.size
                  have hS := And.intro cP (And.intro q0 (And.intro q1 b2))
                  refine hK _ _ (fun _ => hS) ?_
                  try simp only [Act.put, List.setIfInBounds_toArray, List.set_cons_zero, List.set_cons_succ]
                  refine wpAnyT_take (i := 9) (oi := ⟨_, _, _, _, _, _⟩) (v := ?vr3_9) (by kernel_rfl) (by decide) rfl (by kernel_rfl) (by kernel_rfl) (by kernel_rfl) (fun _ _ _ h => h) (Or.inl ⟨by rfl, ?hyr3_9⟩) hS ?restr3_9
                  case hyr3_9 =>
                    intro w' hSw
                    obtain ⟨s0, s1, s2, s3⟩ := hSw
                    go_simp
                    try with_reducible rfl
                  try simp only [Act.put, List.setIfInBounds_toArray, List.set_cons_zero, List.set_cons_succ]
                  refine wpAnyT_take (i := 10) (oi := ⟨_, _, _, _, _, _⟩) (v := ?vr3_10) (by kernel_rfl) (by decide) rfl (by kernel_rfl) (by kernel_rfl) (by kernel_rfl) (fun _ _ _ h => h) (Or.inl ⟨by rfl, ?hyr3_10⟩) hS ?restr3_10
                  case hyr3_10 =>
                    intro w' hSw
                    obtain ⟨s0, s1, s2, s3⟩ := hSw
                    go_simp
                    try with_reducible rfl
                  try simp only [Act.put, List.setIfInBounds_toArray, List.set_cons_zero, List.set_cons_succ]
                  refine wpAnyT_take (i := 11) (oi := ⟨_, _, _, _, _, _⟩) (v := ?vr3_11) (by kernel_rfl) (by decide) rfl (by kernel_rfl) (by kernel_rfl) (by kernel_rfl) (fun _ _ _ h => h) (Or.inl ⟨by rfl, ?hyr3_11⟩) hS ?restr3_11
                  case hyr3_11 =>
                    intro w' hSw
                    obtain ⟨s0, s1, s2, s3⟩ := hSw
                    go_simp
                    try with_reducible rfl
                  try simp only [Act.put, List.setIfInBounds_toArray, List.set_cons_zero, List.set_cons_succ]
                  refine wpAnyT_take (i := 12) (oi := ⟨_, _, _, _, _, _⟩) (v := ?vr3_12) (by kernel_rfl) (by decide) rfl (by kernel_rfl) (by kernel_rfl) (by kernel_rfl) (fun _ _ _ h => h) (Or.inl ⟨by rfl, ?hyr3_12⟩) hS ?restr3_12
                  case hyr3_12 =>
                    intro w' hSw
                    obtain ⟨s0, s1, s2, s3⟩ := hSw
                    go_simp
                    try with_reducible rfl
                  try simp only [Act.put, List.setIfInBounds_toArray, List.set_cons_zero, List.set_cons_succ]
                  refine wpAnyT_take (i := 13) (oi := ⟨_, _, _, _, _, _⟩) (v := ?vr3_13) (by kernel_rfl) (by decide) rfl (by kernel_rfl) (by kernel_rfl) (by kernel_rfl) (fun _ _ _ h => h) (Or.inl ⟨by rfl, ?hyr3_13⟩) hS ?restr3_13
                  case hyr3_13 =>
                    intro w' hSw
                    obtain ⟨s0, s1, s2, s3⟩ := hSw
                    go_simp
                    try with_reducible rfl
                  try simp only [Act.put, List.setIfInBounds_toArray, List.set_cons_zero, List.set_cons_succ]
                  refine wpAnyT_take (i := 14) (oi := ⟨_, _, _, _, _, _⟩) (v := ?vr3_14) (by kernel_rfl) (by decide) rfl (by kernel_rfl) (by kernel_rfl) (by kernel_rfl) (fun _ _ _ h => h) (Or.inl ⟨by rfl, ?hyr3_14⟩) hS ?restr3_14
                  case hyr3_14 =>
                    intro w' hSw
                    obtain ⟨s0, s1, s2, s3⟩ := hSw
                    go_simp
                    try with_reducible rfl
                  try simp only [Act.put, List.setIfInBounds_toArray, List.set_cons_zero, List.set_cons_succ]
                  refine wpAnyT_take (i := 15) (oi := ⟨_, _, _, _, _, _⟩) (v := ?vr3_15) (by kernel_rfl) (by decide) rfl (by kernel_rfl) (by kernel_rfl) (by kernel_rfl) (fun _ _ _ h => h) (Or.inl ⟨by rfl, ?hyr3_15⟩) hS ?restr3_15
                  case hyr3_15 =>
                    intro w' hSw
                    obtain ⟨s0, s1, s2, s3⟩ := hSw
                    go_simp
                    try with_reducible rfl
                  try simp only [Act.put, List.setIfInBounds_toArray, List.set_cons_zero, List.set_cons_succ]
                  refine wpAnyT_take (i := 16) (oi := ⟨_, _, _, _, _, _⟩) (v := ?vr3_16) (by kernel_rfl) (by decide) rfl (by kernel_rfl) (by kernel_rfl) (by kernel_rfl) (fun _ _ _ h => h) (Or.inl ⟨by rfl, ?hyr3_16⟩) hS ?restr3_16
                  case hyr3_16 =>
                    intro w' hSw
                    obtain ⟨s0, s1, s2, s3⟩ := hSw
                    go_simp
                    try with_reducible rfl
                  try simp only [Act.put, List.setIfInBounds_toArray, List.set_cons_zero, List.set_cons_succ]
                  refine wpAnyT_take (i := 17) (oi := ⟨_, _, _, _, _, _⟩) (v := ?vr3_17) (by kernel_rfl) (by decide) rfl (by kernel_rfl) (by kernel_rfl) (by kernel_rfl) (fun _ _ _ h => h) (Or.inl ⟨by rfl, ?hyr3_17⟩) hS ?restr3_17
                  case hyr3_17 =>
                    intro w' hSw
                    obtain ⟨s0, s1, s2, s3⟩ := hSw
                    go_simp
                    try with_reducible rfl
                  try simp only [Act.put, List.setIfInBounds_toArray, List.set_cons_zero, List.set_cons_succ]
                  refine wpAnyT_take (i := 18) (oi := ⟨_, _, _, _, _, _⟩) (v := ?vr3_18) (by kernel_rfl) (by decide) rfl (by kernel_rfl) (by kernel_rfl) (by kernel_rfl) (fun _ _ _ h => h) (Or.inl ⟨by rfl, ?hyr3_18⟩) hS ?restr3_18
                  case hyr3_18 =>
                    intro w' hSw
                    obtain ⟨s0, s1, s2, s3⟩ := hSw
                    go_simp
                    try with_reducible rfl
                  try simp only [Act.put, List.setIfInBounds_toArray, List.set_cons_zero, List.set_cons_succ]
                  refine wpAnyT_ready1 (i := 19) (o := ⟨_, _, _, _, _, _⟩) (by kernel_rfl) rfl (fun K hK => ?_)
                  go_simp
                  go_at_call 83
                  refine (S_has _ _ _ st _ hpv5).mono ?_
                  rintro e w' ⟨rfl, rfl⟩
                  rw [HHP.out]
                  refine hK _ _ (fun _ => hS) ?_
                  try simp only [Act.put, List.setIfInBounds_toArray, List.set_cons_zero, List.set_cons_succ]
                  refine wpAnyT_take (i := 20) (oi := ⟨_, _, _, _, _, _⟩) (v := ?vr3_20) (by kernel_rfl) (by decide) rfl (by kernel_rfl) (by kernel_rfl) (by kernel_rfl) (fun _ _ _ h => h) (Or.inl ⟨by rfl, ?hyr3_20⟩) hS ?restr3_20
                  case hyr3_20 =>
                    intro w' hSw
                    obtain ⟨s0, s1, s2, s3⟩ := hSw
                    go_simp
                    try with_reducible rfl
                  try simp only [Act.put, List.setIfInBounds_toArray, List.set_cons_zero, List.set_cons_succ]
                  refine wpAnyT_take (i := 21) (oi := ⟨_, _, _, _, _, _⟩) (v := ?vr3_21) (by kernel_rfl) (by decide) rfl (by kernel_rfl) (by kernel_rfl) (by kernel_rfl) (fun _ _ _ h => h) (Or.inl ⟨by rfl, ?hyr3_21⟩) hS ?restr3_21
                  case hyr3_21 =>
                    intro w' hSw
                    obtain ⟨s0, s1, s2, s3⟩ := hSw
                    go_simp
                    try with_reducible rfl
                  try simp only [Act.put, List.setIfInBounds_toArray, List.set_cons_zero, List.set_cons_succ]
                  refine wpAnyT_take (i := 22) (oi := ⟨_, _, _, _, _, _⟩) (v := ?vr3_22) (by kernel_rfl) (by decide) rfl (by kernel_rfl) (by kernel_rfl) (by kernel_rfl) (fun _ _ _ h => h) (Or.inl ⟨by rfl, ?hyr3_22⟩) hS ?restr3_22
                  case hyr3_22 =>
                    intro w' hSw
                    obtain ⟨s0, s1, s2, s3⟩ := hSw
                    go_simp
                    try with_reducible rfl
                  try simp only [Act.put, List.setIfInBounds_toArray, List.set_cons_zero, List.set_cons_succ]
                  refine wpAnyT_take (i := 23) (oi := ⟨_, _, _, _, _, _⟩) (v := undef) (by kernel_rfl) (by decide) rfl (by kernel_rfl) (by kernel_rfl) (by kernel_rfl) (fun _ _ _ h => h) (Or.inr ⟨by rfl, rfl⟩) hS ?restr3_23
                  try simp only [Act.put, List.setIfInBounds_toArray, List.set_cons_zero, List.set_cons_succ]
                  refine wpAnyT_take (i := 24) (oi := ⟨_, _, _, _, _, _⟩) (v := undef) (by kernel_rfl) (by decide) rfl (by kernel_rfl) (by kernel_rfl) (by kernel_rfl) (fun _ _ _ h => h) (Or.inr ⟨by rfl, rfl⟩) hS ?restr3_24
                  try simp only [Act.put, List.setIfInBounds_toArray, List.set_cons_zero, List.set_cons_succ]
                  refine wpAnyT_take (i := 25) (oi := ⟨_, _, _, _, _, _⟩) (v := undef) (by kernel_rfl) (by decide) rfl (by kernel_rfl) (by kernel_rfl) (by kernel_rfl) (fun _ _ _ h => h) (Or.inr ⟨by rfl, rfl⟩) hS ?restr3_25
                  try simp only [Act.put, List.setIfInBounds_toArray, List.set_cons_zero, List.set_cons_succ]
                  refine wpAnyT_take (i := 26) (oi := ⟨_, _, _, _, _, _⟩) (v := undef) (by kernel_rfl) (by decide) rfl (by kernel_rfl) (by kernel_rfl) (by kernel_rfl) (fun _ _ _ h => h) (Or.inr ⟨by rfl, rfl⟩) hS ?restr3_26
                  try simp only [Act.put, List.setIfInBounds_toArray, List.set_cons_zero, List.set_cons_succ]
                  refine wpAnyT_take (i := 27) (oi := ⟨_, _, _, _, _, _⟩) (v := undef) (by kernel_rfl) (by decide) rfl (by kernel_rfl) (by kernel_rfl) (by kernel_rfl) (fun _ _ _ h => h) (Or.inr ⟨by rfl, rfl⟩) hS ?restr3_27
                  try simp only [Act.put, List.setIfInBounds_toArray, List.set_cons_zero, List.set_cons_succ]
                  refine wpAnyT_take (i := 28) (oi := ⟨_, _, _, _, _, _⟩) (v := undef) (by kernel_rfl) (by decide) rfl (by kernel_rfl) (by kernel_rfl) (by kernel_rfl) (fun _ _ _ h => h) (Or.inr ⟨by rfl, rfl⟩) hS ?restr3_28
                  try simp only [Act.put, List.setIfInBounds_toArray, List.set_cons_zero, List.set_cons_succ]
                  refine wpAnyT_take (i := 29) (oi := ⟨_, _, _, _, _, _⟩) (v := undef) (by kernel_rfl) (by decide) rfl (by kernel_rfl) (by kernel_rfl) (by kernel_rfl) (fun _ _ _ h => h) (Or.inr ⟨by rfl, rfl⟩) hS ?restr3_29
                  try simp only [Act.put, List.setIfInBounds_toArray, List.set_cons_zero, List.set_cons_succ]
                  refine wpAnyT_take (i := 30) (oi := ⟨_, _, _, _, _, _⟩) (v := undef) (by kernel_rfl) (by decide) rfl (by kernel_rfl) (by kernel_rfl) (by kernel_rfl) (fun _ _ _ h => h) (Or.inr ⟨by rfl, rfl⟩) hS ?restr3_30
                  try simp only [Act.put, List.setIfInBounds_toArray, List.set_cons_zero, List.set_cons_succ]
                  refine wpAnyT_take (i := 31) (oi := ⟨_, _, _, _, _, _⟩) (v := undef) (by kernel_rfl) (by decide) rfl (by kernel_rfl) (by kernel_rfl) (by kernel_rfl) (fun _ _ _ h => h) (Or.inr ⟨by rfl, rfl⟩) hS ?restr3_31
                  try simp only [Act.put, List.setIfInBounds_toArray, List.set_cons_zero, List.set_cons_succ]
                  refine wpAnyT_take (i := 32) (oi := ⟨_, _, _, _, _, _⟩) (v := undef) (by kernel_rfl) (by decide) rfl (by kernel_rfl) (by kernel_rfl) (by kernel_rfl) (fun _ _ _ h => h) (Or.inr ⟨by rfl, rfl⟩) hS ?restr3_32
                  try simp only [Act.put, List.setIfInBounds_toArray, List.set_cons_zero, List.set_cons_succ]
                  refine wpAnyT_take (i := 33) (oi := ⟨_, _, _, _, _, _⟩) (v := undef) (by kernel_rfl) (by decide) rfl (by kernel_rfl) (by kernel_rfl) (by kernel_rfl) (fun _ _ _ h => h) (Or.inr ⟨by rfl, rfl⟩) hS ?restr3_33
                  try simp only [Act.put, List.setIfInBounds_toArray, List.set_cons_zero, List.set_cons_succ]
                  refine wpAnyT_take (i := 34) (oi := ⟨_, _, _, _, _, _⟩) (v := undef) (by kernel_rfl) (by decide) rfl (by kernel_rfl) (by kernel_rfl) (by kernel_rfl) (fun _ _ _ h => h) (Or.inr ⟨by rfl, rfl⟩) hS ?restr3_34
                  try simp only [Act.put, List.setIfInBounds_toArray, List.set_cons_zero, List.set_cons_succ]
                  refine wpAnyT_ready1 (i := 35) (o := ⟨_, _, _, _, _, _⟩) (by kernel_rfl) rfl (fun K hK => ?_)
                  go_simp
                  refine hK _ _ (fun _ => hS) ?_
                  try simp only [Act.put, List.setIfInBounds_toArray, List.set_cons_zero, List.set_cons_succ]
                  refine wpAnyT_take (i := 36) (oi := ⟨_, _, _, _, _, _⟩) (v := undef) (by kernel_rfl) (by decide) rfl (by kernel_rfl) (by kernel_rfl) (by kernel_rfl) (fun _ _ _ h => h) (Or.inr ⟨by rfl, rfl⟩) hS ?restr3_36
                  try simp only [Act.put, List.setIfInBounds_toArray, List.set_cons_zero, List.set_cons_succ]
                  refine wpAnyT_take (i := 37) (oi := ⟨_, _, _, _, _, _⟩) (v := undef) (by kernel_rfl) (by decide) rfl (by kernel_rfl) (by kernel_rfl) (by kernel_rfl) (fun _ _ _ h => h) (Or.inr ⟨by rfl, rfl⟩) hS ?restr3_37
                  try simp only [Act.put, List.setIfInBounds_toArray, List.set_cons_zero, List.set_cons_succ]
                  refine wpAnyT_take (i := 38) (oi := ⟨_, _, _, _, _, _⟩) (v := undef) (by kernel_rfl) (by decide) rfl (by kernel_rfl) (by kernel_rfl) (by kernel_rfl) (fun _ _ _ h => h) (Or.inr ⟨by rfl, rfl⟩) hS ?restr3_38
                  try simp only [Act.put, List.setIfInBounds_toArray, List.set_cons_zero, List.set_cons_succ]
                  refine wpAnyT_take (i := 40) (oi := ⟨_, _, _, _, _, _⟩) (v := undef) (by kernel_rfl) (by decide) rfl (by kernel_rfl) (by kernel_rfl) (by kernel_rfl) (fun _ _ _ h => h) (Or.inr ⟨by rfl, rfl⟩) hS ?restr3_40
                  try simp only [Act.put, List.setIfInBounds_toArray, List.set_cons_zero, List.set_cons_succ]
                  refine wpAnyT_take (i := 41) (oi := ⟨_, _, _, _, _, _⟩) (v := undef) (by kernel_rfl) (by decide) rfl (by kernel_rfl) (by kernel_rfl) (by kernel_rfl) (fun _ _ _ h => h) (Or.inr ⟨by rfl, rfl⟩) hS ?restr3_41
                  try simp only [Act.put, List.setIfInBounds_toArray, List.set_cons_zero, List.set_cons_succ]
                  refine wpAnyT_ready1 (i := 39) (o := ⟨_, _, _, _, _, _⟩) (by kernel_rfl) rfl (fun K hK => ?_)
                  go_simp
                  refine hK _ _ (fun _ => hS) ?_
                  try simp only [Act.put, List.setIfInBounds_toArray, List.set_cons_zero, List.set_cons_succ]
                  refine wpAnyT_ready1 (i := 42) (o := ⟨_, _, _, _, _, _⟩) (by kernel_rfl) rfl (fun K hK => ?_)
                  go_simp
                  refine hK _ _ (fun _ => hS) ?_
                  try simp only [Act.put, List.setIfInBounds_toArray, List.set_cons_zero, List.set_cons_succ]
                  refine wpAnyT_take (i := 43) (oi := ⟨_, _, _, _, _, _⟩) (v := undef) (by kernel_rfl) (by decide) rfl (by kernel_rfl) (by kernel_rfl) (by kernel_rfl) (fun _ _ _ h => h) (Or.inr ⟨by rfl, rfl⟩) hS ?restr3_43
                  try simp only [Act.put, List.setIfInBounds_toArray, List.set_cons_zero, List.set_cons_succ]
                  refine wpAnyT_take (i := 44) (oi := ⟨_, _, _, _, _, _⟩) (v := undef) (by kernel_rfl) (by decide) rfl (by kernel_rfl) (by kernel_rfl) (by kernel_rfl) (fun _ _ _ h => h) (Or.inr ⟨by rfl, rfl⟩) hS ?restr3_44
                  try simp only [Act.put, List.setIfInBounds_toArray, List.set_cons_zero, List.set_cons_succ]
                  refine wpAnyT_take (i := 45) (oi := ⟨_, _, _, _, _, _⟩) (v := ?vr3_45) (by kernel_rfl) (by decide) rfl (by kernel_rfl) (by kernel_rfl) (by kernel_rfl) (fun _ _ _ h => h) (Or.inl ⟨by rfl, ?hyr3_45⟩) hS ?restr3_45
                  case hyr3_45 =>
                    intro w' hSw
                    obtain ⟨s0, s1, s2, s3⟩ := hSw
                    go_simp
                    try with_reducible rfl
                  try simp only [Act.put, List.setIfInBounds_toArray, List.set_cons_zero, List.set_cons_succ]
                  refine wpAnyT_take (i := 46) (oi := ⟨_, _, _, _, _, _⟩) (v := ?vr3_46) (by kernel_rfl) (by decide) rfl (by kernel_rfl) (by kernel_rfl) (by kernel_rfl) (fun _ _ _ h => h) (Or.inl ⟨by rfl, ?hyr3_46⟩) hS ?restr3_46
                  case hyr3_46 =>
                    intro w' hSw
                    obtain ⟨s0, s1, s2, s3⟩ := hSw
                    go_simp
                    try with_reducible rfl
                  try simp only [Act.put, List.setIfInBounds_toArray, List.set_cons_zero, List.set_cons_succ]
                  refine wpAnyT_done (by kernel_rfl) ?_ _
                  all_goals
                    go_wp2
                    go_roundw
                    case rel => exact ⟨j + 1, l, by omega, by go_num, hq5, by omega, HLT2.out, hB5⟩
                    case measure => simp [intOf]; omega
            · have h10b : (sk == 10) = false := by rw [beq_eq_false_iff_ne]; exact hk10
              by_cases hk9 : sk = 9
              · subst hk9
                cases hhp : hasF ps st
                · have HHP := Lib.hid hhp
                  clear hhp
                  cases hhd : hasF (declF p b 10) st
                  · have HHD := Lib.hid hhd
                    clear hhd
                    go_wp2
                    have hS := And.intro cP (And.intro q0 (And.intro q1 b2))
                    refine wp_region_T 47 (by kernel_rfl) (fun w' => w'.cell? ⟨PB, 0, none⟩ = some (.slice (some ⟨ga, 0, none⟩) n0 Cp) ∧ w'.cell? ⟨wr.heap.size, 0, none⟩ = some (.int .i64 9) ∧ w'.cell? ⟨wr.heap.size, 1, none⟩ = some (.int .i64 st) ∧ w'.cell? ⟨ga, b * 4 + 2, none⟩ = some (.slice A2 ps.length C2)) ?_
                    refine wpAnyT_take (i := 0) (oi := ⟨_, _, _, _, _, _⟩) (v := ?vr4_0) (by kernel_rfl) (by decide) rfl (by kernel_rfl) (by kernel_rfl) (by kernel_rfl) (fun _ _ _ h => h) (Or.inl ⟨by rfl, ?hyr4_0⟩) hS ?restr4_0
                    case hyr4_0 =>
                      intro w' hSw
                      obtain ⟨s0, s1, s2, s3⟩ := hSw
                      go_simp
                      try with_reducible rfl
                    try simp only [Act.put, List.setIfInBounds_toArray, List.set_cons_zero, List.set_cons_succ]
                    refine wpAnyT_take (i := 1) (oi := ⟨_, _, _, _, _, _⟩) (v := ?vr4_1) (by kernel_rfl) (by decide) rfl (by kernel_rfl) (by kernel_rfl) (by kernel_rfl) (fun _ _ _ h => h) (Or.inl ⟨by rfl, ?hyr4_1⟩) hS ?restr4_1
                    case hyr4_1 =>
                      intro w' hSw
                      obtain ⟨s0, s1, s2, s3⟩ := hSw
                      go_simp
                      try with_reducible rfl
                    try simp only [Act.put, List.setIfInBounds_toArray, List.set_cons_zero, List.set_cons_succ]
                    refine wpAnyT_take (i := 2) (oi := ⟨_, _, _, _, _, _⟩) (v := ?vr4_2) (by kernel_rfl) (by decide) rfl (by kernel_rfl) (by kernel_rfl) (by kernel_rfl) (fun _ _ _ h => h) (Or.inl ⟨by rfl, ?hyr4_2⟩) hS ?restr4_2
                    case hyr4_2 =>
                      intro w' hSw
                      obtain ⟨s0, s1, s2, s3⟩ := hSw
                      go_simp
                      try with_reducible rfl
                    try simp only [Act.put, List.setIfInBounds_toArray, List.set_cons_zero, List.set_cons_succ]
                    refine wpAnyT_take (i := 3) (oi := ⟨_, _, _, _, _, _⟩) (v := ?vr4_3) (by kernel_rfl) (by decide) rfl (by kernel_rfl) (by kernel_rfl) (by kernel_rfl) (fun _ _ _ h => h) (Or.inl ⟨by rfl, ?hyr4_3⟩) hS ?restr4_3
                    case hyr4_3 =>
                      intro w' hSw
                      obtain ⟨s0, s1, s2, s3⟩ := hSw
                      go_simp
                      try with_reducible rfl
                    try simp only [Act.put, List.setIfInBounds_toArray, List.set_cons_zero, List.set_cons_succ]
                    refine wpAnyT_take (i := 4) (oi := ⟨_, _, _, _, _, _⟩) (v := undef) (by kernel_rfl) (by decide) rfl (by kernel_rfl) (by kernel_rfl) (by kernel_rfl) (fun _ _ _ h => h) (Or.inr ⟨by rfl, rfl⟩) hS ?restr4_4
                    try simp only [Act.put, List.setIfInBounds_toArray, List.set_cons_zero, List.set_cons_succ]
                    refine wpAnyT_take (i := 5) (oi := ⟨_, _, _, _, _, _⟩) (v := undef) (by kernel_rfl) (by decide) rfl (by kernel_rfl) (by kernel_rfl) (by kernel_rfl) (fun _ _ _ h => h) (Or.inr ⟨by rfl, rfl⟩) hS ?restr4_5
                    try simp only [Act.put, List.setIfInBounds_toArray, List.set_cons_zero, List.set_cons_succ]
                    refine wpAnyT_take (i := 6) (oi := ⟨_, _, _, _, _, _⟩) (v := undef) (by kernel_rfl) (by decide) rfl (by kernel_rfl) (by kernel_rfl) (by kernel_rfl) (fun _ _ _ h => h) (Or.inr ⟨by rfl, rfl⟩) hS ?restr4_6
                    try simp only [Act.put, List.setIfInBounds_toArray, List.set_cons_zero, List.set_cons_succ]
                    refine wpAnyT_take (i := 7) (oi := ⟨_, _, _, _, _, _⟩) (v := undef) (by kernel_rfl) (by decide) rfl (by kernel_rfl) (by kernel_rfl) (by kernel_rfl) (fun _ _ _ h => h) (Or.inr ⟨by rfl, rfl⟩) hS ?restr4_7
                    try simp only [Act.put, List.setIfInBounds_toArray, List.set_cons_zero, List.set_cons_succ]
                    refine wpAnyT_ready1 (i := 8) (o := ⟨_, _, _, _, _, _⟩) (by kernel_rfl) rfl (fun K hK => ?_)
                    go_simp
                    refine hK _ _ (fun _ => hS) ?_
                    try simp only [Act.put, List.setIfInBounds_toArray, List.set_cons_zero, List.set_cons_succ]
                    refine wpAnyT_take (i := 9) (oi := ⟨_, _, _, _, _, _⟩) (v := undef) (by kernel_rfl) (by decide) rfl (by kernel_rfl) (by kernel_rfl) (by kernel_rfl) (fun _ _ _ h => h) (Or.inr ⟨by rfl, rfl⟩) hS ?restr4_9
                    try simp only [Act.put, List.setIfInBounds_toArray, List.set_cons_zero, List.set_cons_succ]
                    refine wpAnyT_take (i := 10) (oi := ⟨_, _, _, _, _, _⟩) (v := undef) (by kernel_rfl) (by decide) rfl (by kernel_rfl) (by kernel_rfl) (by kernel_rfl) (fun _ _ _ h => h) (Or.inr ⟨by rfl, rfl⟩) hS ?restr4_10
                    try simp only [Act.put, List.setIfInBounds_toArray, List.set_cons_zero, List.set_cons_succ]
                    refine wpAnyT_take (i := 11) (oi := ⟨_, _, _, _, _, _⟩) (v := undef) (by kernel_rfl) (by decide) rfl (by kernel_rfl) (by kernel_rfl) (by kernel_rfl) (fun _ _ _ h => h) (Or.inr ⟨by rfl, rfl⟩) hS ?restr4_11
                    try simp only [Act.put, List.setIfInBounds_toArray, List.set_cons_zero, List.set_cons_succ]
                    refine wpAnyT_take (i := 12) (oi := ⟨_, _, _, _, _, _⟩) (v := undef) (by kernel_rfl) (by decide) rfl (by kernel_rfl) (by kernel_rfl) (by kernel_rfl) (fun _ _ _ h => h) (Or.inr ⟨by rfl, rfl⟩) hS ?restr4_12
                    try simp only [Act.put, List.setIfInBounds_toArray, List.set_cons_zero, List.set_cons_succ]
                    refine wpAnyT_take (i := 13) (oi := ⟨_, _, _, _, _, _⟩) (v := undef) (by kernel_rfl) (by decide) rfl (by kernel_rfl) (by kernel_rfl) (by kernel_rfl) (fun _ _ _ h => h) (Or.inr ⟨by rfl, rfl⟩) hS ?restr4_13
                    try simp only [Act.put, List.setIfInBounds_toArray, List.set_cons_zero, List.set_cons_succ]
                    refine wpAnyT_take (i := 14) (oi := ⟨_, _, _, _, _, _⟩) (v := undef) (by kernel_rfl) (by decide) rfl (by kernel_rfl) (by kernel_rfl) (by kernel_rfl) (fun _ _ _ h => h) (Or.inr ⟨by rfl, rfl⟩) hS ?restr4_14
                    try simp only [Act.put, List.setIfInBounds_toArray, List.set_cons_zero, List.set_cons_succ]
                    refine wpAnyT_take (i := 15) (oi := ⟨_, _, _, _, _, _⟩) (v := undef) (by kernel_rfl) (by decide) rfl (by kernel_rfl) (by kernel_rfl) (by kernel_rfl) (fun _ _ _ h => h) (Or.inr ⟨by rfl, rfl⟩) hS ?restr4_15
                    try simp only [Act.put, List.setIfInBounds_toArray, List.set_cons_zero, List.set_cons_succ]
                    refine wpAnyT_take (i := 16) (oi := ⟨_, _, _, _, _, _⟩) (v := undef) (by kernel_rfl) (by decide) rfl (by kernel_rfl) (by kernel_rfl) (by kernel_rfl) (fun _ _ _ h => h) (Or.inr ⟨by rfl, rfl⟩) hS ?restr4_16
                    try simp only [Act.put, List.setIfInBounds_toArray, List.set_cons_zero, List.set_cons_succ]
                    refine wpAnyT_take (i := 17) (oi := ⟨_, _, _, _, _, _⟩) (v := undef) (by kernel_rfl) (by decide) rfl (by kernel_rfl) (by kernel_rfl) (by kernel_rfl) (fun _ _ _ h => h) (Or.inr ⟨by rfl, rfl⟩) hS ?restr4_17
                    try simp only [Act.put, List.setIfInBounds_toArray, List.set_cons_zero, List.set_cons_succ]
                    refine wpAnyT_take (i := 18) (oi := ⟨_, _, _, _, _, _⟩) (v := undef) (by kernel_rfl) (by decide) rfl (by kernel_rfl) (by kernel_rfl) (by kernel_rfl) (fun _ _ _ h => h) (Or.inr ⟨by rfl, rfl⟩) hS ?restr4_18
                    try simp only [Act.put, List.setIfInBounds_toArray, List.set_cons_zero, List.set_cons_succ]
                    refine wpAnyT_ready1 (i := 19) (o := ⟨_, _, _, _, _, _⟩) (by kernel_rfl) rfl (fun K hK => ?_)
                    go_simp
                    refine hK _ _ (fun _ => hS) ?_
                    try simp only [Act.put, List.setIfInBounds_toArray, List.set_cons_zero, List.set_cons_succ]
                    refine wpAnyT_take (i := 20) (oi := ⟨_, _, _, _, _, _⟩) (v := undef) (by kernel_rfl) (by decide) rfl (by kernel_rfl) (by kernel_rfl) (by kernel_rfl) (fun _ _ _ h => h) (Or.inr ⟨by rfl, rfl⟩) hS ?restr4_20
                    try simp only [Act.put, List.setIfInBounds_toArray, List.set_cons_zero, List.set_cons_succ]
                    refine wpAnyT_take (i := 21) (oi := ⟨_, _, _, _, _, _⟩) (v := ?vr4_21) (by kernel_rfl) (by decide) rfl (by kernel_rfl) (by kernel_rfl) (by kernel_rfl) (fun _ _ _ h => h) (Or.inl ⟨by rfl, ?hyr4_21⟩) hS ?restr4_21
                    case hyr4_21 =>
                      intro w' hSw
                      obtain ⟨s0, s1, s2, s3⟩ := hSw
                      go_simp
                      try with_reducible rfl
                    try simp only [Act.put, List.setIfInBounds_toArray, List.set_cons_zero, List.set_cons_succ]
                    refine wpAnyT_take (i := 22) (oi := ⟨_, _, _, _, _, _⟩) (v := ?vr4_22) (by kernel_rfl) (by decide) rfl (by kernel_rfl) (by kernel_rfl) (by kernel_rfl) (fun _ _ _ h => h) (Or.inl ⟨by rfl, ?hyr4_22⟩) hS ?restr4_22
                    case hyr4_22 =>
                      intro w' hSw
                      obtain ⟨s0, s1, s2, s3⟩ := hSw
                      go_simp
                      try with_reducible rfl
                    try simp only [Act.put, List.setIfInBounds_toArray, List.set_cons_zero, List.set_cons_succ]
                    refine wpAnyT_take (i := 23) (oi := ⟨_, _, _, _, _, _⟩) (v := ?vr4_23) (by kernel_rfl) (by decide) rfl (by kernel_rfl) (by kernel_rfl) (by kernel_rfl) (fun _ _ _ h => h) (Or.inl ⟨by rfl, ?hyr4_23⟩) hS ?restr4_23
                    case hyr4_23 =>
                      intro w' hSw
                      obtain ⟨s0, s1, s2, s3⟩ := hSw
                      go_simp
                      try with_reducible rfl
                    try simp only [Act.put, List.setIfInBounds_toArray, List.set_cons_zero, List.set_cons_succ]
                    refine wpAnyT_take (i := 24) (oi := ⟨_, _, _, _, _, _⟩) (v := ?vr4_24) (by kernel_rfl) (by decide) rfl (by kernel_rfl) (by kernel_rfl) (by kernel_rfl) (fun _ _ _ h => h) (Or.inl ⟨by rfl, ?hyr4_24⟩) hS ?restr4_24
                    case hyr4_24 =>
                      intro w' hSw
                      obtain ⟨s0, s1, s2, s3⟩ := hSw
                      go_simp
                      try with_reducible rfl
                    try simp only [Act.put, List.setIfInBounds_toArray, List.set_cons_zero, List.set_cons_succ]
                    refine wpAnyT_take (i := 25) (oi := ⟨_, _, _, _, _, _⟩) (v := ?vr4_25) (by kernel_rfl) (by decide) rfl (by kernel_rfl) (by kernel_rfl) (by kernel_rfl) (fun _ _ _ h => h) (Or.inl ⟨by rfl, ?hyr4_25⟩) hS ?restr4_25
                    case hyr4_25 =>
                      intro w' hSw
                      obtain ⟨s0, s1, s2, s3⟩ := hSw
                      go_simp
                      try with_reducible rfl
                    try simp only [Act.put, List.setIfInBounds_toArray, List.set_cons_zero, List.set_cons_succ]
                    refine wpAnyT_take (i := 26) (oi := ⟨_, _, _, _, _, _⟩) (v := ?vr4_26) (by kernel_rfl) (by decide) rfl (by kernel_rfl) (by kernel_rfl) (by kernel_rfl) (fun _ _ _ h => h) (Or.inl ⟨by rfl, ?hyr4_26⟩) hS ?restr4_26
                    case hyr4_26 =>
                      intro w' hSw
                      obtain ⟨s0, s1, s2, s3⟩ := hSw
                      go_simp
                      try with_reducible rfl
                    try simp only [Act.put, List.setIfInBounds_toArray, List.set_cons_zero, List.set_cons_succ]
                    refine wpAnyT_take (i := 27) (oi := ⟨_, _, _, _, _, _⟩) (v := ?vr4_27) (by kernel_rfl) (by decide) rfl (by kernel_rfl) (by kernel_rfl) (by kernel_rfl) (fun _ _ _ h => h) (Or.inl ⟨by rfl, ?hyr4_27⟩) hS ?restr4_27
                    case hyr4_27 =>
                      intro w' hSw
                      obtain ⟨s0, s1, s2, s3⟩ := hSw
                      go_simp
                      try with_reducible rfl
                    try simp only [Act.put, List.setIfInBounds_toArray, List.set_cons_zero, List.set_cons_succ]
                    refine wpAnyT_take (i := 28) (oi := ⟨_, _, _, _, _, _⟩) (v := ?vr4_28) (by kernel_rfl) (by decide) rfl (by kernel_rfl) (by kernel_rfl) (by kernel_rfl) (fun _ _ _ h => h) (Or.inl ⟨by rfl, ?hyr4_28⟩) hS ?restr4_28
                    case hyr4_28 =>
                      intro w' hSw
                      obtain ⟨s0, s1, s2, s3⟩ := hSw
                      go_simp
                      try with_reducible rfl
                    try simp only [Act.put, List.setIfInBounds_toArray, List.set_cons_zero, List.set_cons_succ]
                    refine wpAnyT_take (i := 29) (oi := ⟨_, _, _, _, _, _⟩) (v := ?vr4_29) (by kernel_rfl) (by decide) rfl (by kernel_rfl) (by kernel_rfl) (by kernel_rfl) (fun _ _ _ h => h) (Or.inl ⟨by rfl, ?hyr4_29⟩) hS ?restr4_29
                    case hyr4_29 =>
                      intro w' hSw
                      obtain ⟨s0, s1, s2, s3⟩ := hSw
                      go_simp
                      try with_reducible rfl
                    try simp only [Act.put, List.setIfInBounds_toArray, List.set_cons_zero, List.set_cons_succ]
                    refine wpAnyT_take (i := 30) (oi := ⟨_, _, _, _, _, _⟩) (v := ?vr4_30) (by kernel_rfl) (by decide) rfl (by kernel_rfl) (by kernel_rfl) (by kernel_rfl) (fun _ _ _ h => h) (Or.inl ⟨by rfl, ?hyr4_30⟩) hS ?restr4_30
                    case hyr4_30 =>
                      intro w' hSw
                      obtain ⟨s0, s1, s2, s3⟩ := hSw
                      go_simp
                      try with_reducible rfl
                    try simp only [Act.put, List.setIfInBounds_toArray, List.set_cons_zero, List.set_cons_succ]
                    refine wpAnyT_take (i := 31) (oi := ⟨_, _, _, _, _, _⟩) (v := ?vr4_31) (by kernel_rfl) (by decide) rfl (by kernel_rfl) (by kernel_rfl) (by kernel_rfl) (fun _ _ _ h => h) (Or.inl ⟨by rfl, ?hyr4_31⟩) hS ?restr4_31
                    case hyr4_31 =>
                      intro w' hSw
                      obtain ⟨s0, s1, s2, s3⟩ := hSw
                      go_simp
                      try with_reducible rfl
                    try simp only [Act.put, List.setIfInBounds_toArray, List.set_cons_zero, List.set_cons_succ]
                    refine wpAnyT_take (i := 32) (oi := ⟨_, _, _, _, _, _⟩) (v := ?vr4_32) (by kernel_rfl) (by decide) rfl (by kernel_rfl) (by kernel_rfl) (by kernel_rfl) (fun _ _ _ h => h) (Or.inl ⟨by rfl, ?hyr4_32⟩) hS ?restr4_32
                    case hyr4_32 =>
                      intro w' hSw
                      obtain ⟨s0, s1, s2, s3⟩ := hSw
                      go_simp
                      try with_reducible rfl
                    try simp only [Act.put, List.setIfInBounds_toArray, List.set_cons_zero, List.set_cons_succ]
                    refine wpAnyT_take (i := 33) (oi := ⟨_, _, _, _, _, _⟩) (v := ?vr4_33) (by kernel_rfl) (by decide) rfl (by kernel_rfl) (by kernel_rfl) (by kernel_rfl) (fun _ _ _ h => h) (Or.inl ⟨by rfl, ?hyr4_33⟩) hS ?restr4_33
                    case hyr4_33 =>
                      intro w' hSw
                      obtain ⟨s0, s1, s2, s3⟩ := hSw
                      go_simp
                      try with_reducible rfl
                    try simp only [Act.put, List.setIfInBounds_toArray, List.set_cons_zero, List.set_cons_succ]
                    refine wpAnyT_take (i := 34) (oi := ⟨_, _, _, _, _, _⟩) (v := ?vr4_34) (by kernel_rfl) (by decide) rfl (by kernel_rfl) (by kernel_rfl) (by kernel_rfl) (fun _ _ _ h => h) (Or.inl ⟨by rfl, ?hyr4_34⟩) hS ?restr4_34
                    case hyr4_34 =>
                      intro w' hSw
                      obtain ⟨s0, s1, s2, s3⟩ := hSw
                      go_simp
                      try with_reducible rfl
                    try simp only [Act.put, List.setIfInBounds_toArray, List.set_cons_zero, List.set_cons_succ]
                    refine wpAnyT_ready1 (i := 35) (o := ⟨_, _, _, _, _, _⟩) (by kernel_rfl) rfl (fun K hK => ?_)
                    go_simp
                    go_at_call 83
                    refine (S_has _ _ _ st _ hpv5).mono ?_
                    rintro e w' ⟨rfl, rfl⟩
                    rw [HHP.out]
                    refine hK _ _ (fun _ => hS) ?_
                    try simp only [Act.put, List.setIfInBounds_toArray, List.set_cons_zero, List.set_cons_succ]
                    refine wpAnyT_take (i := 36) (oi := ⟨_, _, _, _, _, _⟩) (v := ?vr4_36) (by kernel_rfl) (by decide) rfl (by kernel_rfl) (by kernel_rfl) (by kernel_rfl) (fun _ _ _ h => h) (Or.inl ⟨by rfl, ?hyr4_36⟩) hS ?restr4_36
                    case hyr4_36 =>
                      intro w' hSw
                      obtain ⟨s0, s1, s2, s3⟩ := hSw
                      go_simp
                      try with_reducible rfl
                    try simp only [Act.put, List.setIfInBounds_toArray, List.set_cons_zero, List.set_cons_succ]
                    refine wpAnyT_take (i := 37) (oi := ⟨_, _, _, _, _, _⟩) (v := ?vr4_37) (by kernel_rfl) (by decide) rfl (by kernel_rfl) (by kernel_rfl) (by kernel_rfl) (fun _ _ _ h => h) (Or.inl ⟨by rfl, ?hyr4_37⟩) hS ?restr4_37
                    case hyr4_37 =>
                      intro w' hSw
                      obtain ⟨s0, s1, s2, s3⟩ := hSw
                      go_simp
                      try with_reducible rfl
                    try simp only [Act.put, List.setIfInBounds_toArray, List.set_cons_zero, List.set_cons_succ]
                    refine wpAnyT_take (i := 38) (oi := ⟨_, _, _, _, _, _⟩) (v := ?vr4_38) (by kernel_rfl) (by decide) rfl (by kernel_rfl) (by kernel_rfl) (by kernel_rfl) (fun _ _ _ h => h) (Or.inl ⟨by rfl, ?hyr4_38⟩) hS ?restr4_38
                    case hyr4_38 =>
                      intro w' hSw
                      obtain ⟨s0, s1, s2, s3⟩ := hSw
                      go_simp
                      try with_reducible rfl
                    try simp only [Act.put, List.setIfInBounds_toArray, List.set_cons_zero, List.set_cons_succ]
                    refine wpAnyT_take (i := 40) (oi := ⟨_, _, _, _, _, _⟩) (v := ?vr4_40) (by kernel_rfl) (by decide) rfl (by kernel_rfl) (by kernel_rfl) (by kernel_rfl) (fun _ _ _ h => h) (Or.inl ⟨by rfl, ?hyr4_40⟩) hS ?restr4_40
                    case hyr4_40 =>
                      intro w' hSw
                      obtain ⟨s0, s1, s2, s3⟩ := hSw
                      go_simp
                      try with_reducible rfl
                    try simp only [Act.put, List.setIfInBounds_toArray, List.set_cons_zero, List.set_cons_succ]
                    refine wpAnyT_take (i := 41) (oi := ⟨_, _, _, _, _, _⟩) (v := ?vr4_41) (by kernel_rfl) (by decide) rfl (by kernel_rfl) (by kernel_rfl) (by kernel_rfl) (fun _ _ _ h => h) (Or.inl ⟨by rfl, ?hyr4_41⟩) hS ?restr4_41
                    case hyr4_41 =>
                      intro w' hSw
                      obtain ⟨s0, s1, s2, s3⟩ := hSw
                      go_simp
                      try with_reducible rfl
                    try simp only [Act.put, List.setIfInBounds_toArray, List.set_cons_zero, List.set_cons_succ]
                    refine wpAnyT_ready1 (i := 39) (o := ⟨_, _, _, _, _, _⟩) (by kernel_rfl) rfl (fun K hK => ?_)
                    go_simp
                    go_at_call 82
                    refine (S_declared _ p (w.heap.size + 1) b 10 _ ⟨_, rfl, PRowX.blks hrow5⟩ (by omega) (by omega) (by omega) (Nat.le_trans (hwk.body b (by omega) (by omega)) (by omega))).mono ?_
                    rintro e wu ⟨v4, rfl, hi4, hbu⟩
                    have cP := cell_later hbu cP
                    have b2 := cell_later hbu b2
                    have q0 := cell_later hbu q0
                    have q1 := cell_later hbu q1
                    have q2 := cell_later hbu q2
                    have q3 := cell_later hbu q3
                    have hB5 := bthen hB5 hbu
                    have hrow5 := PRowX.keep hrow5 hbu
                    have hpv5 := hpv5.keep hbu
                    have hq5 := hq5.keep hbu
                    have hsz5 := Nat.lt_of_lt_of_le hsz5 hbu.size
                    have hS := And.intro cP (And.intro q0 (And.intro q1 b2))
                    refine hK _ _ (fun _ => hS) ?_
                    try simp only [Act.put, List.setIfInBounds_toArray, List.set_cons_zero, List.set_cons_succ]
                    refine wpAnyT_ready1 (i := 42) (o := ⟨_, _, _, _, _, _⟩) (by kernel_rfl) rfl (fun K hK => ?_)
                    go_simp
                    go_at_call 83
                    refine (S_has v4 _ _ st _ hi4).mono ?_
                    rintro e w' ⟨rfl, rfl⟩
                    rw [HHD.out]
                    refine hK _ _ (fun _ => hS) ?_
                    try simp only [Act.put, List.setIfInBounds_toArray, List.set_cons_zero, List.set_cons_succ]
                    refine wpAnyT_take (i := 43) (oi := ⟨_, _, _, _, _, _⟩) (v := ?vr4_43) (by kernel_rfl) (by decide) rfl (by kernel_rfl) (by kernel_rfl) (by kernel_rfl) (fun _ _ _ h => h) (Or.inl ⟨by rfl, ?hyr4_43⟩) hS ?restr4_43
                    case hyr4_43 =>
                      intro w' hSw
                      obtain ⟨s0, s1, s2, s3⟩ := hSw
                      go_simp
                      try with_reducible rfl
                    try simp only [Act.put, List.setIfInBounds_toArray, List.set_cons_zero, List.set_cons_succ]
                    refine wpAnyT_take (i := 44) (oi := ⟨_, _, _, _, _, _⟩) (v := ?vr4_44) (by kernel_rfl) (by decide) rfl (by kernel_rfl) (by kernel_rfl) (by kernel_rfl) (fun _ _ _ h => h) (Or.inl ⟨by rfl, ?hyr4_44⟩) hS ?restr4_44
                    case hyr4_44 =>
                      intro w' hSw
                      obtain ⟨s0, s1, s2, s3⟩ := hSw
                      go_simp
                      try with_reducible rfl
                    try simp only [Act.put, List.setIfInBounds_toArray, List.set_cons_zero, List.set_cons_succ]
                    refine wpAnyT_take (i := 45) (oi := ⟨_, _, _, _, _, _⟩) (v := ?vr4_45) (by kernel_rfl) (by decide) rfl (by kernel_rfl) (by kernel_rfl) (by kernel_rfl) (fun _ _ _ h => h) (Or.inl ⟨by rfl, ?hyr4_45⟩) hS ?restr4_45
                    case hyr4_45 =>
                      intro w' hSw
                      obtain ⟨s0, s1, s2, s3⟩ := hSw
                      go_simp
                      try with_reducible rfl
                    try simp only [Act.put, List.setIfInBounds_toArray, List.set_cons_zero, List.set_cons_succ]
                    refine wpAnyT_take (i := 46) (oi := ⟨_, _, _, _, _, _⟩) (v := ?vr4_46) (by kernel_rfl) (by decide) rfl (by kernel_rfl) (by kernel_rfl) (by kernel_rfl) (fun _ _ _ h => h) (Or.inl ⟨by rfl, ?hyr4_46⟩) hS ?restr4_46
                    case hyr4_46 =>
                      intro w' hSw
                      obtain ⟨s0, s1, s2, s3⟩ := hSw
                      go_simp
                      try with_reducible rfl
                    try simp only [Act.put, List.setIfInBounds_toArray, List.set_cons_zero, List.set_cons_succ]
                    refine wpAnyT_done (by kernel_rfl) ?_ _
                    all_goals
                      go_wp2_with (at_builtin; refine wpList_append_stmts rfl _ _ rfl _ _ l [⟨9, st, sa, sb⟩] wz.heap.size rfl rfl (hq5.keep al1) (Stmts.feed (Stmts.one (lo := 0) rfl (Nat.zero_le _) 9 st sa sb)) (by simp only [List.length_cons, List.length_nil]; omega) (by have := hB5.size; simp only [World.size_alloc]; omega) ?_; intro q' w5 hq6 hg5 hb5 hf5)
                      go_roundw
                      case rel => exact ⟨j + 1, l ++ [⟨9, st, sa, sb⟩], by omega, by go_num, hq6, by simp; omega, (fun s hs => (List.mem_append.1 hs).elim (HLT2.out s) (fun h => by rw [List.mem_singleton.1 h]; exact hsto)), (hB5.alloc hB5.size _).grown hg5 (by have := hB5.size; simp only [World.size_alloc]; omega) (fun r hr => own_block_ge hq5 r hr)⟩
                      case measure => simp [intOf]; omega
                  · have HHD := Lib.hid hhd
                    clear hhd
                    go_wp2
                    have hS := And.intro cP (And.intro q0 (And.intro q1 b2))
                    refine wp_region_T 47 (by kernel_rfl) (fun w' => w'.cell? ⟨PB, 0, none⟩ = some (.slice (some ⟨ga, 0, none⟩) n0 Cp) ∧ w'.cell? ⟨wr.heap.size, 0, none⟩ = some (.int .i64 9) ∧ w'.cell? ⟨wr.heap.size, 1, none⟩ = some (.int .i64 st) ∧ w'.cell? ⟨ga, b * 4 + 2, none⟩ = some (.slice A2 ps.length C2)) ?_
                    refine wpAnyT_take (i := 0) (oi := ⟨_, _, _, _, _, _⟩) (v := ?vr5_0) (by kernel_rfl) (by decide) rfl (by kernel_rfl) (by kernel_rfl) (by kernel_rfl) (fun _ _ _ h => h) (Or.inl ⟨by rfl, ?hyr5_0⟩) hS ?restr5_0
                    case hyr5_0 =>
                      intro w' hSw
                      obtain ⟨s0, s1, s2, s3⟩ := hSw
                      go_simp
                      try with_reducible rfl
                    try simp only [Act.put, List.setIfInBounds_toArray, List.set_cons_zero, List.set_cons_succ]
                    refine wpAnyT_take (i := 1) (oi := ⟨_, _, _, _, _, _⟩) (v := ?vr5_1) (by kernel_rfl) (by decide) rfl (by kernel_rfl) (by kernel_rfl) (by kernel_rfl) (fun _ _ _ h => h) (Or.inl ⟨by rfl, ?hyr5_1⟩) hS ?restr5_1
                    case hyr5_1 =>
                      intro w' hSw
                      obtain ⟨s0, s1, s2, s3⟩ := hSw
                      go_simp
                      try with_reducible rfl
                    try simp only [Act.put, List.setIfInBounds_toArray, List.set_cons_zero, List.set_cons_succ]
                    refine wpAnyT_take (i := 2) (oi := ⟨_, _, _, _, _, _⟩) (v := ?vr5_2) (by kernel_rfl) (by decide) rfl (by kernel_rfl) (by kernel_rfl) (by kernel_rfl) (fun _ _ _ h => h) (Or.inl ⟨by rfl, ?hyr5_2⟩) hS ?restr5_2
                    case hyr5_2 =>
                      intro w' hSw
                      obtain ⟨s0, s1, s2, s3⟩ := hSw
                      go_simp
                      try with_reducible rfl
                    try simp only [Act.put, List.setIfInBounds_toArray, List.set_cons_zero, List.set_cons_succ]
                    refine wpAnyT_take (i := 3) (oi := ⟨_, _, _, _, _, _⟩) (v := ?vr5_3) (by kernel_rfl) (by decide) rfl (by kernel_rfl) (by kernel_rfl) (by kernel_rfl) (fun _ _ _ h => h) (Or.inl ⟨by rfl, ?hyr5_3⟩) hS ?restr5_3
                    case hyr5_3 =>
                      intro w' hSw
                      obtain ⟨s0, s1, s2, s3⟩ := hSw
                      go_simp
                      try with_reducible rfl
                    try simp only [Act.put, List.setIfInBounds_toArray, List.set_cons_zero, List.set_cons_succ]
                    refine wpAnyT_take (i := 4) (oi := ⟨_, _, _, _, _, _⟩) (v := undef) (by kernel_rfl) (by decide) rfl (by kernel_rfl) (by kernel_rfl) (by kernel_rfl) (fun _ _ _ h => h) (Or.inr ⟨by rfl, rfl⟩) hS ?restr5_4
                    try simp only [Act.put, List.setIfInBounds_toArray, List.set_cons_zero, List.set_cons_succ]
                    refine wpAnyT_take (i := 5) (oi := ⟨_, _, _, _, _, _⟩) (v := undef) (by kernel_rfl) (by decide) rfl (by kernel_rfl) (by kernel_rfl) (by kernel_rfl) (fun _ _ _ h => h) (Or.inr ⟨by rfl, rfl⟩) hS ?restr5_5
                    try simp only [Act.put, List.setIfInBounds_toArray, List.set_cons_zero, List.set_cons_succ]
                    refine wpAnyT_take (i := 6) (oi := ⟨_, _, _, _, _, _⟩) (v := undef) (by kernel_rfl) (by decide) rfl (by kernel_rfl) (by kernel_rfl) (by kernel_rfl) (fun _ _ _ h => h) (Or.inr ⟨by rfl, rfl⟩) hS ?restr5_6
                    try simp only [Act.put, List.setIfInBounds_toArray, List.set_cons_zero, List.set_cons_succ]
                    refine wpAnyT_take (i := 7) (oi := ⟨_, _, _, _, _, _⟩) (v := undef) (by kernel_rfl) (by decide) rfl (by kernel_rfl) (by kernel_rfl) (by kernel_rfl) (fun _ _ _ h => h) (Or.inr ⟨by rfl, rfl⟩) hS ?restr5_7
                    try simp only [Act.put, List.setIfInBounds_toArray, List.set_cons_zero, List.set_cons_succ]
                    refine wpAnyT_ready1 (i := 8) (o := ⟨_, _, _, _, _, _⟩) (by kernel_rfl) rfl (fun K hK => ?_)
                    go_simp
                    refine hK _ _ (fun _ => hS) ?_
                    try simp only [Act.put, List.setIfInBounds_toArray, List.set_cons_zero, List.set_cons_succ]
                    refine wpAnyT_take (i := 9) (oi := ⟨_, _, _, _, _, _⟩) (v := undef) (by kernel_rfl) (by decide) rfl (by kernel_rfl) (by kernel_rfl) (by kernel_rfl) (fun _ _ _ h => h) (Or.inr ⟨by rfl, rfl⟩) hS ?restr5_9
                    try simp only [Act.put, List.setIfInBounds_toArray, List.set_cons_zero, List.set_cons_succ]
                    refine wpAnyT_take (i := 10) (oi := ⟨_, _, _, _, _, _⟩) (v := undef) (by kernel_rfl) (by decide) rfl (by kernel_rfl) (by kernel_rfl) (by kernel_rfl) (fun _ _ _ h => h) (Or.inr ⟨by rfl, rfl⟩) hS ?restr5_10
                    try simp only [Act.put, List.setIfInBounds_toArray, List.set_cons_zero, List.set_cons_succ]
                    refine wpAnyT_take (i := 11) (oi := ⟨_, _, _, _, _, _⟩) (v := undef) (by kernel_rfl) (by decide) rfl (by kernel_rfl) (by kernel_rfl) (by kernel_rfl) (fun _ _ _ h => h) (Or.inr ⟨by rfl, rfl⟩) hS ?restr5_11
                    try simp only [Act.put, List.setIfInBounds_toArray, List.set_cons_zero, List.set_cons_succ]
                    refine wpAnyT_take (i := 12) (oi := ⟨_, _, _, _, _, _⟩) (v := undef) (by kernel_rfl) (by decide) rfl (by kernel_rfl) (by kernel_rfl) (by kernel_rfl) (fun _ _ _ h => h) (Or.inr ⟨by rfl, rfl⟩) hS ?restr5_12
                    try simp only [Act.put, List.setIfInBounds_toArray, List.set_cons_zero, List.set_cons_succ]
                    refine wpAnyT_take (i := 13) (oi := ⟨_, _, _, _, _, _⟩) (v := undef) (by kernel_rfl) (by decide) rfl (by kernel_rfl) (by kernel_rfl) (by kernel_rfl) (fun _ _ _ h => h) (Or.inr ⟨by rfl, rfl⟩) hS ?restr5_13
                    try simp only [Act.put, List.setIfInBounds_toArray, List.set_cons_zero, List.set_cons_succ]
                    refine wpAnyT_take (i := 14) (oi := ⟨_, _, _, _, _, _⟩) (v := undef) (by kernel_rfl) (by decide) rfl (by kernel_rfl) (by kernel_rfl) (by kernel_rfl) (fun _ _ _ h => h) (Or.inr ⟨by rfl, rfl⟩) hS ?restr5_14
                    try simp only [Act.put, List.setIfInBounds_toArray, List.set_cons_zero, List.set_cons_succ]
                    refine wpAnyT_take (i := 15) (oi := ⟨_, _, _, _, _, _⟩) (v := undef) (by kernel_rfl) (by decide) rfl (by kernel_rfl) (by kernel_rfl) (by kernel_rfl) (fun _ _ _ h => h) (Or.inr ⟨by rfl, rfl⟩) hS ?restr5_15
                    try simp only [Act.put, List.setIfInBounds_toArray, List.set_cons_zero, List.set_cons_succ]
                    refine wpAnyT_take (i := 16) (oi := ⟨_, _, _, _, _, _⟩) (v := undef) (by kernel_rfl) (by decide) rfl (by kernel_rfl) (by kernel_rfl) (by kernel_rfl) (fun _ _ _ h => h) (Or.inr ⟨by rfl, rfl⟩) hS ?restr5_16
                    try simp only [Act.put, List.setIfInBounds_toArray, List.set_cons_zero, List.set_cons_succ]
                    refine wpAnyT_take (i := 17) (oi := ⟨_, _, _, _, _, _⟩) (v := undef) (by kernel_rfl) (by decide) rfl (by kernel_rfl) (by kernel_rfl) (by kernel_rfl) (fun _ _ _ h => h) (Or.inr ⟨by rfl, rfl⟩) hS ?restr5_17
                    try simp only [Act.put, List.setIfInBounds_toArray, List.set_cons_zero, List.set_cons_succ]
                    refine wpAnyT_take (i := 18) (oi := ⟨_, _, _, _, _, _⟩) (v := undef) (by kernel_rfl) (by decide) rfl (by kernel_rfl) (by kernel_rfl) (by kernel_rfl) (fun _ _ _ h => h) (Or.inr ⟨by rfl, rfl⟩) hS ?restr5_18
                    try simp only [Act.put, List.setIfInBounds_toArray, List.set_cons_zero, List.set_cons_succ]
                    refine wpAnyT_ready1 (i := 19) (o := ⟨_, _, _, _, _, _⟩) (by kernel_rfl) rfl (fun K hK => ?_)
                    go_simp
                    refine hK _ _ (fun _ => hS) ?_
                    try simp only [Act.put, List.setIfInBounds_toArray, List.set_cons_zero, List.set_cons_succ]
                    refine wpAnyT_take (i := 20) (oi := ⟨_, _, _, _, _, _⟩) (v := undef) (by kernel_rfl) (by decide) rfl (by kernel_rfl) (by kernel_rfl) (by kernel_rfl) (fun _ _ _ h => h) (Or.inr ⟨by rfl, rfl⟩) hS ?restr5_20
                    try simp only [Act.put, List.setIfInBounds_toArray, List.set_cons_zero, List.set_cons_succ]
                    refine wpAnyT_take (i := 21) (oi := ⟨_, _, _, _, _, _⟩) (v := ?vr5_21) (by kernel_rfl) (by decide) rfl (by kernel_rfl) (by kernel_rfl) (by kernel_rfl) (fun _ _ _ h => h) (Or.inl ⟨by rfl, ?hyr5_21⟩) hS ?restr5_21
                    case hyr5_21 =>
                      intro w' hSw
                      obtain ⟨s0, s1, s2, s3⟩ := hSw
                      go_simp
                      try with_reducible rfl
                    try simp only [Act.put, List.setIfInBounds_toArray, List.set_cons_zero, List.set_cons_succ]
                    refine wpAnyT_take (i := 22) (oi := ⟨_, _, _, _, _, _⟩) (v := ?vr5_22) (by kernel_rfl) (by decide) rfl (by kernel_rfl) (by kernel_rfl) (by kernel_rfl) (fun _ _ _ h => h) (Or.inl ⟨by rfl, ?hyr5_22⟩) hS ?restr5_22
                    case hyr5_22 =>
                      intro w' hSw
                      obtain ⟨s0, s1, s2, s3⟩ := hSw
                      go_simp
                      try with_reducible rfl
                    try simp only [Act.put, List.setIfInBounds_toArray, List.set_cons_zero, List.set_cons_succ]
                    refine wpAnyT_take (i := 23) (oi := ⟨_, _, _, _, _, _⟩) (v := ?vr5_23) (by kernel_rfl) (by decide) rfl (by kernel_rfl) (by kernel_rfl) (by kernel_rfl) (fun _ _ _ h => h) (Or.inl ⟨by rfl, ?hyr5_23⟩) hS ?restr5_23
                    case hyr5_23 =>
                      intro w' hSw
                      obtain ⟨s0, s1, s2, s3⟩ := hSw
                      go_simp
                      try with_reducible rfl
                    try simp only [Act.put, List.setIfInBounds_toArray, List.set_cons_zero, List.set_cons_succ]
                    refine wpAnyT_take (i := 24) (oi := ⟨_, _, _, _, _, _⟩) (v := ?vr5_24) (by kernel_rfl) (by decide) rfl (by kernel_rfl) (by kernel_rfl) (by kernel_rfl) (fun _ _ _ h => h) (Or.inl ⟨by rfl, ?hyr5_24⟩) hS ?restr5_24
                    case hyr5_24 =>
                      intro w' hSw
                      obtain ⟨s0, s1, s2, s3⟩ := hSw
                      go_simp
                      try with_reducible rfl
                    try simp only [Act.put, List.setIfInBounds_toArray, List.set_cons_zero, List.set_cons_succ]
                    refine wpAnyT_take (i := 25) (oi := ⟨_, _, _, _, _, _⟩) (v := ?vr5_25) (by kernel_rfl) (by decide) rfl (by kernel_rfl) (by kernel_rfl) (by kernel_rfl) (fun _ _ _ h => h) (Or.inl ⟨by rfl, ?hyr5_25⟩) hS ?restr5_25
                    case hyr5_25 =>
                      intro w' hSw
                      obtain ⟨s0, s1, s2, s3⟩ := hSw
                      go_simp
                      try with_reducible rfl
                    try simp only [Act.put, List.setIfInBounds_toArray, List.set_cons_zero, List.set_cons_succ]
                    refine wpAnyT_take (i := 26) (oi := ⟨_, _, _, _, _, _⟩) (v := ?vr5_26) (by kernel_rfl) (by decide) rfl (by kernel_rfl) (by kernel_rfl) (by kernel_rfl) (fun _ _ _ h => h) (Or.inl ⟨by rfl, ?hyr5_26⟩) hS ?restr5_26
                    case hyr5_26 =>
                      intro w' hSw
                      obtain ⟨s0, s1, s2, s3⟩ := hSw
                      go_simp
                      try with_reducible rfl
                    try simp only [Act.put, List.setIfInBounds_toArray, List.set_cons_zero, List.set_cons_succ]
                    refine wpAnyT_take (i := 27) (oi := ⟨_, _, _, _, _, _⟩) (v := ?vr5_27) (by kernel_rfl) (by decide) rfl (by kernel_rfl) (by kernel_rfl) (by kernel_rfl) (fun _ _ _ h => h) (Or.inl ⟨by rfl, ?hyr5_27⟩) hS ?restr5_27
                    case hyr5_27 =>
                      intro w' hSw
                      obtain ⟨s0, s1, s2, s3⟩ := hSw
                      go_simp
                      try with_reducible rfl
                    try simp only [Act.put, List.setIfInBounds_toArray, List.set_cons_zero, List.set_cons_succ]
                    refine wpAnyT_take (i := 28) (oi := ⟨_, _, _, _, _, _⟩) (v := ?vr5_28) (by kernel_rfl) (by decide) rfl (by kernel_rfl) (by kernel_rfl) (by kernel_rfl) (fun _ _ _ h => h) (Or.inl ⟨by rfl, ?hyr5_28⟩) hS ?restr5_28
                    case hyr5_28 =>
                      intro w' hSw
                      obtain ⟨s0, s1, s2, s3⟩ := hSw
                      go_simp
                      try with_reducible rfl
                    try simp only [Act.put, List.setIfInBounds_toArray, List.set_cons_zero, List.set_cons_succ]
                    refine wpAnyT_take (i := 29) (oi := ⟨_, _, _, _, _, _⟩) (v := ?vr5_29) (by kernel_rfl) (by decide) rfl (by kernel_rfl) (by kernel_rfl) (by kernel_rfl) (fun _ _ _ h => h) (Or.inl ⟨by rfl, ?hyr5_29⟩) hS ?restr5_29
                    case hyr5_29 =>
                      intro w' hSw
                      obtain ⟨s0, s1, s2, s3⟩ := hSw
                      go_simp
                      try with_reducible rfl
                    try simp only [Act.put, List.setIfInBounds_toArray, List.set_cons_zero, List.set_cons_succ]
                    refine wpAnyT_take (i := 30) (oi := ⟨_, _, _, _, _, _⟩) (v := ?vr5_30) (by kernel_rfl) (by decide) rfl (by kernel_rfl) (by kernel_rfl) (by kernel_rfl) (fun _ _ _ h => h) (Or.inl ⟨by rfl, ?hyr5_30⟩) hS ?restr5_30
                    case hyr5_30 =>
                      intro w' hSw
                      obtain ⟨s0, s1, s2, s3⟩ := hSw
                      go_simp
                      try with_reducible rfl
                    try simp only [Act.put, List.setIfInBounds_toArray, List.set_cons_zero, List.set_cons_succ]
                    refine wpAnyT_take (i := 31) (oi := ⟨_, _, _, _, _, _⟩) (v := ?vr5_31) (by kernel_rfl) (by decide) rfl (by kernel_rfl) (by kernel_rfl) (by kernel_rfl) (fun _ _ _ h => h) (Or.inl ⟨by rfl, ?hyr5_31⟩) hS ?restr5_31
                    case hyr5_31 =>
                      intro w' hSw
                      obtain ⟨s0, s1, s2, s3⟩ := hSw
                      go_simp
                      try with_reducible rfl
                    try simp only [Act.put, List.setIfInBounds_toArray, List.set_cons_zero, List.set_cons_succ]
                    refine wpAnyT_take (i := 32) (oi := ⟨_, _, _, _, _, _⟩) (v := ?vr5_32) (by kernel_rfl) (by decide) rfl (by kernel_rfl) (by kernel_rfl) (by kernel_rfl) (fun _ _ _ h => h) (Or.inl ⟨by rfl, ?hyr5_32⟩) hS ?restr5_32
                    case hyr5_32 =>
                      intro w' hSw
                      obtain ⟨s0, s1, s2, s3⟩ := hSw
                      go_simp
                      try with_reducible rfl
                    try simp only [Act.put, List.setIfInBounds_toArray, List.set_cons_zero, List.set_cons_succ]
                    refine wpAnyT_take (i := 33) (oi := ⟨_, _, _, _, _, _⟩) (v := ?vr5_33) (by kernel_rfl) (by decide) rfl (by kernel_rfl) (by kernel_rfl) (by kernel_rfl) (fun _ _ _ h => h) (Or.inl ⟨by rfl, ?hyr5_33⟩) hS ?restr5_33
                    case hyr5_33 =>
                      intro w' hSw
                      obtain ⟨s0, s1, s2, s3⟩ := hSw
                      go_simp
                      try with_reducible rfl
                    try simp only [Act.put, List.setIfInBounds_toArray, List.set_cons_zero, List.set_cons_succ]
                    refine wpAnyT_take (i := 34) (oi := ⟨_, _, _, _, _, _⟩) (v := ?vr5_34) (by kernel_rfl) (by decide) rfl (by kernel_rfl) (by kernel_rfl) (by kernel_rfl) (fun _ _ _ h => h) (Or.inl ⟨by rfl, ?hyr5_34⟩) hS ?restr5_34
                    case hyr5_34 =>
                      intro w' hSw
                      obtain ⟨s0, s1, s2, s3⟩ := hSw
                      go_simp
                      try with_reducible rfl
                    try simp only [Act.put, List.setIfInBounds_toArray, List.set_cons_zero, List.set_cons_succ]
                    refine wpAnyT_ready1 (i := 35) (o := ⟨_, _, _, _, _, _⟩) (by kernel_rfl) rfl (fun K hK => ?_)
                    go_simp
                    go_at_call 83
                    refine (S_has _ _ _ st _ hpv5).mono ?_
                    rintro e w' ⟨rfl, rfl⟩
                    rw [HHP.out]
                    refine hK _ _ (fun _ => hS) ?_
                    try simp only [Act.put, List.setIfInBounds_toArray, List.set_cons_zero, List.set_cons_succ]
                    refine wpAnyT_take (i := 36) (oi := ⟨_, _, _, _, _, _⟩) (v := ?vr5_36) (by kernel_rfl) (by decide) rfl (by kernel_rfl) (by kernel_rfl) (by kernel_rfl) (fun _ _ _ h => h) (Or.inl ⟨by rfl, ?hyr5_36⟩) hS ?restr5_36
                    case hyr5_36 =>
                      intro w' hSw
                      obtain ⟨s0, s1, s2, s3⟩ := hSw
                      go_simp
                      try with_reducible rfl
                    try simp only [Act.put, List.setIfInBounds_toArray, List.set_cons_zero, List.set_cons_succ]
                    refine wpAnyT_take (i := 37) (oi := ⟨_, _, _, _, _, _⟩) (v := ?vr5_37) (by kernel_rfl) (by decide) rfl (by kernel_rfl) (by kernel_rfl) (by kernel_rfl) (fun _ _ _ h => h) (Or.inl ⟨by rfl, ?hyr5_37⟩) hS ?restr5_37
                    case hyr5_37 =>
                      intro w' hSw
                      obtain ⟨s0, s1, s2, s3⟩ := hSw
                      go_simp
                      try with_reducible rfl
                    try simp only [Act.put, List.setIfInBounds_toArray, List.set_cons_zero, List.set_cons_succ]
                    refine wpAnyT_take (i := 38) (oi := ⟨_, _, _, _, _, _⟩) (v := ?vr5_38) (by kernel_rfl) (by decide) rfl (by kernel_rfl) (by kernel_rfl) (by kernel_rfl) (fun _ _ _ h => h) (Or.inl ⟨by rfl, ?hyr5_38⟩) hS ?restr5_38
                    case hyr5_38 =>
                      intro w' hSw
                      obtain ⟨s0, s1, s2, s3⟩ := hSw
                      go_simp
                      try with_reducible rfl
                    try simp only [Act.put, List.setIfInBounds_toArray, List.set_cons_zero, List.set_cons_succ]
                    refine wpAnyT_take (i := 40) (oi := ⟨_, _, _, _, _, _⟩) (v := ?vr5_40) (by kernel_rfl) (by decide) rfl (by kernel_rfl) (by kernel_rfl) (by kernel_rfl) (fun _ _ _ h => h) (Or.inl ⟨by rfl, ?hyr5_40⟩) hS ?restr5_40
                    case hyr5_40 =>
                      intro w' hSw
                      obtain ⟨s0, s1, s2, s3⟩ := hSw
                      go_simp
                      try with_reducible rfl
                    try simp only [Act.put, List.setIfInBounds_toArray, List.set_cons_zero, List.set_cons_succ]
                    refine wpAnyT_take (i := 41) (oi := ⟨_, _, _, _, _, _⟩) (v := ?vr5_41) (by kernel_rfl) (by decide) rfl (by kernel_rfl) (by kernel_rfl) (by kernel_rfl) (fun _ _ _ h => h) (Or.inl ⟨by rfl, ?hyr5_41⟩) hS ?restr5_41
                    case hyr5_41 =>
                      intro w' hSw
                      obtain ⟨s0, s1, s2, s3⟩ := hSw
                      go_simp
                      try with_reducible rfl
                    try simp only [Act.put, List.setIfInBounds_toArray, List.set_cons_zero, List.set_cons_succ]
                    refine wpAnyT_ready1 (i := 39) (o := ⟨_, _, _, _, _, _⟩) (by kernel_rfl) rfl (fun K hK => ?_)
                    go_simp
                    go_at_call 82
                    refine (S_declared _ p (w.heap.size + 1) b 10 _ ⟨_, rfl, PRowX.blks hrow5⟩ (by omega) (by omega) (by omega) (Nat.le_trans (hwk.body b (by omega) (by omega)) (by omega))).mono ?_
                    rintro e wu ⟨v4, rfl, hi4, hbu⟩
                    have cP := cell_later hbu cP
                    have b2 := cell_later hbu b2
                    have q0 := cell_later hbu q0
                    have q1 := cell_later hbu q1
                    have q2 := cell_later hbu q2
                    have q3 := cell_later hbu q3
                    have hB5 := bthen hB5 hbu
                    have hrow5 := PRowX.keep hrow5 hbu
                    have hpv5 := hpv5.keep hbu
                    have hq5 := hq5.keep hbu
                    have hsz5 := Nat.lt_of_lt_of_le hsz5 hbu.size
                    have hS := And.intro cP (And.intro q0 (And.intro q1 b2))
                    refine hK _ _ (fun _ => hS) ?_
                    try simp only [Act.put, List.setIfInBounds_toArray, List.set_cons_zero, List.set_cons_succ]
                    refine wpAnyT_ready1 (i := 42) (o := ⟨_, _, _, _, _, _⟩) (by kernel_rfl) rfl (fun K hK => ?_)
                    go_simp
                    go_at_call 83
                    refine (S_has v4 _ _ st _ hi4).mono ?_
                    rintro e w' ⟨rfl, rfl⟩
                    rw [HHD.out]
                    refine hK _ _ (fun _ => hS) ?_
                    try simp only [Act.put, List.setIfInBounds_toArray, List.set_cons_zero, List.set_cons_succ]
                    refine wpAnyT_take (i := 43) (oi := ⟨_, _, _, _, _, _⟩) (v := ?vr5_43) (by kernel_rfl) (by decide) rfl (by kernel_rfl) (by kernel_rfl) (by kernel_rfl) (fun _ _ _ h => h) (Or.inl ⟨by rfl, ?hyr5_43⟩) hS ?restr5_43
                    case hyr5_43 =>
                      intro w' hSw
                      obtain ⟨s0, s1, s2, s3⟩ := hSw
                      go_simp
                      try with_reducible rfl
                    try simp only [Act.put, List.setIfInBounds_toArray, List.set_cons_zero, List.set_cons_succ]
                    refine wpAnyT_take (i := 44) (oi := ⟨_, _, _, _, _, _⟩) (v := ?vr5_44) (by kernel_rfl) (by decide) rfl (by kernel_rfl) (by kernel_rfl) (by kernel_rfl) (fun _ _ _ h => h) (Or.inl ⟨by rfl, ?hyr5_44⟩) hS ?restr5_44
                    case hyr5_44 =>
                      intro w' hSw
                      obtain ⟨s0, s1, s2, s3⟩ := hSw
                      go_simp
                      try with_reducible rfl
                    try simp only [Act.put, List.setIfInBounds_toArray, List.set_cons_zero, List.set_cons_succ]
                    refine wpAnyT_take (i := 45) (oi := ⟨_, _, _, _, _, _⟩) (v := ?vr5_45) (by kernel_rfl) (by decide) rfl (by kernel_rfl) (by kernel_rfl) (by kernel_rfl) (fun _ _ _ h => h) (Or.inl ⟨by rfl, ?hyr5_45⟩) hS ?restr5_45
                    case hyr5_45 =>
                      intro w' hSw
                      obtain ⟨s0, s1, s2, s3⟩ := hSw
                      go_simp
                      try with_reducible rfl
                    try simp only [Act.put, List.setIfInBounds_toArray, List.set_cons_zero, List.set_cons_succ]
                    refine wpAnyT_take (i := 46) (oi := ⟨_, _, _, _, _, _⟩) (v := ?vr5_46) (by kernel_rfl) (by decide) rfl (by kernel_rfl) (by kernel_rfl) (by kernel_rfl) (fun _ _ _ h => h) (Or.inl ⟨by rfl, ?hyr5_46⟩) hS ?restr5_46
                    case hyr5_46 =>
                      intro w' hSw
                      obtain ⟨s0, s1, s2, s3⟩ := hSw
                      go_simp
                      try with_reducible rfl
                    try simp only [Act.put, List.setIfInBounds_toArray, List.set_cons_zero, List.set_cons_succ]
                    refine wpAnyT_done (by kernel_rfl) ?_ _
                    all_goals
                      go_wp2
                      go_roundw
                      case rel => exact ⟨j + 1, l, by omega, by go_num, hq5, by omega, HLT2.out, hB5⟩
                      case measure => simp [intOf]; omega
                · have HHP := Lib.hid hhp
                  clear hhp
                  go_wp2
                  have hS := And.intro cP (And.intro q0 (And.intro q1 b2))
                  refine wp_region_T 47 (by kernel_rfl) (fun w' => w'.cell? ⟨PB, 0, none⟩ = some (.slice (some ⟨ga, 0, none⟩) n0 Cp) ∧ w'.cell? ⟨wr.heap.size, 0, none⟩ = some (.int .i64 9) ∧ w'.cell? ⟨wr.heap.size, 1, none⟩ = some (.int .i64 st) ∧ w'.cell? ⟨ga, b * 4 + 2, none⟩ = some (.slice A2 ps.length C2)) ?_
                  refine wpAnyT_take (i := 0) (oi := ⟨_, _, _, _, _, _⟩) (v := ?vr6_0) (by kernel_rfl) (by decide) rfl (by kernel_rfl) (by kernel_rfl) (by kernel_rfl) (fun _ _ _ h => h) (Or.inl ⟨by rfl, ?hyr6_0⟩) hS ?restr6_0
                  case hyr6_0 =>
                    intro w' hSw
                    obtain ⟨s0, s1, s2, s3⟩ := hSw
                    go_simp
                    try with_reducible rfl
                  try simp only [Act.put, List.setIfInBounds_toArray, List.set_cons_zero, List.set_cons_succ]
                  refine wpAnyT_take (i := 1) (oi := ⟨_, _, _, _, _, _⟩) (v := ?vr6_1) (by kernel_rfl) (by decide) rfl (by kernel_rfl) (by kernel_rfl) (by kernel_rfl) (fun _ _ _ h => h) (Or.inl ⟨by rfl, ?hyr6_1⟩) hS ?restr6_1
                  case hyr6_1 =>
                    intro w' hSw
                    obtain ⟨s0, s1, s2, s3⟩ := hSw
                    go_simp
                    try with_reducible rfl
                  try simp only [Act.put, List.setIfInBounds_toArray, List.set_cons_zero, List.set_cons_succ]
                  refine wpAnyT_take (i := 2) (oi := ⟨_, _, _, _, _, _⟩) (v := ?vr6_2) (by kernel_rfl) (by decide) rfl (by kernel_rfl) (by kernel_rfl) (by kernel_rfl) (fun _ _ _ h => h) (Or.inl ⟨by rfl, ?hyr6_2⟩) hS ?restr6_2
                  case hyr6_2 =>
                    intro w' hSw
                    obtain ⟨s0, s1, s2, s3⟩ := hSw
                    go_simp
                    try with_reducible rfl
                  try simp only [Act.put, List.setIfInBounds_toArray, List.set_cons_zero, List.set_cons_succ]
                  refine wpAnyT_take (i := 3) (oi := ⟨_, _, _, _, _, _⟩) (v := ?vr6_3) (by kernel_rfl) (by decide) rfl (by kernel_rfl) (by kernel_rfl) (by kernel_rfl) (fun _ _ _ h => h) (Or.inl ⟨by rfl, ?hyr6_3⟩) hS ?restr6_3
                  case hyr6_3 =>
                    intro w' hSw
                    obtain ⟨s0, s1, s2, s3⟩ := hSw
                    go_simp
                    try with_reducible rfl
                  try simp only [Act.put, List.setIfInBounds_toArray, List.set_cons_zero, List.set_cons_succ]
                  refine wpAnyT_take (i := 4) (oi := ⟨_, _, _, _, _, _⟩) (v := undef) (by kernel_rfl) (by decide) rfl (by kernel_rfl) (by kernel_rfl) (by kernel_rfl) (fun _ _ _ h => h) (Or.inr ⟨by rfl, rfl⟩) hS ?restr6_4
                  try simp only [Act.put, List.setIfInBounds_toArray, List.set_cons_zero, List.set_cons_succ]
                  refine wpAnyT_take (i := 5) (oi := ⟨_, _, _, _, _, _⟩) (v := undef) (by kernel_rfl) (by decide) rfl (by kernel_rfl) (by kernel_rfl) (by kernel_rfl) (fun _ _ _ h => h) (Or.inr ⟨by rfl, rfl⟩) hS ?restr6_5
                  try simp only [Act.put, List.setIfInBounds_toArray, List.set_cons_zero, List.set_cons_succ]
                  refine wpAnyT_take (i := 6) (oi := ⟨_, _, _, _, _, _⟩) (v := undef) (by kernel_rfl) (by decide) rfl (by kernel_rfl) (by kernel_rfl) (by kernel_rfl) (fun _ _ _ h => h) (Or.inr ⟨by rfl, rfl⟩) hS ?restr6_6
                  try simp only [Act.put, List.setIfInBounds_toArray, List.set_cons_zero, List.set_cons_succ]
                  refine wpAnyT_take (i := 7) (oi := ⟨_, _, _, _, _, _⟩) (v := undef) (by kernel_rfl) (by decide) rfl (by kernel_rfl) (by kernel_rfl) (by kernel_rfl) (fun _ _ _ h => h) (Or.inr ⟨by rfl, rfl⟩) hS ?restr6_7
                  try simp only [Act.put, List.setIfInBounds_toArray, List.set_cons_zero, List.set_cons_succ]
                  refine wpAnyT_ready1 (i := 8) (o := ⟨_, _, _, _, _, _⟩) (by kernel_rfl) rfl (fun K hK => ?_)
                  go_simp
                  refine hK _ _ (fun _ => hS) ?_
                  try simp only [Act.put, List.setIfInBounds_toArray, List.set_cons_zero, List.set_cons_succ]
                  refine wpAnyT_take (i := 9) (oi := ⟨_, _, _, _, _, _⟩) (v := undef) (by kernel_rfl) (by decide) rfl (by kernel_rfl) (by kernel_rfl) (by kernel_rfl) (fun _ _ _ h => h) (Or.inr ⟨by rfl, rfl⟩) hS ?restr6_9
                  try simp only [Act.put, List.setIfInBounds_toArray, List.set_cons_zero, List.set_cons_succ]
                  refine wpAnyT_take (i := 10) (oi := ⟨_, _, _, _, _, _⟩) (v := undef) (by kernel_rfl) (by decide) rfl (by kernel_rfl) (by kernel_rfl) (by kernel_rfl) (fun _ _ _ h => h) (Or.inr ⟨by rfl, rfl⟩) hS ?restr6_10
                  try simp only [Act.put, List.setIfInBounds_toArray, List.set_cons_zero, List.set_cons_succ]
                  refine wpAnyT_take (i := 11) (oi := ⟨_, _, _, _, _, _⟩) (v := undef) (by kernel_rfl) (by decide) rfl (by kernel_rfl) (by kernel_rfl) (by kernel_rfl) (fun _ _ _ h => h) (Or.inr ⟨by rfl, rfl⟩) hS ?restr6_11
                  try simp only [Act.put, List.setIfInBounds_toArray, List.set_cons_zero, List.set_cons_succ]
                  refine wpAnyT_take (i := 12) (oi := ⟨_, _, _, _, _, _⟩) (v := undef) (by kernel_rfl) (by decide) rfl (by kernel_rfl) (by kernel_rfl) (by kernel_rfl) (fun _ _ _ h => h) (Or.inr ⟨by rfl, rfl⟩) hS ?restr6_12
                  try simp only [Act.put, List.setIfInBounds_toArray, List.set_cons_zero, List.set_cons_succ]
                  refine wpAnyT_take (i := 13) (oi := ⟨_, _, _, _, _, _⟩) (v := undef) (by kernel_rfl) (by decide) rfl (by kernel_rfl) (by kernel_rfl) (by kernel_rfl) (fun _ _ _ h => h) (Or.inr ⟨by rfl, rfl⟩) hS ?restr6_13
                  try simp only [Act.put, List.setIfInBounds_toArray, List.set_cons_zero, List.set_cons_succ]
                  refine wpAnyT_take (i := 14) (oi := ⟨_, _, _, _, _, _⟩) (v := undef) (by kernel_rfl) (by decide) rfl (by kernel_rfl) (by kernel_rfl) (by kernel_rfl) (fun _ _ _ h => h) (Or.inr ⟨by rfl, rfl⟩) hS ?restr6_14
                  try simp only [Act.put, List.setIfInBounds_toArray, List.set_cons_zero, List.set_cons_succ]
                  refine wpAnyT_take (i := 15) (oi := ⟨_, _, _, _, _, _⟩) (v := undef) (by kernel_rfl) (by decide) rfl (by kernel_rfl) (by kernel_rfl) (by kernel_rfl) (fun _ _ _ h => h) (Or.inr ⟨by rfl, rfl⟩) hS ?restr6_15
                  try simp only [Act.put, List.setIfInBounds_toArray, List.set_cons_zero, List.set_cons_succ]
                  refine wpAnyT_take (i := 16) (oi := ⟨_, _, _, _, _, _⟩) (v := undef) (by kernel_rfl) (by decide) rfl (by kernel_rfl) (by kernel_rfl) (by kernel_rfl) (fun _ _ _ h => h) (Or.inr ⟨by rfl, rfl⟩) hS ?restr6_16
                  try simp only [Act.put, List.setIfInBounds_toArray, List.set_cons_zero, List.set_cons_succ]
                  refine wpAnyT_take (i := 17) (oi := ⟨_, _, _, _, _, _⟩) (v := undef) (by kernel_rfl) (by decide) rfl (by kernel_rfl) (by kernel_rfl) (by kernel_rfl) (fun _ _ _ h => h) (Or.inr ⟨by rfl, rfl⟩) hS ?restr6_17
                  try simp only [Act.put, List.setIfInBounds_toArray, List.set_cons_zero, List.set_cons_succ]
                  refine wpAnyT_take (i := 18) (oi := ⟨_, _, _, _, _, _⟩) (v := undef) (by kernel_rfl) (by decide) rfl (by kernel_rfl) (by kernel_rfl) (by kernel_rfl) (fun _ _ _ h => h) (Or.inr ⟨by rfl, rfl⟩) hS ?restr6_18
                  try simp only [Act.put, List.setIfInBounds_toArray, List.set_cons_zero, List.set_cons_succ]
                  refine wpAnyT_ready1 (i := 19) (o := ⟨_, _, _, _, _, _⟩) (by kernel_rfl) rfl (fun K hK => ?_)
                  go_simp
                  refine hK _ _ (fun _ => hS) ?_
                  try simp only [Act.put, List.setIfInBounds_toArray, List.set_cons_zero, List.set_cons_succ]
                  refine wpAnyT_take (i := 20) (oi := ⟨_, _, _, _, _, _⟩) (v := undef) (by kernel_rfl) (by decide) rfl (by kernel_rfl) (by kernel_rfl) (by kernel_rfl) (fun _ _ _ h => h) (Or.inr ⟨by rfl, rfl⟩) hS ?restr6_20
                  try simp only [Act.put, List.setIfInBounds_toArray, List.set_cons_zero, List.set_cons_succ]
                  refine wpAnyT_take (i := 21) (oi := ⟨_, _, _, _, _, _⟩) (v := ?vr6_21) (by kernel_rfl) (by decide) rfl (by kernel_rfl) (by kernel_rfl) (by kernel_rfl) (fun _ _ _ h => h) (Or.inl ⟨by rfl, ?hyr6_21⟩) hS ?restr6_21
                  case hyr6_21 =>
                    intro w' hSw
                    obtain ⟨s0, s1, s2, s3⟩ := hSw
                    go_simp
                    try with_reducible rfl
                  try simp only [Act.put, List.setIfInBounds_toArray, List.set_cons_zero, List.set_cons_succ]
                  refine wpAnyT_take (i := 22) (oi := ⟨_, _, _, _, _, _⟩) (v := ?vr6_22) (by kernel_rfl) (by decide) rfl (by kernel_rfl) (by kernel_rfl) (by kernel_rfl) (fun _ _ _ h => h) (Or.inl ⟨by rfl, ?hyr6_22⟩) hS ?restr6_22
                  case hyr6_22 =>
                    intro w' hSw
                    obtain ⟨s0, s1, s2, s3⟩ := hSw
                    go_simp
                    try with_reducible rfl
                  try simp only [Act.put, List.setIfInBounds_toArray, List.set_cons_zero, List.set_cons_succ]
                  refine wpAnyT_take (i := 23) (oi := ⟨_, _, _, _, _, _⟩) (v := ?vr6_23) (by kernel_rfl) (by decide) rfl (by kernel_rfl) (by kernel_rfl) (by kernel_rfl) (fun _ _ _ h => h) (Or.inl ⟨by rfl, ?hyr6_23⟩) hS ?restr6_23
                  case hyr6_23 =>
                    intro w' hSw
                    obtain ⟨s0, s1, s2, s3⟩ := hSw
                    go_simp
                    try with_reducible rfl
                  try simp only [Act.put, List.setIfInBounds_toArray, List.set_cons_zero, List.set_cons_succ]
                  refine wpAnyT_take (i := 24) (oi := ⟨_, _, _, _, _, _⟩) (v := ?vr6_24) (by kernel_rfl) (by decide) rfl (by kernel_rfl) (by kernel_rfl) (by kernel_rfl) (fun _ _ _ h => h) (Or.inl ⟨by rfl, ?hyr6_24⟩) hS ?restr6_24
                  case hyr6_24 =>
                    intro w' hSw
                    obtain ⟨s0, s1, s2, s3⟩ := hSw
                    go_simp
                    try with_reducible rfl
                  try simp only [Act.put, List.setIfInBounds_toArray, List.set_cons_zero, List.set_cons_succ]
                  refine wpAnyT_take (i := 25) (oi := ⟨_, _, _, _, _, _⟩) (v := ?vr6_25) (by kernel_rfl) (by decide) rfl (by kernel_rfl) (by kernel_rfl) (by kernel_rfl) (fun _ _ _ h => h) (Or.inl ⟨by rfl, ?hyr6_25⟩) hS ?restr6_25
                  case hyr6_25 =>
                    intro w' hSw
                    obtain ⟨s0, s1, s2, s3⟩ := hSw
                    go_simp
                    try with_reducible rfl
                  try simp only [Act.put, List.setIfInBounds_toArray, List.set_cons_zero, List.set_cons_succ]
                  refine wpAnyT_take (i := 26) (oi := ⟨_, _, _, _, _, _⟩) (v := ?vr6_26) (by kernel_rfl) (by decide) rfl (by kernel_rfl) (by kernel_rfl) (by kernel_rfl) (fun _ _ _ h => h) (Or.inl ⟨by rfl, ?hyr6_26⟩) hS ?restr6_26
                  case hyr6_26 =>
                    intro w' hSw
                    obtain ⟨s0, s1, s2, s3⟩ := hSw
                    go_simp
                    try with_reducible rfl
                  try simp only [Act.put, List.setIfInBounds_toArray, List.set_cons_zero, List.set_cons_succ]
                  refine wpAnyT_take (i := 27) (oi := ⟨_, _, _, _, _, _⟩) (v := ?vr6_27) (by kernel_rfl) (by decide) rfl (by kernel_rfl) (by kernel_rfl) (by kernel_rfl) (fun _ _ _ h => h) (Or.inl ⟨by rfl, ?hyr6_27⟩) hS ?restr6_27
                  case hyr6_27 =>
                    intro w' hSw
                    obtain ⟨s0, s1, s2, s3⟩ := hSw
                    go_simp
                    try with_reducible rfl
                  try simp only [Act.put, List.setIfInBounds_toArray, List.set_cons_zero, List.set_cons_succ]
                  refine wpAnyT_take (i := 28) (oi := ⟨_, _, _, _, _, _⟩) (v := ?vr6_28) (by kernel_rfl) (by decide) rfl (by kernel_rfl) (by kernel_rfl) (by kernel_rfl) (fun _ _ _ h => h) (Or.inl ⟨by rfl, ?hyr6_28⟩) hS ?restr6_28
                  case hyr6_28 =>
                    intro w' hSw
                    obtain ⟨s0, s1, s2, s3⟩ := hSw
                    go_simp
                    try with_reducible rfl
                  try simp only [Act.put, List.setIfInBounds_toArray, List.set_cons_zero, List.set_cons_succ]
                  refine wpAnyT_take (i := 29) (oi := ⟨_, _, _, _, _, _⟩) (v := ?vr6_29) (by kernel_rfl) (by decide) rfl (by kernel_rfl) (by kernel_rfl) (by kernel_rfl) (fun _ _ _ h => h) (Or.inl ⟨by rfl, ?hyr6_29⟩) hS ?restr6_29
                  case hyr6_29 =>
                    intro w' hSw
                    obtain ⟨s0, s1, s2, s3⟩ := hSw
                    go_simp
                    try with_reducible rfl
                  try simp only [Act.put, List.setIfInBounds_toArray, List.set_cons_zero, List.set_cons_succ]
                  refine wpAnyT_take (i := 30) (oi := ⟨_, _, _, _, _, _⟩) (v := ?vr6_30) (by kernel_rfl) (by decide) rfl (by kernel_rfl) (by kernel_rfl) (by kernel_rfl) (fun _ _ _ h => h) (Or.inl ⟨by rfl, ?hyr6_30⟩) hS ?restr6_30
                  case hyr6_30 =>
                    intro w' hSw
                    obtain ⟨s0, s1, s2, s3⟩ := hSw
                    go_simp
                    try with_reducible rfl
                  try simp only [Act.put, List.setIfInBounds_toArray, List.set_cons_zero, List.set_cons_succ]
                  refine wpAnyT_take (i := 31) (oi := ⟨_, _, _, _, _, _⟩) (v := ?vr6_31) (by kernel_rfl) (by decide) rfl (by kernel_rfl) (by kernel_rfl) (by kernel_rfl) (fun _ _ _ h => h) (Or.inl ⟨by rfl, ?hyr6_31⟩) hS ?restr6_31
                  case hyr6_31 =>
                    intro w' hSw
                    obtain ⟨s0, s1, s2, s3⟩ := hSw
                    go_simp
                    try with_reducible rfl
                  try simp only [Act.put, List.setIfInBounds_toArray, List.set_cons_zero, List.set_cons_succ]
                  refine wpAnyT_take (i := 32) (oi := ⟨_, _, _, _, _, _⟩) (v := ?vr6_32) (by kernel_rfl) (by decide) rfl (by kernel_rfl) (by kernel_rfl) (by kernel_rfl) (fun _ _ _ h => h) (Or.inl ⟨by rfl, ?hyr6_32⟩) hS ?restr6_32
                  case hyr6_32 =>
                    intro w' hSw
                    obtain ⟨s0, s1, s2, s3⟩ := hSw
                    go_simp
                    try with_reducible rfl
                  try simp only [Act.put, List.setIfInBounds_toArray, List.set_cons_zero, List.set_cons_succ]
                  refine wpAnyT_take (i := 33) (oi := ⟨_, _, _, _, _, _⟩) (v := ?vr6_33) (by kernel_rfl) (by decide) rfl (by kernel_rfl) (by kernel_rfl) (by kernel_rfl) (fun _ _ _ h => h) (Or.inl ⟨by rfl, ?hyr6_33⟩) hS ?restr6_33
                  case hyr6_33 =>
                    intro w' hSw
                    obtain ⟨s0, s1, s2, s3⟩ := hSw
                    go_simp
                    try with_reducible rfl
                  try simp only [Act.put, List.setIfInBounds_toArray, List.set_cons_zero, List.set_cons_succ]
                  refine wpAnyT_take (i := 34) (oi := ⟨_, _, _, _, _, _⟩) (v := ?vr6_34) (by kernel_rfl) (by decide) rfl (by kernel_rfl) (by kernel_rfl) (by kernel_rfl) (fun _ _ _ h => h) (Or.inl ⟨by rfl, ?hyr6_34⟩) hS ?restr6_34
                  case hyr6_34 =>
                    intro w' hSw
                    obtain ⟨s0, s1, s2, s3⟩ := hSw
                    go_simp
                    try with_reducible rfl
                  try simp only [Act.put, List.setIfInBounds_toArray, List.set_cons_zero, List.set_cons_succ]
                  refine wpAnyT_ready1 (i := 35) (o := ⟨_, _, _, _, _, _⟩) (by kernel_rfl) rfl (fun K hK => ?_)
                  go_simp
                  go_at_call 83
                  refine (S_has _ _ _ st _ hpv5).mono ?_
                  rintro e w' ⟨rfl, rfl⟩
                  rw [HHP.out]
                  refine hK _ _ (fun _ => hS) ?_
                  try simp only [Act.put, List.setIfInBounds_toArray, List.set_cons_zero, List.set_cons_succ]
                  refine wpAnyT_take (i := 36) (oi := ⟨_, _, _, _, _, _⟩) (v := ?vr6_36) (by kernel_rfl) (by decide) rfl (by kernel_rfl) (by kernel_rfl) (by kernel_rfl) (fun _ _ _ h => h) (Or.inl ⟨by rfl, ?hyr6_36⟩) hS ?restr6_36
                  case hyr6_36 =>
                    intro w' hSw
                    obtain ⟨s0, s1, s2, s3⟩ := hSw
                    go_simp
                    try with_reducible rfl
                  try simp only [Act.put, List.setIfInBounds_toArray, List.set_cons_zero, List.set_cons_succ]
                  refine wpAnyT_take (i := 37) (oi := ⟨_, _, _, _, _, _⟩) (v := undef) (by kernel_rfl) (by decide) rfl (by kernel_rfl) (by kernel_rfl) (by kernel_rfl) (fun _ _ _ h => h) (Or.inr ⟨by rfl, rfl⟩) hS ?restr6_37
                  try simp only [Act.put, List.setIfInBounds_toArray, List.set_cons_zero, List.set_cons_succ]
                  refine wpAnyT_take (i := 38) (oi := ⟨_, _, _, _, _, _⟩) (v := undef) (by kernel_rfl) (by decide) rfl (by kernel_rfl) (by kernel_rfl) (by kernel_rfl) (fun _ _ _ h => h) (Or.inr ⟨by rfl, rfl⟩) hS ?restr6_38
                  try simp only [Act.put, List.setIfInBounds_toArray, List.set_cons_zero, List.set_cons_succ]
                  refine wpAnyT_take (i := 40) (oi := ⟨_, _, _, _, _, _⟩) (v := undef) (by kernel_rfl) (by decide) rfl (by kernel_rfl) (by kernel_rfl) (by kernel_rfl) (fun _ _ _ h => h) (Or.inr ⟨by rfl, rfl⟩) hS ?restr6_40
                  try simp only [Act.put, List.setIfInBounds_toArray, List.set_cons_zero, List.set_cons_succ]
                  refine wpAnyT_take (i := 41) (oi := ⟨_, _, _, _, _, _⟩) (v := undef) (by kernel_rfl) (by decide) rfl (by kernel_rfl) (by kernel_rfl) (by kernel_rfl) (fun _ _ _ h => h) (Or.inr ⟨by rfl, rfl⟩) hS ?restr6_41
                  try simp only [Act.put, List.setIfInBounds_toArray, List.set_cons_zero, List.set_cons_succ]
                  refine wpAnyT_ready1 (i := 39) (o := ⟨_, _, _, _, _, _⟩) (by kernel_rfl) rfl (fun K hK => ?_)
                  go_simp
                  refine hK _ _ (fun _ => hS) ?_
                  try simp only [Act.put, List.setIfInBounds_toArray, List.set_cons_zero, List.set_cons_succ]
                  refine wpAnyT_ready1 (i := 42) (o := ⟨_, _, _, _, _, _⟩) (by kernel_rfl) rfl (fun K hK => ?_)
                  go_simp
                  refine hK _ _ (fun _ => hS) ?_
                  try simp only [Act.put, List.setIfInBounds_toArray, List.set_cons_zero, List.set_cons_succ]
                  refine wpAnyT_take (i := 43) (oi := ⟨_, _, _, _, _, _⟩) (v := ?vr6_43) (by kernel_rfl) (by decide) rfl (by kernel_rfl) (by kernel_rfl) (by kernel_rfl) (fun _ _ _ h => h) (Or.inl ⟨by rfl, ?hyr6_43⟩) hS ?restr6_43
                  case hyr6_43 =>
                    intro w' hSw
                    obtain ⟨s0, s1, s2, s3⟩ := hSw
                    go_simp
                    try with_reducible rfl
                  try simp only [Act.put, List.setIfInBounds_toArray, List.set_cons_zero, List.set_cons_succ]
                  refine wpAnyT_take (i := 44) (oi := ⟨_, _, _, _, _, _⟩) (v := ?vr6_44) (by kernel_rfl) (by decide) rfl (by kernel_rfl) (by kernel_rfl) (by kernel_rfl) (fun _ _ _ h => h) (Or.inl ⟨by rfl, ?hyr6_44⟩) hS ?restr6_44
                  case hyr6_44 =>
                    intro w' hSw
                    obtain ⟨s0, s1, s2, s3⟩ := hSw
                    go_simp
                    try with_reducible rfl
                  try simp only [Act.put, List.setIfInBounds_toArray, List.set_cons_zero, List.set_cons_succ]
                  refine wpAnyT_take (i := 45) (oi := ⟨_, _, _, _, _, _⟩) (v := ?vr6_45) (by kernel_rfl) (by decide) rfl (by kernel_rfl) (by kernel_rfl) (by kernel_rfl) (fun _ _ _ h => h) (Or.inl ⟨by rfl, ?hyr6_45⟩) hS ?restr6_45
                  case hyr6_45 =>
                    intro w' hSw
                    obtain ⟨s0, s1, s2, s3⟩ := hSw
                    go_simp
                    try with_reducible rfl
                  try simp only [Act.put, List.setIfInBounds_toArray, List.set_cons_zero, List.set_cons_succ]
                  refine wpAnyT_take (i := 46) (oi := ⟨_, _, _, _, _, _⟩) (v := ?vr6_46) (by kernel_rfl) (by decide) rfl (by kernel_rfl) (by kernel_rfl) (by kernel_rfl) (fun _ _ _ h => h) (Or.inl ⟨by rfl, ?hyr6_46⟩) hS ?restr6_46
                  case hyr6_46 =>
                    intro w' hSw
                    obtain ⟨s0, s1, s2, s3⟩ := hSw
                    go_simp
                    try with_reducible rfl
                  try simp only [Act.put, List.setIfInBounds_toArray, List.set_cons_zero, List.set_cons_succ]
                  refine wpAnyT_done (by kernel_rfl) ?_ _
                  all_goals
                    go_wp2
                    go_roundw
                    case rel => exact ⟨j + 1, l, by omega, by go_num, hq5, by omega, HLT2.out, hB5⟩
                    case measure => simp [intOf]; omega
              · have h9b : (sk == 9) = false := by rw [beq_eq_false_iff_ne]; exact hk9
                go_wp2
                have hS := And.intro cP (And.intro q0 (And.intro q1 b2))
                refine wp_region_T 47 (by kernel_rfl) (fun w' => w'.cell? ⟨PB, 0, none⟩ = some (.slice (some ⟨ga, 0, none⟩) n0 Cp) ∧ w'.cell? ⟨wr.heap.size, 0, none⟩ = some (.int .i64 sk) ∧ w'.cell? ⟨wr.heap.size, 1, none⟩ = some (.int .i64 st) ∧ w'.cell? ⟨ga, b * 4 + 2, none⟩ = some (.slice A2 ps.length C2)) ?_
                refine wpAnyT_take (i := 0) (oi := ⟨_, _, _, _, _, _⟩) (v := ?vr7_0) (by kernel_rfl) (by decide) rfl (by kernel_rfl) (by kernel_rfl) (by kernel_rfl) (fun _ _ _ h => h) (Or.inl ⟨by rfl, ?hyr7_0⟩) hS ?restr7_0
                case hyr7_0 =>
                  intro w' hSw
                  obtain ⟨s0, s1, s2, s3⟩ := hSw
                  go_simp
                  try with_reducible rfl
                try simp only [Act.put, List.setIfInBounds_toArray, List.set_cons_zero, List.set_cons_succ]
                refine wpAnyT_take (i := 1) (oi := ⟨_, _, _, _, _, _⟩) (v := ?vr7_1) (by kernel_rfl) (by decide) rfl (by kernel_rfl) (by kernel_rfl) (by kernel_rfl) (fun _ _ _ h => h) (Or.inl ⟨by rfl, ?hyr7_1⟩) hS ?restr7_1
                case hyr7_1 =>
                  intro w' hSw
                  obtain ⟨s0, s1, s2, s3⟩ := hSw
                  go_simp
                  try with_reducible rfl
                try simp only [Act.put, List.setIfInBounds_toArray, List.set_cons_zero, List.set_cons_succ]
                refine wpAnyT_take (i := 2) (oi := ⟨_, _, _, _, _, _⟩) (v := ?vr7_2) (by kernel_rfl) (by decide) rfl (by kernel_rfl) (by kernel_rfl) (by kernel_rfl) (fun _ _ _ h => h) (Or.inl ⟨by rfl, ?hyr7_2⟩) hS ?restr7_2
                case hyr7_2 =>
                  intro w' hSw
                  obtain ⟨s0, s1, s2, s3⟩ := hSw
                  go_simp
                  try with_reducible rfl
                try simp only [Act.put, List.setIfInBounds_toArray, List.set_cons_zero, List.set_cons_succ]
                refine wpAnyT_take (i := 3) (oi := ⟨_, _, _, _, _, _⟩) (v := ?vr7_3) (by kernel_rfl) (by decide) rfl (by kernel_rfl) (by kernel_rfl) (by kernel_rfl) (fun _ _ _ h => h) (Or.inl ⟨by rfl, ?hyr7_3⟩) hS ?restr7_3
                case hyr7_3 =>
                  intro w' hSw
                  obtain ⟨s0, s1, s2, s3⟩ := hSw
                  go_simp
                  try with_reducible rfl
                try simp only [Act.put, List.setIfInBounds_toArray, List.set_cons_zero, List.set_cons_succ]
                refine wpAnyT_take (i := 4) (oi := ⟨_, _, _, _, _, _⟩) (v := undef) (by kernel_rfl) (by decide) rfl (by kernel_rfl) (by kernel_rfl) (by kernel_rfl) (fun _ _ _ h => h) (Or.inr ⟨by rfl, rfl⟩) hS ?restr7_4
                try simp only [Act.put, List.setIfInBounds_toArray, List.set_cons_zero, List.set_cons_succ]
                refine wpAnyT_take (i := 5) (oi := ⟨_, _, _, _, _, _⟩) (v := undef) (by kernel_rfl) (by decide) rfl (by kernel_rfl) (by kernel_rfl) (by kernel_rfl) (fun _ _ _ h => h) (Or.inr ⟨by rfl, rfl⟩) hS ?restr7_5
                try simp only [Act.put, List.setIfInBounds_toArray, List.set_cons_zero, List.set_cons_succ]
                refine wpAnyT_take (i := 6) (oi := ⟨_, _, _, _, _, _⟩) (v := undef) (by kernel_rfl) (by decide) rfl (by kernel_rfl) (by kernel_rfl) (by kernel_rfl) (fun _ _ _ h => h) (Or.inr ⟨by rfl, rfl⟩) hS ?restr7_6
                try simp only [Act.put, List.setIfInBounds_toArray, List.set_cons_zero, List.set_cons_succ]
                refine wpAnyT_take (i := 7) (oi := ⟨_, _, _, _, _, _⟩) (v := undef) (by kernel_rfl) (by decide) rfl (by kernel_rfl) (by kernel_rfl) (by kernel_rfl) (fun _ _ _ h => h) (Or.inr ⟨by rfl, rfl⟩) hS ?restr7_7
                try simp only [Act.put, List.setIfInBounds_toArray, List.set_cons_zero, List.set_cons_succ]
                refine wpAnyT_ready1 (i := 8) (o := ⟨_, _, _, _, _, _⟩) (by kernel_rfl) rfl (fun K hK => ?_)
                go_simp
                refine hK _ _ (fun _ => hS) ?_
                try simp only [Act.put, List.setIfInBounds_toArray, List.set_cons_zero, List.set_cons_succ]
                refine wpAnyT_take (i := 9) (oi := ⟨_, _, _, _, _, _⟩) (v := undef) (by kernel_rfl) (by decide) rfl (by kernel_rfl) (by kernel_rfl) (by kernel_rfl) (fun _ _ _ h => h) (Or.inr ⟨by rfl, rfl⟩) hS ?restr7_9
                try simp only [Act.put, List.setIfInBounds_toArray, List.set_cons_zero, List.set_cons_succ]
                refine wpAnyT_take (i := 10) (oi := ⟨_, _, _, _, _, _⟩) (v := undef) (by kernel_rfl) (by decide) rfl (by kernel_rfl) (by kernel_rfl) (by kernel_rfl) (fun _ _ _ h => h) (Or.inr ⟨by rfl, rfl⟩) hS ?restr7_10
                try simp only [Act.put, List.setIfInBounds_toArray, List.set_cons_zero, List.set_cons_succ]
                refine wpAnyT_take (i := 11) (oi := ⟨_, _, _, _, _, _⟩) (v := undef) (by kernel_rfl) (by decide) rfl (by kernel_rfl) (by kernel_rfl) (by kernel_rfl) (fun _ _ _ h => h) (Or.inr ⟨by rfl, rfl⟩) hS ?restr7_11
                try simp only [Act.put, List.setIfInBounds_toArray, List.set_cons_zero, List.set_cons_succ]
                refine wpAnyT_take (i := 12) (oi := ⟨_, _, _, _, _, _⟩) (v := undef) (by kernel_rfl) (by decide) rfl (by kernel_rfl) (by kernel_rfl) (by kernel_rfl) (fun _ _ _ h => h) (Or.inr ⟨by rfl, rfl⟩) hS ?restr7_12
                try simp only [Act.put, List.setIfInBounds_toArray, List.set_cons_zero, List.set_cons_succ]
                refine wpAnyT_take (i := 13) (oi := ⟨_, _, _, _, _, _⟩) (v := undef) (by kernel_rfl) (by decide) rfl (by kernel_rfl) (by kernel_rfl) (by kernel_rfl) (fun _ _ _ h => h) (Or.inr ⟨by rfl, rfl⟩) hS ?restr7_13
                try simp only [Act.put, List.setIfInBounds_toArray, List.set_cons_zero, List.set_cons_succ]
                refine wpAnyT_take (i := 14) (oi := ⟨_, _, _, _, _, _⟩) (v := undef) (by kernel_rfl) (by decide) rfl (by kernel_rfl) (by kernel_rfl) (by kernel_rfl) (fun _ _ _ h => h) (Or.inr ⟨by rfl, rfl⟩) hS ?restr7_14
                try simp only [Act.put, List.setIfInBounds_toArray, List.set_cons_zero, List.set_cons_succ]
                refine wpAnyT_take (i := 15) (oi := ⟨_, _, _, _, _, _⟩) (v := undef) (by kernel_rfl) (by decide) rfl (by kernel_rfl) (by kernel_rfl) (by kernel_rfl) (fun _ _ _ h => h) (Or.inr ⟨by rfl, rfl⟩) hS ?restr7_15
                try simp only [Act.put, List.setIfInBounds_toArray, List.set_cons_zero, List.set_cons_succ]
                refine wpAnyT_take (i := 16) (oi := ⟨_, _, _, _, _, _⟩) (v := undef) (by kernel_rfl) (by decide) rfl (by kernel_rfl) (by kernel_rfl) (by kernel_rfl) (fun _ _ _ h => h) (Or.inr ⟨by rfl, rfl⟩) hS ?restr7_16
                try simp only [Act.put, List.setIfInBounds_toArray, List.set_cons_zero, List.set_cons_succ]
                refine wpAnyT_take (i := 17) (oi := ⟨_, _, _, _, _, _⟩) (v := undef) (by kernel_rfl) (by decide) rfl (by kernel_rfl) (by kernel_rfl) (by kernel_rfl) (fun _ _ _ h => h) (Or.inr ⟨by rfl, rfl⟩) hS ?restr7_17
                try simp only [Act.put, List.setIfInBounds_toArray, List.set_cons_zero, List.set_cons_succ]
                refine wpAnyT_take (i := 18) (oi := ⟨_, _, _, _, _, _⟩) (v := undef) (by kernel_rfl) (by decide) rfl (by kernel_rfl) (by kernel_rfl) (by kernel_rfl) (fun _ _ _ h => h) (Or.inr ⟨by rfl, rfl⟩) hS ?restr7_18
                try simp only [Act.put, List.setIfInBounds_toArray, List.set_cons_zero, List.set_cons_succ]
                refine wpAnyT_ready1 (i := 19) (o := ⟨_, _, _, _, _, _⟩) (by kernel_rfl) rfl (fun K hK => ?_)
                go_simp
                refine hK _ _ (fun _ => hS) ?_
                try simp only [Act.put, List.setIfInBounds_toArray, List.set_cons_zero, List.set_cons_succ]
                refine wpAnyT_take (i := 20) (oi := ⟨_, _, _, _, _, _⟩) (v := undef) (by kernel_rfl) (by decide) rfl (by kernel_rfl) (by kernel_rfl) (by kernel_rfl) (fun _ _ _ h => h) (Or.inr ⟨by rfl, rfl⟩) hS ?restr7_20
                try simp only [Act.put, List.setIfInBounds_toArray, List.set_cons_zero, List.set_cons_succ]
                refine wpAnyT_take (i := 21) (oi := ⟨_, _, _, _, _, _⟩) (v := ?vr7_21) (by kernel_rfl) (by decide) rfl (by kernel_rfl) (by kernel_rfl) (by kernel_rfl) (fun _ _ _ h => h) (Or.inl ⟨by rfl, ?hyr7_21⟩) hS ?restr7_21
                case hyr7_21 =>
                  intro w' hSw
                  obtain ⟨s0, s1, s2, s3⟩ := hSw
                  go_simp
                  try with_reducible rfl
                try simp only [Act.put, List.setIfInBounds_toArray, List.set_cons_zero, List.set_cons_succ]
                refine wpAnyT_take (i := 22) (oi := ⟨_, _, _, _, _, _⟩) (v := ?vr7_22) (by kernel_rfl) (by decide) rfl (by kernel_rfl) (by kernel_rfl) (by kernel_rfl) (fun _ _ _ h => h) (Or.inl ⟨by rfl, ?hyr7_22⟩) hS ?restr7_22
                case hyr7_22 =>
                  intro w' hSw
                  obtain ⟨s0, s1, s2, s3⟩ := hSw
                  go_simp
                  try with_reducible rfl
                try simp only [Act.put, List.setIfInBounds_toArray, List.set_cons_zero, List.set_cons_succ]
                refine wpAnyT_take (i := 23) (oi := ⟨_, _, _, _, _, _⟩) (v := ?vr7_23) (by kernel_rfl) (by decide) rfl (by kernel_rfl) (by kernel_rfl) (by kernel_rfl) (fun _ _ _ h => h) (Or.inl ⟨by rfl, ?hyr7_23⟩) hS ?restr7_23
                case hyr7_23 =>
                  intro w' hSw
                  obtain ⟨s0, s1, s2, s3⟩ := hSw
                  go_simp
                  try with_reducible rfl
                try simp only [Act.put, List.setIfInBounds_toArray, List.set_cons_zero, List.set_cons_succ]
                refine wpAnyT_take (i := 24) (oi := ⟨_, _, _, _, _, _⟩) (v := ?vr7_24) (by kernel_rfl) (by decide) rfl (by kernel_rfl) (by kernel_rfl) (by kernel_rfl) (fun _ _ _ h => h) (Or.inl ⟨by rfl, ?hyr7_24⟩) hS ?restr7_24
                case hyr7_24 =>
                  intro w' hSw
                  obtain ⟨s0, s1, s2, s3⟩ := hSw
                  go_simp
                  try with_reducible rfl
                try simp only [Act.put, List.setIfInBounds_toArray, List.set_cons_zero, List.set_cons_succ]
                refine wpAnyT_take (i := 25) (oi := ⟨_, _, _, _, _, _⟩) (v := ?vr7_25) (by kernel_rfl) (by decide) rfl (by kernel_rfl) (by kernel_rfl) (by kernel_rfl) (fun _ _ _ h => h) (Or.inl ⟨by rfl, ?hyr7_25⟩) hS ?restr7_25
                case hyr7_25 =>
                  intro w' hSw
                  obtain ⟨s0, s1, s2, s3⟩ := hSw
                  go_simp
                  try with_reducible rfl
                try simp only [Act.put, List.setIfInBounds_toArray, List.set_cons_zero, List.set_cons_succ]
                refine wpAnyT_take (i := 26) (oi := ⟨_, _, _, _, _, _⟩) (v := ?vr7_26) (by kernel_rfl) (by decide) rfl (by kernel_rfl) (by kernel_rfl) (by kernel_rfl) (fun _ _ _ h => h) (Or.inl ⟨by rfl, ?hyr7_26⟩) hS ?restr7_26
                case hyr7_26 =>
                  intro w' hSw
                  obtain ⟨s0, s1, s2, s3⟩ := hSw
                  go_simp
                  try with_reducible rfl
                try simp only [Act.put, List.setIfInBounds_toArray, List.set_cons_zero, List.set_cons_succ]
                refine wpAnyT_take (i := 27) (oi := ⟨_, _, _, _, _, _⟩) (v := undef) (by kernel_rfl) (by decide) rfl (by kernel_rfl) (by kernel_rfl) (by kernel_rfl) (fun _ _ _ h => h) (Or.inr ⟨by rfl, rfl⟩) hS ?restr7_27
                try simp only [Act.put, List.setIfInBounds_toArray, List.set_cons_zero, List.set_cons_succ]
                refine wpAnyT_take (i := 28) (oi := ⟨_, _, _, _, _, _⟩) (v := undef) (by kernel_rfl) (by decide) rfl (by kernel_rfl) (by kernel_rfl) (by kernel_rfl) (fun _ _ _ h => h) (Or.inr ⟨by rfl, rfl⟩) hS ?restr7_28
                try simp only [Act.put, List.setIfInBounds_toArray, List.set_cons_zero, List.set_cons_succ]
                refine wpAnyT_take (i := 29) (oi := ⟨_, _, _, _, _, _⟩) (v := undef) (by kernel_rfl) (by decide) rfl (by kernel_rfl) (by kernel_rfl) (by kernel_rfl) (fun _ _ _ h => h) (Or.inr ⟨by rfl, rfl⟩) hS ?restr7_29
                try simp only [Act.put, List.setIfInBounds_toArray, List.set_cons_zero, List.set_cons_succ]
                refine wpAnyT_take (i := 30) (oi := ⟨_, _, _, _, _, _⟩) (v := undef) (by kernel_rfl) (by decide) rfl (by kernel_rfl) (by kernel_rfl) (by kernel_rfl) (fun _ _ _ h => h) (Or.inr ⟨by rfl, rfl⟩) hS ?restr7_30
                try simp only [Act.put, List.setIfInBounds_toArray, List.set_cons_zero, List.set_cons_succ]
                refine wpAnyT_take (i := 31) (oi := ⟨_, _, _, _, _, _⟩) (v := undef) (by kernel_rfl) (by decide) rfl (by kernel_rfl) (by kernel_rfl) (by kernel_rfl) (fun _ _ _ h => h) (Or.inr ⟨by rfl, rfl⟩) hS ?restr7_31
                try simp only [Act.put, List.setIfInBounds_toArray, List.set_cons_zero, List.set_cons_succ]
                refine wpAnyT_take (i := 32) (oi := ⟨_, _, _, _, _, _⟩) (v := undef) (by kernel_rfl) (by decide) rfl (by kernel_rfl) (by kernel_rfl) (by kernel_rfl) (fun _ _ _ h => h) (Or.inr ⟨by rfl, rfl⟩) hS ?restr7_32
                try simp only [Act.put, List.setIfInBounds_toArray, List.set_cons_zero, List.set_cons_succ]
                refine wpAnyT_take (i := 33) (oi := ⟨_, _, _, _, _, _⟩) (v := undef) (by kernel_rfl) (by decide) rfl (by kernel_rfl) (by kernel_rfl) (by kernel_rfl) (fun _ _ _ h => h) (Or.inr ⟨by rfl, rfl⟩) hS ?restr7_33
                try simp only [Act.put, List.setIfInBounds_toArray, List.set_cons_zero, List.set_cons_succ]
                refine wpAnyT_take (i := 34) (oi := ⟨_, _, _, _, _, _⟩) (v := undef) (by kernel_rfl) (by decide) rfl (by kernel_rfl) (by kernel_rfl) (by kernel_rfl) (fun _ _ _ h => h) (Or.inr ⟨by rfl, rfl⟩) hS ?restr7_34
                try simp only [Act.put, List.setIfInBounds_toArray, List.set_cons_zero, List.set_cons_succ]
                refine wpAnyT_ready1 (i := 35) (o := ⟨_, _, _, _, _, _⟩) (by kernel_rfl) rfl (fun K hK => ?_)
                go_simp
                refine hK _ _ (fun _ => hS) ?_
                try simp only [Act.put, List.setIfInBounds_toArray, List.set_cons_zero, List.set_cons_succ]
                refine wpAnyT_take (i := 36) (oi := ⟨_, _, _, _, _, _⟩) (v := undef) (by kernel_rfl) (by decide) rfl (by kernel_rfl) (by kernel_rfl) (by kernel_rfl) (fun _ _ _ h => h) (Or.inr ⟨by rfl, rfl⟩) hS ?restr7_36
                try simp only [Act.put, List.setIfInBounds_toArray, List.set_cons_zero, List.set_cons_succ]
                refine wpAnyT_take (i := 37) (oi := ⟨_, _, _, _, _, _⟩) (v := undef) (by kernel_rfl) (by decide) rfl (by kernel_rfl) (by kernel_rfl) (by kernel_rfl) (fun _ _ _ h => h) (Or.inr ⟨by rfl, rfl⟩) hS ?restr7_37
                try simp only [Act.put, List.setIfInBounds_toArray, List.set_cons_zero, List.set_cons_succ]
                refine wpAnyT_take (i := 38) (oi := ⟨_, _, _, _, _, _⟩) (v := undef) (by kernel_rfl) (by decide) rfl (by kernel_rfl) (by kernel_rfl) (by kernel_rfl) (fun _ _ _ h => h) (Or.inr ⟨by rfl, rfl⟩) hS ?restr7_38
                try simp only [Act.put, List.setIfInBounds_toArray, List.set_cons_zero, List.set_cons_succ]
                refine wpAnyT_take (i := 40) (oi := ⟨_, _, _, _, _, _⟩) (v := undef) (by kernel_rfl) (by decide) rfl (by kernel_rfl) (by kernel_rfl) (by kernel_rfl) (fun _ _ _ h => h) (Or.inr ⟨by rfl, rfl⟩) hS ?restr7_40
                try simp only [Act.put, List.setIfInBounds_toArray, List.set_cons_zero, List.set_cons_succ]
                refine wpAnyT_take (i := 41) (oi := ⟨_, _, _, _, _, _⟩) (v := undef) (by kernel_rfl) (by decide) rfl (by kernel_rfl) (by kernel_rfl) (by kernel_rfl) (fun _ _ _ h => h) (Or.inr ⟨by rfl, rfl⟩) hS ?restr7_41
                try simp only [Act.put, List.setIfInBounds_toArray, List.set_cons_zero, List.set_cons_succ]
                refine wpAnyT_ready1 (i := 39) (o := ⟨_, _, _, _, _, _⟩) (by kernel_rfl) rfl (fun K hK => ?_)
                go_simp
                refine hK _ _ (fun _ => hS) ?_
                try simp only [Act.put, List.setIfInBounds_toArray, List.set_cons_zero, List.set_cons_succ]
                refine wpAnyT_ready1 (i := 42) (o := ⟨_, _, _, _, _, _⟩) (by kernel_rfl) rfl (fun K hK => ?_)
                go_simp
                refine hK _ _ (fun _ => hS) ?_
                try simp only [Act.put, List.setIfInBounds_toArray, List.set_cons_zero, List.set_cons_succ]
                refine wpAnyT_take (i := 43) (oi := ⟨_, _, _, _, _, _⟩) (v := undef) (by kernel_rfl) (by decide) rfl (by kernel_rfl) (by kernel_rfl) (by kernel_rfl) (fun _ _ _ h => h) (Or.inr ⟨by rfl, rfl⟩) hS ?restr7_43
                try simp only [Act.put, List.setIfInBounds_toArray, List.set_cons_zero, List.set_cons_succ]
                refine wpAnyT_take (i := 44) (oi := ⟨_, _, _, _, _, _⟩) (v := ?vr7_44) (by kernel_rfl) (by decide) rfl (by kernel_rfl) (by kernel_rfl) (by kernel_rfl) (fun _ _ _ h => h) (Or.inl ⟨by rfl, ?hyr7_44⟩) hS ?restr7_44
                case hyr7_44 =>
                  intro w' hSw
                  obtain ⟨s0, s1, s2, s3⟩ := hSw
                  go_simp
                  try with_reducible rfl
                try simp only [Act.put, List.setIfInBounds_toArray, List.set_cons_zero, List.set_cons_succ]
                refine wpAnyT_take (i := 45) (oi := ⟨_, _, _, _, _, _⟩) (v := ?vr7_45) (by kernel_rfl) (by decide) rfl (by kernel_rfl) (by kernel_rfl) (by kernel_rfl) (fun _ _ _ h => h) (Or.inl ⟨by rfl, ?hyr7_45⟩) hS ?restr7_45
                case hyr7_45 =>
                  intro w' hSw
                  obtain ⟨s0, s1, s2, s3⟩ := hSw
                  go_simp
                  try with_reducible rfl
                try simp only [Act.put, List.setIfInBounds_toArray, List.set_cons_zero, List.set_cons_succ]
                refine wpAnyT_take (i := 46) (oi := ⟨_, _, _, _, _, _⟩) (v := ?vr7_46) (by kernel_rfl) (by decide) rfl (by kernel_rfl) (by kernel_rfl) (by kernel_rfl) (fun _ _ _ h => h) (Or.inl ⟨by rfl, ?hyr7_46⟩) hS ?restr7_46
                case hyr7_46 =>
                  intro w' hSw
                  obtain ⟨s0, s1, s2, s3⟩ := hSw
                  go_simp
                  try with_reducible rfl
                try simp only [Act.put, List.setIfInBounds_toArray, List.set_cons_zero, List.set_cons_succ]
                refine wpAnyT_done (by kernel_rfl) ?_ _
                have hB7 : Below wz.heap.size wz ((wr.alloc (.cells #[.int .i64 sk, .int .i64 st, .int .i64 sa, .int .i64 sb] 75)).alloc (.cells #[.int .i64 sk, .int .i64 st, .int .i64 sa, .int .i64 sb] 75)).drew := (bal (bal HBX.out _) _).drew
                have hq7 : Stmts ((wr.alloc (.cells #[.int .i64 sk, .int .i64 st, .int .i64 sa, .int .i64 sb] 75)).alloc (.cells #[.int .i64 sk, .int .i64 st, .int .i64 sa, .int .i64 sb] 75)).drew wz.heap.size _ l := ((HQ.out.keep al1).keep al1).keep (below0 _).drew
                have hf7 : FeedS ((wr.alloc (.cells #[.int .i64 sk, .int .i64 st, .int .i64 sa, .int .i64 sb] 75)).alloc (.cells #[.int .i64 sk, .int .i64 st, .int .i64 sa, .int .i64 sb] 75)).drew _ [⟨sk, st, sa, sb⟩] := Stmts.feed ((Stmts.one (w := wr.alloc (.cells #[.int .i64 sk, .int .i64 st, .int .i64 sa, .int .i64 sb] 75)) (B := wr.heap.size + 1) (lo := 0) (by simp) (Nat.zero_le _) sk st sa sb).keep (below0 _).drew)
                have hz7 := hB7.size
                go_wp2_with (at_builtin; refine wpList_append_stmts rfl _ _ rfl _ _ l [⟨sk, st, sa, sb⟩] wz.heap.size rfl rfl hq7 hf7 (by simp only [List.length_cons, List.length_nil]; omega) hz7 ?_; intro q' w5 hq6 hg5 hb5 hf5)
                go_roundw
                case rel => exact ⟨j + 1, l ++ [⟨sk, st, sa, sb⟩], by omega, by go_num, hq6, by simp; omega, (fun s hs => (List.mem_append.1 hs).elim (HLT2.out s) (fun h => by rw [List.mem_singleton.1 h]; exact hsto)), hB7.trans hb5⟩
                case measure => simp [intOf]; omega
          · obtain rfl : j = body.length := by omega
            obtain ⟨A5, C5, rfl⟩ := hq.form
            have hrowi := PRowX.keep HROW.out hBi
            obtain ⟨og2, oC2, eo, _, _, _, _, _, hof⟩ := PRowX.rd hrowi (by omega)
            obtain ⟨rfl, -, -⟩ : ga = og2 ∧ n0 = p.length ∧ Cp = oC2 := by simpa using eo
            have fi := hof (b * 4 + 3)
            have HRI := Lib.hid hrowi
            have HQ := Lib.hid hq
            have HBI := Lib.hid hBi
            clear hof hrowi hq eo
            go_wp2
            go_roundw
            case rel =>
              have hU := HQ.out
              exact ⟨b + 1, xs.set (b * 4 + 3) (.slice A5 l.length C5), p.set b { p.getD b default with body := l }, by go_num, by omega, .inl (by omega), by rw [List.length_set]; exact hpn, hwk.setBody hbp (by omega), Tos.setBody htos hbp HLT2.out,
                PRowX.setBody (PRowX.part HRI.out b) hbp (hU.lo_ (by omega)) (fun i hi _ => Apart.of_lt (PRowX.full HROW.out hi) (own_block_ge hU)), (bP.below HBI.out zP).other _ _ (show PB ≠ ga by omega), (HR.out.keep HBI.out).store (p := ⟨ga, b * 4 + 3, none⟩) (show g < ga by omega) _, (HCUR.out.trans (Only.of_below HBI.out)).store (p := ⟨ga, b * 4 + 3, none⟩) (show _ ≤ ga by simp only [World.size_alloc]; omega) _⟩
            case measure => simp [intOf]; omega
      · have HVP := Lib.hid hvp
        clear hvp
        go_wp2_with fail
        refine (S_validProgram _ p _ _ hblk).mono ?_
        rintro e wv ⟨rfl, hbv⟩
        rw [HVP.out]
        have hrow := PRowX.keep hrow hbv
        have bP := bP.below hbv (lt_of_block bP)
        have cP := bP.cell
        have hblk := PRowX.blks hrow
        have hr := hr.keep hbv
        have hcur := hcur.trans (Only.of_below hbv)
        go_wp2_with fail
        refine (S_validProgram _ p _ _ (show Blks _ (w.heap.size + 1) (.slice (some ⟨ga, 0, none⟩) n0 Cp) p from hblk)).mono ?_
        rintro e wz ⟨rfl, hbz⟩
        rw [HVP.out]
        have hrow := PRowX.keep hrow hbz
        have bP := bP.below hbz (lt_of_block bP)
        have cP := bP.cell
        have hr := hr.keep hbz
        have hcur := hcur.trans (Only.of_below hbz)
        have r1 := fun o => (ocell hcur).1 w.heap.size o (by omega) (by simp)
        have m1 := fun o => (ocell hcur).2 w.heap.size o (by omega) (by simp)
        go_wp2
        exact bodyPost_ret (v := .agg #[.slice (some ⟨ga, 0, none⟩) n0 Cp]) (by simp [results, Try.results80, go_sem, r1]) rfl
          ⟨_, xs, p, rfl, (PRowX.only hrow ((Only.refl w.heap.size (w.heap.size + 1) wz).setCell (Nat.le_refl _) (Nat.lt_succ_self _) _) (Nat.le_refl _)).lo_ (by omega), hwk, hr.store (p := ⟨w.heap.size, 0, none⟩) hgl _, ((Only.of_below al1).trans hcur).store (Nat.le_refl _) _⟩
    · cases hvp : validP p
      · have HVP := Lib.hid hvp
        clear hvp
        go_wp2_with fail
        refine (S_validProgram _ p _ _ (show Blks _ (w.heap.size + 1) (.slice (some ⟨ga, 0, none⟩) n0 Cp) p from hblk)).mono ?_
        rintro e wz ⟨rfl, hbz⟩
        rw [HVP.out]
        have hrow := PRowX.keep hrow hbz
        have bP := bP.below hbz (lt_of_block bP)
        have cP := bP.cell
        have hr := hr.keep hbz
        have hcur := hcur.trans (Only.of_below hbz)
        have hbod : ∀ b, b < p.length → (p.getD b default).body.length ≤ 1000 ∧ (p.getD b default).params.length ≤ 1000 := fun b hb => by
          have h1 := hwk.body b (by omega) (by omega)
          have h2 := hwk.params b (by omega) (by omega)
          have e : p.bk (b : Int) = p.getD b default := by show p.getD (b : Int).toNat default = _; rw [Int.toNat_natCast]
          rw [e] at h1 h2
          exact ⟨by omega, by omega⟩
        have HBOD := Lib.hid hbod
        clear hbod
        go_wp2_with fail
        refine (S_bare _ p (w.heap.size + 1) _ ⟨_, rfl, PRowX.blks hrow⟩ (by have := hwk.len; omega) HBOD.out).mono ?_
        rintro e wy ⟨sl2, xs2, rfl, hrow2, hby⟩
        obtain ⟨A2, C2, rfl⟩ := PRowX.form hrow2
        have hr := hr.keep hby
        have hcur := hcur.trans (Only.of_below hby)
        have hzz : w.heap.size + 1 ≤ wz.heap.size := by have := lt_of_block bP; omega
        have r1 := fun o => (ocell hcur).1 w.heap.size o (by omega) (by simp)
        have m1 := fun o => (ocell hcur).2 w.heap.size o (by omega) (by simp)
        go_wp2
        exact bodyPost_ret (v := .agg #[.slice A2 (bareP p).length C2]) (by simp [results, Try.results80, go_sem, r1]) rfl
          ⟨_, xs2, bareP p, rfl, (PRowX.only hrow2 ((Only.refl w.heap.size (w.heap.size + 1) wy).setCell (Nat.le_refl _) (Nat.lt_succ_self _) _) (by omega)).lo_ (by omega), hwk.bare, hr.store (p := ⟨w.heap.size, 0, none⟩) hgl _, ((Only.of_below al1).trans hcur).store (Nat.le_refl _) _⟩
      · have HVP := Lib.hid hvp
        clear hvp
        obtain ⟨wv, hwv⟩ : ∃ wv : World, wv = wr := ⟨_, rfl⟩
        subst hwv
        have hbv := below0 wv
        have hrow := PRowX.keep hrow hbv
        have bP := bP.below hbv (lt_of_block bP)
        have cP := bP.cell
        have hblk := PRowX.blks hrow
        have hr := hr.keep hbv
        have hcur := hcur.trans (Only.of_below hbv)
        go_wp2_with fail
        refine (S_validProgram _ p _ _ (show Blks _ (w.heap.size + 1) (.slice (some ⟨ga, 0, none⟩) n0 Cp) p from hblk)).mono ?_
        rintro e wz ⟨rfl, hbz⟩
        rw [HVP.out]
        have hrow := PRowX.keep hrow hbz
        have bP := bP.below hbz (lt_of_block bP)
        have cP := bP.cell
        have hr := hr.keep hbz
        have hcur := hcur.trans (Only.of_below hbz)
        have r1 := fun o => (ocell hcur).1 w.heap.size o (by omega) (by simp)
        have m1 := fun o => (ocell hcur).2 w.heap.size o (by omega) (by simp)
        go_wp2
        exact bodyPost_ret (v := .agg #[.slice (some ⟨ga, 0, none⟩) n0 Cp]) (by simp [results, Try.results80, go_sem, r1]) rfl
          ⟨_, xs, p, rfl, (PRowX.only hrow ((Only.refl w.heap.size (w.heap.size + 1) wz).setCell (Nat.le_refl _) (Nat.lt_succ_self _) _) (Nat.le_refl _)).lo_ (by omega), hwk, hr.store (p := ⟨w.heap.size, 0, none⟩) hgl _, ((Only.of_below al1).trans hcur).store (Nat.le_refl _) _⟩

end Go.Proofs.Ytelhemhbgpfokaa

namespace Go.Proofs.Ytelhemhbgpfokaa
open Go.RowKit
set_option linter.unusedVariables false

theorem BoxP.cellx {w : World} {B g j : Nat} {u V : Value} {o : Obj} (h : BoxP w B u) (hne : B ≠ g) (hlt : B < w.heap.size) : ((w.setCell ⟨g, j, none⟩ V).alloc o).cell? ⟨B, 0, none⟩ = some u := by
  have h1 := (h.other ⟨g, j, none⟩ V hne).cell
  exact cell_later al1 h1
theorem Apart.from_ {w0 : World} {lo n : Nat} {V B U : Value} {l : List St} (hA : Apart V B) (hV : Stmts w0 lo V l) (hf : RowFrom B U n) (hn : w0.heap.size ≤ n) : Apart V U := by
  intro r h1 h2
  rcases hf with e | ⟨gg, e, e'⟩
  · exact hA r h1 (e.symm.trans h2)
  · rw [h2] at e
    have := Option.some.inj e
    have := own_block_lt hV r h1
    omega

set_option maxRecDepth 100000 in
set_option maxHeartbeats 16000000 in
theorem S_anyProgram (g m : Nat) (w : World) (h : Rdr w g m) (hm : m ≤ 680000) :
    Calls Try.prog 39 #[.pointer (some ⟨g, 0, none⟩)] w fun e w' => ∃ (sl : Value) (xs : List Value) (p : Pr), e = .returned (.agg #[sl]) ∧ PRow w' w.heap.size sl xs p ∧ (1 ≤ p.length ∧ p.length ≤ 7) ∧ Rdr w' g (m + 1100) ∧ Only g (g + 1) w w' := by
  have hgl : g < w.heap.size := h.lt
  have hr := h.keep (al1 (o := (.cells #[.slice none 0 0] 25)))
  have hcur := Only.refl g (g + 1) (w.alloc (.cells #[.slice none 0 0] 25))
  clear h
  go_enter Try.func39, Try.ntmps39
  go_wp2_with fail
  refine (S_goodProgram g _ _ hr (by omega)).mono ?_
  rintro e w1 ⟨sl, xs, p, rfl, hrow, hwk, hr, ho⟩
  have hcur := hcur.trans ho
  have hsz1 : w.heap.size + 1 ≤ w1.heap.size := by have := ho.size; simpa using this
  have hp := hwk.len
  simp only [World.size_alloc] at hrow
  obtain ⟨ga, Cp, rfl, _, hCp, hga1, hga2, _, _⟩ := PRowX.rd hrow (by omega)
  unfold maxLen at hCp
  obtain ⟨n0, hn0⟩ : ∃ n0 : Nat, n0 = p.length := ⟨_, rfl⟩
  have hpn : p.length = n0 := hn0.symm
  rw [← hn0] at hrow ⊢
  have hrow := PRowX.keep hrow (al1 (o := (.cells #[.slice (some ⟨ga, 0, none⟩) n0 Cp] 25)))
  have hcur := hcur.alloc (.cells #[.slice (some ⟨ga, 0, none⟩) n0 Cp] 25)
  have hr := hr.keep (al1 (o := (.cells #[.slice (some ⟨ga, 0, none⟩) n0 Cp] 25)))
  have bP : BoxP (w1.alloc (.cells #[.slice (some ⟨ga, 0, none⟩) n0 Cp] 25)) w1.heap.size (.slice (some ⟨ga, 0, none⟩) n0 Cp) := BoxP.new rfl _
  obtain ⟨PB, hPB⟩ : ∃ PB : Nat, PB = w1.heap.size := ⟨_, rfl⟩
  have hPB1 : w.heap.size + 1 ≤ PB := by omega
  have hgaPB : ga < PB := by omega
  have hgal : w.heap.size + 1 ≤ ga := hga1
  rw [← hPB] at bP
  have HN := Lib.hid hn0
  clear hn0
  go_wp2_with fail
  rw [← hPB]
  clear hPB hsz1 ho hga1 hga2
  refine (S_pick g _ n0 _ hr (by omega)).mono ?_
  rintro e w2 ⟨y, rfl, y0, y1, hr, ho, hsz⟩
  have hcur := hcur.trans ho
  have bP := bP.only ho (by omega)
  have hrow := PRowX.only hrow ho (by omega)
  have y1 := y1 (by omega)
  obtain ⟨k, rfl⟩ := Int.eq_ofNat_of_zero_le y0
  clear ho hsz y0
  go_wp2_with fail
  refine (S_pick g _ 24 _ hr (by omega)).mono ?_
  rintro e w3 ⟨c, rfl, c0, c1, hr, ho, hsz⟩
  have hcur := hcur.trans ho
  have bP := bP.only ho (by omega)
  have hrow := PRowX.only hrow ho (by omega)
  have zP := lt_of_block bP
  have hkn : k < n0 := by omega
  clear ho hsz c1 y1
  by_cases h0 : c = 0
  · subst h0
    go_wp2_with fail
    refine (S_shapedProgram g _ _ hr (by omega)).mono ?_
    rintro e w4 ⟨sl', xs', p', rfl, hrow', hT', hpl', hr, ho⟩
    have hcur := hcur.trans ho
    obtain ⟨A', C', rfl⟩ := PRowX.form hrow'
    have r1 := fun o => (ocell hcur).1 w.heap.size o (by omega) (by simp)
    have m1 := fun o => (ocell hcur).2 w.heap.size o (by omega) (by simp)
    go_wp2
    exact bodyPost_ret (v := .agg #[.slice A' p'.length C']) (by simp [results, Try.results39, go_sem, r1]) rfl
      ⟨_, xs', p', rfl, (PRowX.only hrow' ((Only.refl w.heap.size (w.heap.size + 1) _).setCell (Nat.le_refl _) (Nat.lt_succ_self _) _) (by omega)).lo_ (by omega), ⟨hT'.len, by omega⟩, (hr.store (p := ⟨w.heap.size, 0, none⟩) hgl _).mono (by omega), ((Only.of_below al1).trans hcur).store (Nat.le_refl _) _⟩
  have q0 : (c == 0) = false := by rw [beq_eq_false_iff_ne]; exact h0
  by_cases h1 : c = 1
  · subst h1
    have hrow := PRowX.keep hrow (below0 w3).drew
    have hr := hr.drew
    have hcur := hcur.drew
    have cP : w3.cell? ⟨PB, 0, none⟩ = some (.slice (some ⟨ga, 0, none⟩) n0 Cp) := bP.cell
    have bP : BoxP w3.drew PB (.slice (some ⟨ga, 0, none⟩) n0 Cp) := bP
    go_wp2
    go_region_held3 (fun w' => w'.cell? ⟨PB, 0, none⟩ = some (.slice (some ⟨ga, 0, none⟩) n0 Cp))
      (first | go_keep | exact cP | exact (bP.other _ _ (show PB ≠ ga by omega)).cell | exact (bP.cellx (show PB ≠ ga by omega) zP))
      (first
        | (go_at_call 81
           refine (S_oneL g _ [-2, (k : Int), 7] _ _ rfl hr (by omega) (by simp) (by simp)).mono ?_
           rintro e wu ⟨z, rfl, hz, hr, ho⟩
           have hcur := hcur.trans ho
           have bP := bP.only ho (by omega)
           have hrow := PRowX.only hrow ho (by omega)
           have cP := bP.cell
           have zP := lt_of_block bP
           obtain ⟨ga2, Cp2, ea, _, _, _, _, hcell2, hfz2⟩ := PRowX.rd hrow (by omega)
           obtain ⟨rfl, -, -⟩ : ga = ga2 ∧ n0 = p.length ∧ Cp = Cp2 := by simpa using ea
           have f3 := hfz2 (k * 4 + 1)
           have d3 := hcell2 (k * 4 + 1) (by omega)
           have zga : ga < wu.heap.size := by omega
           clear ho hz hcell2 hfz2 ea))
    all_goals
      have hrow := PRowX.setParent (x := z) hrow (by omega : k < p.length)
      have hpl2 : (p.set k { p.getD k default with parent := z }).length = n0 := by rw [List.length_set]; exact hpn
      generalize xs.set (k * 4 + 1) (.int .i64 z) = xs2 at hrow
      generalize p.set k { p.getD k default with parent := z } = p2 at hrow hpl2
      have bP := bP.other ⟨ga, k * 4 + 1, none⟩ (.int .i64 z) (by show PB ≠ ga; omega)
      have hr := hr.store (p := ⟨ga, k * 4 + 1, none⟩) (by show g < ga; omega) (.int .i64 z)
      have hcur := hcur.store (p := ⟨ga, k * 4 + 1, none⟩) (by show _ ≤ ga; simp only [World.size_alloc]; omega) (.int .i64 z)
      obtain ⟨wv, hwv⟩ : ∃ wv : World, wv = wu.setCell ⟨ga, k * 4 + 1, none⟩ (.int .i64 z) := ⟨_, rfl⟩
      rw [← hwv] at hrow bP hr hcur ⊢
      clear hwv cP
      have cP := bP.cell
      have r1 := fun o => (ocell hcur).1 w.heap.size o (by omega) (by simp)
      have m1 := fun o => (ocell hcur).2 w.heap.size o (by omega) (by simp)
      go_wp2
      exact bodyPost_ret (v := .agg #[.slice (some ⟨ga, 0, none⟩) n0 Cp]) (by simp [results, Try.results39, go_sem, r1]) rfl
        ⟨_, xs2, p2, rfl, (PRowX.only hrow ((Only.refl w.heap.size (w.heap.size + 1) _).setCell (Nat.le_refl _) (Nat.lt_succ_self _) _) (Nat.le_refl _)).lo_ (by omega), ⟨by omega, by omega⟩, (hr.store (p := ⟨w.heap.size, 0, none⟩) hgl _).mono (by omega), ((Only.of_below al1).trans hcur).store (Nat.le_refl _) _⟩
  have q1 : (c == 1) = false := by rw [beq_eq_false_iff_ne]; exact h1
  by_cases h2 : c = 2
  · subst h2
    have HCELL : Hid (∀ j, j < n0 * 4 → w3.cell? ⟨ga, j, none⟩ = some (xs.getD j undef)) := Lib.hid (by
      obtain ⟨ga2, Cp2, ea, _, _, _, _, hcell, _⟩ := PRowX.rd hrow (by omega)
      obtain ⟨rfl, -, -⟩ : ga = ga2 ∧ n0 = p.length ∧ Cp = Cp2 := by simpa using ea
      rw [HN.out]; exact hcell)
    have hkp : k < p.length := by omega
    have hbv := PRowX.full hrow hkp
    obtain ⟨BV, hBV⟩ : ∃ BV : Value, BV = xs.getD (k * 4 + 3) undef := ⟨_, rfl⟩
    have b3 : w3.cell? ⟨ga, k * 4 + 3, none⟩ = some BV := by rw [hBV]; exact HCELL.out _ (by omega)
    obtain ⟨body, hbody⟩ : ∃ body : List St, body = (p.getD k default).body := ⟨_, rfl⟩
    have hbl : body.length ≤ 12 := by
      have h1 := hwk.body k (by omega) (by omega)
      have e : p.bk (k : Int) = p.getD k default := by show p.getD (k : Int).toNat default = _; rw [Int.toNat_natCast]
      rw [e] at h1; rw [hbody]; exact h1
    have hap := fun i (hi : i < p.length) (hik : i ≠ k) => hrow.apart i k hi hkp (by omega) (by omega) hik
    rw [← hBV, ← hbody] at hbv
    rw [← hBV] at hap
    have HBV := Lib.hid hBV
    have HBODY := Lib.hid hbody
    have HAP := Lib.hid hap
    obtain ⟨Ab, Cb, rfl⟩ := hbv.form
    clear hap hBV hbody
    have hk0 : (0 : Int) ≤ (k : Int) := by omega
    have hk1 : (k : Int) < (n0 : Int) := by omega
    go_wp2
    obtain ⟨W1, hW1⟩ : ∃ W1 : World, W1 = w3.drew := ⟨_, rfl⟩
    have k0 : W1.cell? ⟨PB, 0, none⟩ = some (.slice (some ⟨ga, 0, none⟩) n0 Cp) := by rw [hW1]; exact bP.cell
    have k1 : W1.cell? ⟨ga, k * 4 + 3, none⟩ = some (.slice Ab body.length Cb) := by rw [hW1]; exact b3
    have hrow : PRow W1 (w.heap.size + 1) (.slice (some ⟨ga, 0, none⟩) n0 Cp) xs p := by rw [hW1]; exact PRowX.keep hrow (below0 w3).drew
    have hbv : Stmts W1 (w.heap.size + 1) (.slice Ab body.length Cb) body := by rw [hW1]; exact hbv.keep (below0 w3).drew
    have hr := hr.drew
    rw [← hW1] at hr
    have hcur := hcur.drew
    rw [← hW1] at hcur
    have bP : BoxP W1 PB (.slice (some ⟨ga, 0, none⟩) n0 Cp) := by rw [hW1]; exact bP
    refine wp_region_T 16 (by kernel_rfl) (fun w' => w'.cell? ⟨PB, 0, none⟩ = some (.slice (some ⟨ga, 0, none⟩) n0 Cp) ∧ w'.cell? ⟨ga, k * 4 + 3, none⟩ = some (.slice Ab body.length Cb)) ?_
    rw [← hW1]
    have hS := And.intro k0 k1
    clear hW1 b3
    refine wpAnyT_take (i := 0) (oi := ⟨_, _, _, _, _, _⟩) (v := ?v1_0) (by kernel_rfl) (by decide) rfl (by kernel_rfl) (by kernel_rfl) (by kernel_rfl) (fun _ _ _ h => h) (Or.inl ⟨by rfl, ?hy1_0⟩) hS ?rest1_0
    case hy1_0 =>
      intro w' hSw
      obtain ⟨s0, s1⟩ := hSw
      go_simp
      try with_reducible rfl
    try simp only [Act.put, List.setIfInBounds_toArray, List.set_cons_zero, List.set_cons_succ]
    refine wpAnyT_take (i := 1) (oi := ⟨_, _, _, _, _, _⟩) (v := ?v1_1) (by kernel_rfl) (by decide) rfl (by kernel_rfl) (by kernel_rfl) (by kernel_rfl) (fun _ _ _ h => h) (Or.inl ⟨by rfl, ?hy1_1⟩) hS ?rest1_1
    case hy1_1 =>
      intro w' hSw
      obtain ⟨s0, s1⟩ := hSw
      go_simp
      try with_reducible rfl
    try simp only [Act.put, List.setIfInBounds_toArray, List.set_cons_zero, List.set_cons_succ]
    refine wpAnyT_take (i := 2) (oi := ⟨_, _, _, _, _, _⟩) (v := ?v1_2) (by kernel_rfl) (by decide) rfl (by kernel_rfl) (by kernel_rfl) (by kernel_rfl) (fun _ _ _ h => h) (Or.inl ⟨by rfl, ?hy1_2⟩) hS ?rest1_2
    case hy1_2 =>
      intro w' hSw
      obtain ⟨s0, s1⟩ := hSw
      go_simp
      try with_reducible rfl
    try simp only [Act.put, List.setIfInBounds_toArray, List.set_cons_zero, List.set_cons_succ]
    refine wpAnyT_take (i := 3) (oi := ⟨_, _, _, _, _, _⟩) (v := ?v1_3) (by kernel_rfl) (by decide) rfl (by kernel_rfl) (by kernel_rfl) (by kernel_rfl) (fun _ _ _ h => h) (Or.inl ⟨by rfl, ?hy1_3⟩) hS ?rest1_3
    case hy1_3 =>
      intro w' hSw
      obtain ⟨s0, s1⟩ := hSw
      go_simp
      try with_reducible rfl
    try simp only [Act.put, List.setIfInBounds_toArray, List.set_cons_zero, List.set_cons_succ]
    refine wpAnyT_take (i := 4) (oi := ⟨_, _, _, _, _, _⟩) (v := ?v1_4) (by kernel_rfl) (by decide) rfl (by kernel_rfl) (by kernel_rfl) (by kernel_rfl) (fun _ _ _ h => h) (Or.inl ⟨by rfl, ?hy1_4⟩) hS ?rest1_4
    case hy1_4 =>
      intro w' hSw
      obtain ⟨s0, s1⟩ := hSw
      go_simp
      try with_reducible rfl
    try simp only [Act.put, List.setIfInBounds_toArray, List.set_cons_zero, List.set_cons_succ]
    refine wpAnyT_take (i := 5) (oi := ⟨_, _, _, _, _, _⟩) (v := ?v1_5) (by kernel_rfl) (by decide) rfl (by kernel_rfl) (by kernel_rfl) (by kernel_rfl) (fun _ _ _ h => h) (Or.inl ⟨by rfl, ?hy1_5⟩) hS ?rest1_5
    case hy1_5 =>
      intro w' hSw
      obtain ⟨s0, s1⟩ := hSw
      go_simp
      try with_reducible rfl
    try simp only [Act.put, List.setIfInBounds_toArray, List.set_cons_zero, List.set_cons_succ]
    refine wpAnyT_take (i := 6) (oi := ⟨_, _, _, _, _, _⟩) (v := ?v1_6) (by kernel_rfl) (by decide) rfl (by kernel_rfl) (by kernel_rfl) (by kernel_rfl) (fun _ _ _ h => h) (Or.inl ⟨by rfl, ?hy1_6⟩) hS ?rest1_6
    case hy1_6 =>
      intro w' hSw
      obtain ⟨s0, s1⟩ := hSw
      go_simp
      try with_reducible rfl
    try simp only [Act.put, List.setIfInBounds_toArray, List.set_cons_zero, List.set_cons_succ]
    refine wpAnyT_take (i := 7) (oi := ⟨_, _, _, _, _, _⟩) (v := ?v1_7) (by kernel_rfl) (by decide) rfl (by kernel_rfl) (by kernel_rfl) (by kernel_rfl) (fun _ _ _ h => h) (Or.inl ⟨by rfl, ?hy1_7⟩) hS ?rest1_7
    case hy1_7 =>
      intro w' hSw
      obtain ⟨s0, s1⟩ := hSw
      go_simp
      try with_reducible rfl
    try simp only [Act.put, List.setIfInBounds_toArray, List.set_cons_zero, List.set_cons_succ]
    refine wpAnyT_take (i := 8) (oi := ⟨_, _, _, _, _, _⟩) (v := ?v1_8) (by kernel_rfl) (by decide) rfl (by kernel_rfl) (by kernel_rfl) (by kernel_rfl) (fun _ _ _ h => h) (Or.inl ⟨by rfl, ?hy1_8⟩) hS ?rest1_8
    case hy1_8 =>
      intro w' hSw
      obtain ⟨s0, s1⟩ := hSw
      go_simp
      try with_reducible rfl
    try simp only [Act.put, List.setIfInBounds_toArray, List.set_cons_zero, List.set_cons_succ]
    refine wpAnyT_take (i := 9) (oi := ⟨_, _, _, _, _, _⟩) (v := ?v1_9) (by kernel_rfl) (by decide) rfl (by kernel_rfl) (by kernel_rfl) (by kernel_rfl) (fun _ _ _ h => h) (Or.inl ⟨by rfl, ?hy1_9⟩) hS ?rest1_9
    case hy1_9 =>
      intro w' hSw
      obtain ⟨s0, s1⟩ := hSw
      go_simp
      try with_reducible rfl
    try simp only [Act.put, List.setIfInBounds_toArray, List.set_cons_zero, List.set_cons_succ]
    refine wpAnyT_take (i := 12) (oi := ⟨_, _, _, _, _, _⟩) (v := ?v1_12) (by kernel_rfl) (by decide) rfl (by kernel_rfl) (by kernel_rfl) (by kernel_rfl) (fun _ _ _ h => h) (Or.inl ⟨by rfl, ?hy1_12⟩) hS ?rest1_12
    case hy1_12 =>
      intro w' hSw
      obtain ⟨s0, s1⟩ := hSw
      go_simp
      try with_reducible rfl
    try simp only [Act.put, List.setIfInBounds_toArray, List.set_cons_zero, List.set_cons_succ]
    refine wpAnyT_ready1 (i := 10) (o := ⟨_, _, _, _, _, _⟩) (by kernel_rfl) rfl (fun K hK => ?_)
    go_simp
    have K1 := Lib.hid k1
    have hx := al1 (w := W1) (o := .cells (([-1, 12, 3] : List Int).map (Value.int .i64)).toArray 3)
    have k0 := cell_later hx k0
    have k1 := cell_later hx k1
    have hS := And.intro k0 k1
    refine hK _ _ (fun _ => hS) ?_
    try simp only [Act.put, List.setIfInBounds_toArray, List.set_cons_zero, List.set_cons_succ]
    refine wpAnyT_ready1 (i := 11) (o := ⟨_, _, _, _, _, _⟩) (by kernel_rfl) rfl (fun K hK => ?_)
    go_simp
    go_at_call 81
    refine (S_oneL g _ [-1, 12, 3] W1 _ rfl hr (by omega) (by simp) (by simp)).mono ?_
    rintro e w2 ⟨z, rfl, hz, hr, ho⟩
    have hcur := hcur.trans ho
    have bP := bP.only ho (by omega)
    have hrow := PRowX.only hrow ho (by omega)
    have hbv := Stmts.only hbv ho (by omega)
    have k0 := bP.cell
    have k1 := cell_only ho K1.out (by omega)
    have hS := And.intro k0 k1
    clear hz ho
    refine hK _ _ (fun _ => hS) ?_
    try simp only [Act.put, List.setIfInBounds_toArray, List.set_cons_zero, List.set_cons_succ]
    refine wpAnyT_take (i := 13) (oi := ⟨_, _, _, _, _, _⟩) (v := ?v1_13) (by kernel_rfl) (by decide) rfl (by kernel_rfl) (by kernel_rfl) (by kernel_rfl) (fun _ _ _ h => h) (Or.inl ⟨by rfl, ?hy1_13⟩) hS ?rest1_13
    case hy1_13 =>
      intro w' hSw
      obtain ⟨s0, s1⟩ := hSw
      go_simp
      try with_reducible rfl
    try simp only [Act.put, List.setIfInBounds_toArray, List.set_cons_zero, List.set_cons_succ]
    refine wpAnyT_ready1 (i := 14) (o := ⟨_, _, _, _, _, _⟩) (by kernel_rfl) rfl (fun K hK => ?_)
    go_simp
    have hx := al1 (w := w2) (o := .cells #[.int .i64 z, .int .i64 0, .int .i64 k, .int .i64 0] 75)
    have hone := Stmts.one (w := w2) (B := w2.heap.size) (lo := 0) rfl (Nat.zero_le _) z 0 k 0
    have hrow := PRowX.keep hrow hx
    have hbv := hbv.keep hx
    have hr := hr.keep hx
    have hcur := hcur.trans (Only.of_below hx)
    have bP := bP.below hx (lt_of_block bP)
    have k0 := cell_later hx k0
    have k1 := cell_later hx k1
    have hS := And.intro k0 k1
    refine hK _ _ (fun _ => hS) ?_
    try simp only [Act.put, List.setIfInBounds_toArray, List.set_cons_zero, List.set_cons_succ]
    refine wpAnyT_ready1 (i := 15) (o := ⟨_, _, _, _, _, _⟩) (by kernel_rfl) rfl (fun K hK => ?_)
    refine step_append_stmts rfl _ _ rfl _ _ body [⟨z, 0, k, 0⟩] (w.heap.size + 1) rfl rfl hbv hone.feed (by simp; omega) (by have := lt_of_block bP; omega) ?_
    intro bv w5 hbo hg5 hb5 hf5
    have hneP := bP.ne hbv (by decide)
    have hneR := own_types hrow.own hbv (by decide)
    have hge := own_block_ge hbv
    have hPne : some PB ≠ (Value.slice Ab body.length Cb).ownBlock := fun hc => by
      rcases hneP with h | h
      · rw [h] at hc; cases hc
      · exact h hc.symm
    have hgne : some ga ≠ (Value.slice Ab body.length Cb).ownBlock := fun hc => by
      rcases hneR with h | h
      · cases h
      · exact h hc
    have k0 := hg5.cell k0 hPne
    have k1 := hg5.cell k1 hgne
    have hS := And.intro k0 k1
    have bP := bP.grown hg5 hPne
    have hap5 : ∀ i, i < p.length → i ≠ k → Apart (xs.getD (i * 4 + 3) undef) bv := fun i hi hik => Apart.from_ (HAP.out i hi hik) (PRowX.full hrow hi) hf5 (Nat.le_refl _)
    have hrow5 : PRowX w5 (w.heap.size + 1) (.slice (some ⟨ga, 0, none⟩) n0 Cp) xs p k := PRowX.grown hrow hkp (by rw [← HBV.out]; exact hg5)
    have hr := hr.grown hg5 (fun r hc => by have := hge r hc; omega)
    have hcur := hcur.grow hg5 (fun r hc => by have := hge r hc; simp only [World.size_alloc]; omega)
    have f3 : w5.frozen? ⟨ga, k * 4 + 3, none⟩ = false := by
      obtain ⟨ga2, Cp2, ea, _, _, _, _, _, hfz⟩ := PRowX.rd hrow5 (by omega)
      obtain ⟨rfl, -, -⟩ : ga = ga2 ∧ n0 = p.length ∧ Cp = Cp2 := by simpa using ea
      exact hfz _
    obtain ⟨A5, C5, rfl⟩ := hbo.form
    rw [show (body ++ [(⟨z, 0, k, 0⟩ : St)]).length = body.length + 1 by simp] at hbo hap5
    clear hrow
    refine hK _ _ (fun _ => hS) ?_
    try simp only [Act.put, List.setIfInBounds_toArray, List.set_cons_zero, List.set_cons_succ]
    refine wpAnyT_ready1 (i := 16) (o := ⟨_, _, _, _, _, _⟩) (by kernel_rfl) rfl (fun K hK => ?_)
    go_simp
    refine hK _ _ (fun h => absurd h (by decide)) ?_
    try simp only [Act.put, List.setIfInBounds_toArray, List.set_cons_zero, List.set_cons_succ]
    refine wpAnyT_ready1 (i := 17) (o := ⟨_, _, _, _, _, _⟩) (by kernel_rfl) rfl (fun K hK => ?_)
    go_simp
    refine hK _ _ (fun h => absurd h (by decide)) ?_
    try simp only [Act.put, List.setIfInBounds_toArray, List.set_cons_zero, List.set_cons_succ]
    refine wpAnyT_ready1 (i := 18) (o := ⟨_, _, _, _, _, _⟩) (by kernel_rfl) rfl (fun K hK => ?_)
    go_simp
    refine hK _ _ (fun h => absurd h (by decide)) ?_
    try simp only [Act.put, List.setIfInBounds_toArray, List.set_cons_zero, List.set_cons_succ]
    refine wpAnyT_done (by kernel_rfl) ?_ _
    have hrow := PRowX.setBody (l := body ++ [(⟨z, 0, k, 0⟩ : St)]) hrow5 hkp hbo hap5
    have hpl2 : (p.set k { p.getD k default with body := body ++ [(⟨z, 0, k, 0⟩ : St)] }).length = n0 := by rw [List.length_set]; exact hpn
    generalize xs.set (k * 4 + 3) (.slice A5 (body.length + 1) C5) = xs2 at hrow
    generalize p.set k { p.getD k default with body := body ++ [(⟨z, 0, k, 0⟩ : St)] } = p2 at hrow hpl2
    have bP := bP.other ⟨ga, k * 4 + 3, none⟩ (.slice A5 (body.length + 1) C5) (by show PB ≠ ga; omega)
    have hr := hr.store (p := ⟨ga, k * 4 + 3, none⟩) (by show g < ga; omega) (.slice A5 (body.length + 1) C5)
    have hcur := hcur.store (p := ⟨ga, k * 4 + 3, none⟩) (by show _ ≤ ga; simp only [World.size_alloc]; omega) (.slice A5 (body.length + 1) C5)
    obtain ⟨wv, hwv⟩ : ∃ wv : World, wv = w5.setCell ⟨ga, k * 4 + 3, none⟩ (.slice A5 (body.length + 1) C5) := ⟨_, rfl⟩
    rw [← hwv] at hrow bP hr hcur ⊢
    clear hwv k0 k1 hS f3 hrow5 hbo
    have cP := bP.cell
    have r1 := fun o => (ocell hcur).1 w.heap.size o (by omega) (by simp)
    have m1 := fun o => (ocell hcur).2 w.heap.size o (by omega) (by simp)
    go_wp2
    exact bodyPost_ret (v := .agg #[.slice (some ⟨ga, 0, none⟩) n0 Cp]) (by simp [results, Try.results39, go_sem, r1]) rfl
      ⟨_, xs2, p2, rfl, (PRowX.only hrow ((Only.refl w.heap.size (w.heap.size + 1) _).setCell (Nat.le_refl _) (Nat.lt_succ_self _) _) (Nat.le_refl _)).lo_ (by omega), ⟨by omega, by omega⟩, (hr.store (p := ⟨w.heap.size, 0, none⟩) hgl _).mono (by omega), ((Only.of_below al1).trans hcur).store (Nat.le_refl _) _⟩
  have q2 : (c == 2) = false := by rw [beq_eq_false_iff_ne]; exact h2
  by_cases h3 : c = 3
  · subst h3
    have HCELL : Hid (∀ j, j < n0 * 4 → w3.cell? ⟨ga, j, none⟩ = some (xs.getD j undef)) := Lib.hid (by
      obtain ⟨ga2, Cp2, ea, _, _, _, _, hcell, _⟩ := PRowX.rd hrow (by omega)
      obtain ⟨rfl, -, -⟩ : ga = ga2 ∧ n0 = p.length ∧ Cp = Cp2 := by simpa using ea
      rw [HN.out]; exact hcell)
    have hkp : k < p.length := by omega
    have hbv := PRowX.full hrow hkp
    obtain ⟨BV, hBV⟩ : ∃ BV : Value, BV = xs.getD (k * 4 + 3) undef := ⟨_, rfl⟩
    have b3 : w3.cell? ⟨ga, k * 4 + 3, none⟩ = some BV := by rw [hBV]; exact HCELL.out _ (by omega)
    obtain ⟨body, hbody⟩ : ∃ body : List St, body = (p.getD k default).body := ⟨_, rfl⟩
    have hbl : body.length ≤ 12 := by
      have h1 := hwk.body k (by omega) (by omega)
      have e : p.bk (k : Int) = p.getD k default := by show p.getD (k : Int).toNat default = _; rw [Int.toNat_natCast]
      rw [e] at h1; rw [hbody]; exact h1
    have hap := fun i (hi : i < p.length) (hik : i ≠ k) => hrow.apart i k hi hkp (by omega) (by omega) hik
    rw [← hBV, ← hbody] at hbv
    rw [← hBV] at hap
    have HBV := Lib.hid hBV
    have HBODY := Lib.hid hbody
    have HAP := Lib.hid hap
    obtain ⟨Ab, Cb, rfl⟩ := hbv.form
    clear hap hBV hbody
    have hk0 : (0 : Int) ≤ (k : Int) := by omega
    have hk1 : (k : Int) < (n0 : Int) := by omega
    go_wp2
    obtain ⟨W1, hW1⟩ : ∃ W1 : World, W1 = w3.drew := ⟨_, rfl⟩
    have k0 : W1.cell? ⟨PB, 0, none⟩ = some (.slice (some ⟨ga, 0, none⟩) n0 Cp) := by rw [hW1]; exact bP.cell
    have k1 : W1.cell? ⟨ga, k * 4 + 3, none⟩ = some (.slice Ab body.length Cb) := by rw [hW1]; exact b3
    have hrow : PRow W1 (w.heap.size + 1) (.slice (some ⟨ga, 0, none⟩) n0 Cp) xs p := by rw [hW1]; exact PRowX.keep hrow (below0 w3).drew
    have hbv : Stmts W1 (w.heap.size + 1) (.slice Ab body.length Cb) body := by rw [hW1]; exact hbv.keep (below0 w3).drew
    have hr := hr.drew
    rw [← hW1] at hr
    have hcur := hcur.drew
    rw [← hW1] at hcur
    have bP : BoxP W1 PB (.slice (some ⟨ga, 0, none⟩) n0 Cp) := by rw [hW1]; exact bP
    refine wp_region_T 15 (by kernel_rfl) (fun w' => w'.cell? ⟨PB, 0, none⟩ = some (.slice (some ⟨ga, 0, none⟩) n0 Cp) ∧ w'.cell? ⟨ga, k * 4 + 3, none⟩ = some (.slice Ab body.length Cb)) ?_
    rw [← hW1]
    have hS := And.intro k0 k1
    clear hW1 b3
    refine wpAnyT_take (i := 0) (oi := ⟨_, _, _, _, _, _⟩) (v := ?v2_0) (by kernel_rfl) (by decide) rfl (by kernel_rfl) (by kernel_rfl) (by kernel_rfl) (fun _ _ _ h => h) (Or.inl ⟨by rfl, ?hy2_0⟩) hS ?rest2_0
    case hy2_0 =>
      intro w' hSw
      obtain ⟨s0, s1⟩ := hSw
      go_simp
      try with_reducible rfl
    try simp only [Act.put, List.setIfInBounds_toArray, List.set_cons_zero, List.set_cons_succ]
    refine wpAnyT_take (i := 1) (oi := ⟨_, _, _, _, _, _⟩) (v := ?v2_1) (by kernel_rfl) (by decide) rfl (by kernel_rfl) (by kernel_rfl) (by kernel_rfl) (fun _ _ _ h => h) (Or.inl ⟨by rfl, ?hy2_1⟩) hS ?rest2_1
    case hy2_1 =>
      intro w' hSw
      obtain ⟨s0, s1⟩ := hSw
      go_simp
      try with_reducible rfl
    try simp only [Act.put, List.setIfInBounds_toArray, List.set_cons_zero, List.set_cons_succ]
    refine wpAnyT_take (i := 2) (oi := ⟨_, _, _, _, _, _⟩) (v := ?v2_2) (by kernel_rfl) (by decide) rfl (by kernel_rfl) (by kernel_rfl) (by kernel_rfl) (fun _ _ _ h => h) (Or.inl ⟨by rfl, ?hy2_2⟩) hS ?rest2_2
    case hy2_2 =>
      intro w' hSw
      obtain ⟨s0, s1⟩ := hSw
      go_simp
      try with_reducible rfl
    try simp only [Act.put, List.setIfInBounds_toArray, List.set_cons_zero, List.set_cons_succ]
    refine wpAnyT_take (i := 3) (oi := ⟨_, _, _, _, _, _⟩) (v := ?v2_3) (by kernel_rfl) (by decide) rfl (by kernel_rfl) (by kernel_rfl) (by kernel_rfl) (fun _ _ _ h => h) (Or.inl ⟨by rfl, ?hy2_3⟩) hS ?rest2_3
    case hy2_3 =>
      intro w' hSw
      obtain ⟨s0, s1⟩ := hSw
      go_simp
      try with_reducible rfl
    try simp only [Act.put, List.setIfInBounds_toArray, List.set_cons_zero, List.set_cons_succ]
    refine wpAnyT_take (i := 4) (oi := ⟨_, _, _, _, _, _⟩) (v := ?v2_4) (by kernel_rfl) (by decide) rfl (by kernel_rfl) (by kernel_rfl) (by kernel_rfl) (fun _ _ _ h => h) (Or.inl ⟨by rfl, ?hy2_4⟩) hS ?rest2_4
    case hy2_4 =>
      intro w' hSw
      obtain ⟨s0, s1⟩ := hSw
      go_simp
      try with_reducible rfl
    try simp only [Act.put, List.setIfInBounds_toArray, List.set_cons_zero, List.set_cons_succ]
    refine wpAnyT_take (i := 5) (oi := ⟨_, _, _, _, _, _⟩) (v := ?v2_5) (by kernel_rfl) (by decide) rfl (by kernel_rfl) (by kernel_rfl) (by kernel_rfl) (fun _ _ _ h => h) (Or.inl ⟨by rfl, ?hy2_5⟩) hS ?rest2_5
    case hy2_5 =>
      intro w' hSw
      obtain ⟨s0, s1⟩ := hSw
      go_simp
      try with_reducible rfl
    try simp only [Act.put, List.setIfInBounds_toArray, List.set_cons_zero, List.set_cons_succ]
    refine wpAnyT_take (i := 6) (oi := ⟨_, _, _, _, _, _⟩) (v := ?v2_6) (by kernel_rfl) (by decide) rfl (by kernel_rfl) (by kernel_rfl) (by kernel_rfl) (fun _ _ _ h => h) (Or.inl ⟨by rfl, ?hy2_6⟩) hS ?rest2_6
    case hy2_6 =>
      intro w' hSw
      obtain ⟨s0, s1⟩ := hSw
      go_simp
      try with_reducible rfl
    try simp only [Act.put, List.setIfInBounds_toArray, List.set_cons_zero, List.set_cons_succ]
    refine wpAnyT_take (i := 7) (oi := ⟨_, _, _, _, _, _⟩) (v := ?v2_7) (by kernel_rfl) (by decide) rfl (by kernel_rfl) (by kernel_rfl) (by kernel_rfl) (fun _ _ _ h => h) (Or.inl ⟨by rfl, ?hy2_7⟩) hS ?rest2_7
    case hy2_7 =>
      intro w' hSw
      obtain ⟨s0, s1⟩ := hSw
      go_simp
      try with_reducible rfl
    try simp only [Act.put, List.setIfInBounds_toArray, List.set_cons_zero, List.set_cons_succ]
    refine wpAnyT_take (i := 8) (oi := ⟨_, _, _, _, _, _⟩) (v := ?v2_8) (by kernel_rfl) (by decide) rfl (by kernel_rfl) (by kernel_rfl) (by kernel_rfl) (fun _ _ _ h => h) (Or.inl ⟨by rfl, ?hy2_8⟩) hS ?rest2_8
    case hy2_8 =>
      intro w' hSw
      obtain ⟨s0, s1⟩ := hSw
      go_simp
      try with_reducible rfl
    try simp only [Act.put, List.setIfInBounds_toArray, List.set_cons_zero, List.set_cons_succ]
    refine wpAnyT_take (i := 9) (oi := ⟨_, _, _, _, _, _⟩) (v := ?v2_9) (by kernel_rfl) (by decide) rfl (by kernel_rfl) (by kernel_rfl) (by kernel_rfl) (fun _ _ _ h => h) (Or.inl ⟨by rfl, ?hy2_9⟩) hS ?rest2_9
    case hy2_9 =>
      intro w' hSw
      obtain ⟨s0, s1⟩ := hSw
      go_simp
      try with_reducible rfl
    try simp only [Act.put, List.setIfInBounds_toArray, List.set_cons_zero, List.set_cons_succ]
    refine wpAnyT_ready1 (i := 10) (o := ⟨_, _, _, _, _, _⟩) (by kernel_rfl) rfl (fun K hK => ?_)
    go_simp
    have K1 := Lib.hid k1
    have hx := al1 (w := W1) (o := .cells (([8, -1] : List Int).map (Value.int .i64)).toArray 3)
    have k0 := cell_later hx k0
    have k1 := cell_later hx k1
    have hS := And.intro k0 k1
    refine hK _ _ (fun _ => hS) ?_
    try simp only [Act.put, List.setIfInBounds_toArray, List.set_cons_zero, List.set_cons_succ]
    refine wpAnyT_ready1 (i := 11) (o := ⟨_, _, _, _, _, _⟩) (by kernel_rfl) rfl (fun K hK => ?_)
    go_simp
    go_at_call 81
    refine (S_oneL g _ [8, -1] W1 _ rfl hr (by omega) (by simp) (by simp)).mono ?_
    rintro e w2 ⟨z, rfl, hz, hr, ho⟩
    have hcur := hcur.trans ho
    have bP := bP.only ho (by omega)
    have hrow := PRowX.only hrow ho (by omega)
    have hbv := Stmts.only hbv ho (by omega)
    have k0 := bP.cell
    have k1 := cell_only ho K1.out (by omega)
    have hS := And.intro k0 k1
    clear hz ho
    refine hK _ _ (fun _ => hS) ?_
    try simp only [Act.put, List.setIfInBounds_toArray, List.set_cons_zero, List.set_cons_succ]
    refine wpAnyT_take (i := 12) (oi := ⟨_, _, _, _, _, _⟩) (v := ?v2_12) (by kernel_rfl) (by decide) rfl (by kernel_rfl) (by kernel_rfl) (by kernel_rfl) (fun _ _ _ h => h) (Or.inl ⟨by rfl, ?hy2_12⟩) hS ?rest2_12
    case hy2_12 =>
      intro w' hSw
      obtain ⟨s0, s1⟩ := hSw
      go_simp
      try with_reducible rfl
    try simp only [Act.put, List.setIfInBounds_toArray, List.set_cons_zero, List.set_cons_succ]
    refine wpAnyT_ready1 (i := 13) (o := ⟨_, _, _, _, _, _⟩) (by kernel_rfl) rfl (fun K hK => ?_)
    go_simp
    have hx := al1 (w := w2) (o := .cells #[.int .i64 1, .int .i64 z, .int .i64 0, .int .i64 0] 75)
    have hone := Stmts.one (w := w2) (B := w2.heap.size) (lo := 0) rfl (Nat.zero_le _) 1 z 0 0
    have hrow := PRowX.keep hrow hx
    have hbv := hbv.keep hx
    have hr := hr.keep hx
    have hcur := hcur.trans (Only.of_below hx)
    have bP := bP.below hx (lt_of_block bP)
    have k0 := cell_later hx k0
    have k1 := cell_later hx k1
    have hS := And.intro k0 k1
    refine hK _ _ (fun _ => hS) ?_
    try simp only [Act.put, List.setIfInBounds_toArray, List.set_cons_zero, List.set_cons_succ]
    refine wpAnyT_ready1 (i := 14) (o := ⟨_, _, _, _, _, _⟩) (by kernel_rfl) rfl (fun K hK => ?_)
    refine step_append_stmts rfl _ _ rfl _ _ body [⟨1, z, 0, 0⟩] (w.heap.size + 1) rfl rfl hbv hone.feed (by simp; omega) (by have := lt_of_block bP; omega) ?_
    intro bv w5 hbo hg5 hb5 hf5
    have hneP := bP.ne hbv (by decide)
    have hneR := own_types hrow.own hbv (by decide)
    have hge := own_block_ge hbv
    have hPne : some PB ≠ (Value.slice Ab body.length Cb).ownBlock := fun hc => by
      rcases hneP with h | h
      · rw [h] at hc; cases hc
      · exact h hc.symm
    have hgne : some ga ≠ (Value.slice Ab body.length Cb).ownBlock := fun hc => by
      rcases hneR with h | h
      · cases h
      · exact h hc
    have k0 := hg5.cell k0 hPne
    have k1 := hg5.cell k1 hgne
    have hS := And.intro k0 k1
    have bP := bP.grown hg5 hPne
    have hap5 : ∀ i, i < p.length → i ≠ k → Apart (xs.getD (i * 4 + 3) undef) bv := fun i hi hik => Apart.from_ (HAP.out i hi hik) (PRowX.full hrow hi) hf5 (Nat.le_refl _)
    have hrow5 : PRowX w5 (w.heap.size + 1) (.slice (some ⟨ga, 0, none⟩) n0 Cp) xs p k := PRowX.grown hrow hkp (by rw [← HBV.out]; exact hg5)
    have hr := hr.grown hg5 (fun r hc => by have := hge r hc; omega)
    have hcur := hcur.grow hg5 (fun r hc => by have := hge r hc; simp only [World.size_alloc]; omega)
    have f3 : w5.frozen? ⟨ga, k * 4 + 3, none⟩ = false := by
      obtain ⟨ga2, Cp2, ea, _, _, _, _, _, hfz⟩ := PRowX.rd hrow5 (by omega)
      obtain ⟨rfl, -, -⟩ : ga = ga2 ∧ n0 = p.length ∧ Cp = Cp2 := by simpa using ea
      exact hfz _
    obtain ⟨A5, C5, rfl⟩ := hbo.form
    rw [show (body ++ [(⟨1, z, 0, 0⟩ : St)]).length = body.length + 1 by simp] at hbo hap5
    clear hrow
    refine hK _ _ (fun _ => hS) ?_
    try simp only [Act.put, List.setIfInBounds_toArray, List.set_cons_zero, List.set_cons_succ]
    refine wpAnyT_ready1 (i := 15) (o := ⟨_, _, _, _, _, _⟩) (by kernel_rfl) rfl (fun K hK => ?_)
    go_simp
    refine hK _ _ (fun h => absurd h (by decide)) ?_
    try simp only [Act.put, List.setIfInBounds_toArray, List.set_cons_zero, List.set_cons_succ]
    refine wpAnyT_ready1 (i := 16) (o := ⟨_, _, _, _, _, _⟩) (by kernel_rfl) rfl (fun K hK => ?_)
    go_simp
    refine hK _ _ (fun h => absurd h (by decide)) ?_
    try simp only [Act.put, List.setIfInBounds_toArray, List.set_cons_zero, List.set_cons_succ]
    refine wpAnyT_ready1 (i := 17) (o := ⟨_, _, _, _, _, _⟩) (by kernel_rfl) rfl (fun K hK => ?_)
    go_simp
    refine hK _ _ (fun h => absurd h (by decide)) ?_
    try simp only [Act.put, List.setIfInBounds_toArray, List.set_cons_zero, List.set_cons_succ]
    refine wpAnyT_done (by kernel_rfl) ?_ _
    have hrow := PRowX.setBody (l := body ++ [(⟨1, z, 0, 0⟩ : St)]) hrow5 hkp hbo hap5
    have hpl2 : (p.set k { p.getD k default with body := body ++ [(⟨1, z, 0, 0⟩ : St)] }).length = n0 := by rw [List.length_set]; exact hpn
    generalize xs.set (k * 4 + 3) (.slice A5 (body.length + 1) C5) = xs2 at hrow
    generalize p.set k { p.getD k default with body := body ++ [(⟨1, z, 0, 0⟩ : St)] } = p2 at hrow hpl2
    have bP := bP.other ⟨ga, k * 4 + 3, none⟩ (.slice A5 (body.length + 1) C5) (by show PB ≠ ga; omega)
    have hr := hr.store (p := ⟨ga, k * 4 + 3, none⟩) (by show g < ga; omega) (.slice A5 (body.length + 1) C5)
    have hcur := hcur.store (p := ⟨ga, k * 4 + 3, none⟩) (by show _ ≤ ga; simp only [World.size_alloc]; omega) (.slice A5 (body.length + 1) C5)
    obtain ⟨wv, hwv⟩ : ∃ wv : World, wv = w5.setCell ⟨ga, k * 4 + 3, none⟩ (.slice A5 (body.length + 1) C5) := ⟨_, rfl⟩
    rw [← hwv] at hrow bP hr hcur ⊢
    clear hwv k0 k1 hS f3 hrow5 hbo
    have cP := bP.cell
    have r1 := fun o => (ocell hcur).1 w.heap.size o (by omega) (by simp)
    have m1 := fun o => (ocell hcur).2 w.heap.size o (by omega) (by simp)
    go_wp2
    exact bodyPost_ret (v := .agg #[.slice (some ⟨ga, 0, none⟩) n0 Cp]) (by simp [results, Try.results39, go_sem, r1]) rfl
      ⟨_, xs2, p2, rfl, (PRowX.only hrow ((Only.refl w.heap.size (w.heap.size + 1) _).setCell (Nat.le_refl _) (Nat.lt_succ_self _) _) (Nat.le_refl _)).lo_ (by omega), ⟨by omega, by omega⟩, (hr.store (p := ⟨w.heap.size, 0, none⟩) hgl _).mono (by omega), ((Only.of_below al1).trans hcur).store (Nat.le_refl _) _⟩
  have q3 : (c == 3) = false := by rw [beq_eq_false_iff_ne]; exact h3
  by_cases h4 : c = 4
  · subst h4
    have hrow := PRowX.keep hrow (below0 w3).drew
    have hr := hr.drew
    have hcur := hcur.drew
    have cP : w3.cell? ⟨PB, 0, none⟩ = some (.slice (some ⟨ga, 0, none⟩) n0 Cp) := bP.cell
    have bP : BoxP w3.drew PB (.slice (some ⟨ga, 0, none⟩) n0 Cp) := bP
    go_wp2
    go_region_held3 (fun w' => w'.cell? ⟨PB, 0, none⟩ = some (.slice (some ⟨ga, 0, none⟩) n0 Cp))
      (first | go_keep | exact cP | exact (bP.other _ _ (show PB ≠ ga by omega)).cell | exact (bP.cellx (show PB ≠ ga by omega) zP))
      (first
        | (go_at_call 81
           refine (S_oneL g _ [8, 1] _ _ rfl hr (by omega) (by simp) (by simp)).mono ?_
           rintro e wu ⟨z, rfl, hz, hr, ho⟩
           have hcur := hcur.trans ho
           have bP := bP.only ho (by omega)
           have hrow := PRowX.only hrow ho (by omega)
           have cP := bP.cell
           have zP := lt_of_block bP
           obtain ⟨ga2, Cp2, ea, _, _, _, _, hcell2, hfz2⟩ := PRowX.rd hrow (by omega)
           obtain ⟨rfl, -, -⟩ : ga = ga2 ∧ n0 = p.length ∧ Cp = Cp2 := by simpa using ea
           have f3 := hfz2 (k * 4 + 2)
           have d3 := hcell2 (k * 4 + 2) (by omega)
           have zga : ga < wu.heap.size := by omega
           clear ho hz hcell2 hfz2 ea))
    all_goals
      have hpl : Ints (wu.alloc (.cells #[.int .i64 z, .int .i64 2] 3)) (w.heap.size + 1) (.slice (some ⟨wu.heap.size, 0, none⟩) 2 2) [z, 2] := by simpa using Ints.lit wu (w.heap.size + 1) [z, 2] (by omega) (by simp)
      have hrow := PRowX.setParams (PRowX.keep hrow (al1 (o := .cells #[.int .i64 z, .int .i64 2] 3))) (by omega : k < p.length) hpl
      have hpl2 : (p.set k { p.getD k default with params := [z, 2] }).length = n0 := by rw [List.length_set]; exact hpn
      generalize xs.set (k * 4 + 2) (.slice (some ⟨wu.heap.size, 0, none⟩) 2 2) = xs2 at hrow
      generalize p.set k { p.getD k default with params := [z, 2] } = p2 at hrow hpl2
      have bP := (bP.below (al1 (o := .cells #[.int .i64 z, .int .i64 2] 3)) zP).other ⟨ga, k * 4 + 2, none⟩ (.slice (some ⟨wu.heap.size, 0, none⟩) 2 2) (by show PB ≠ ga; omega)
      have hr := (hr.keep (al1 (o := .cells #[.int .i64 z, .int .i64 2] 3))).store (p := ⟨ga, k * 4 + 2, none⟩) (by show g < ga; omega) (.slice (some ⟨wu.heap.size, 0, none⟩) 2 2)
      have hcur := (hcur.alloc (.cells #[.int .i64 z, .int .i64 2] 3)).store (p := ⟨ga, k * 4 + 2, none⟩) (by show _ ≤ ga; simp only [World.size_alloc]; omega) (.slice (some ⟨wu.heap.size, 0, none⟩) 2 2)
      have ew : (wu.alloc (.cells #[.int .i64 z, .int .i64 2] 3)).setCell ⟨ga, k * 4 + 2, none⟩ (.slice (some ⟨wu.heap.size, 0, none⟩) 2 2) = (wu.setCell ⟨ga, k * 4 + 2, none⟩ (.slice (some ⟨wu.heap.size, 0, none⟩) 2 2)).alloc (.cells #[.int .i64 z, .int .i64 2] 3) := by
        simp [go_sem, zga]
      rw [ew] at hrow bP hr hcur
      obtain ⟨wv, hwv⟩ : ∃ wv : World, wv = (wu.setCell ⟨ga, k * 4 + 2, none⟩ (.slice (some ⟨wu.heap.size, 0, none⟩) 2 2)).alloc (.cells #[.int .i64 z, .int .i64 2] 3) := ⟨_, rfl⟩
      rw [← hwv] at hrow bP hr hcur ⊢
      clear ew
      clear hwv cP hpl
      have cP := bP.cell
      have r1 := fun o => (ocell hcur).1 w.heap.size o (by omega) (by simp)
      have m1 := fun o => (ocell hcur).2 w.heap.size o (by omega) (by simp)
      go_wp2
      exact bodyPost_ret (v := .agg #[.slice (some ⟨ga, 0, none⟩) n0 Cp]) (by simp [results, Try.results39, go_sem, r1]) rfl
        ⟨_, xs2, p2, rfl, (PRowX.only hrow ((Only.refl w.heap.size (w.heap.size + 1) _).setCell (Nat.le_refl _) (Nat.lt_succ_self _) _) (Nat.le_refl _)).lo_ (by omega), ⟨by omega, by omega⟩, (hr.store (p := ⟨w.heap.size, 0, none⟩) hgl _).mono (by omega), ((Only.of_below al1).trans hcur).store (Nat.le_refl _) _⟩
  have q4 : (c == 4) = false := by rw [beq_eq_false_iff_ne]; exact h4
  have cP := bP.cell
  have r1 := fun o => (ocell hcur).1 w.heap.size o (by omega) (by simp)
  have m1 := fun o => (ocell hcur).2 w.heap.size o (by omega) (by simp)
  go_wp2
  exact bodyPost_ret (v := .agg #[.slice (some ⟨ga, 0, none⟩) n0 Cp]) (by simp [results, Try.results39, go_sem, r1]) rfl
    ⟨_, _, _, rfl, (PRowX.only hrow ((Only.refl w.heap.size (w.heap.size + 1) _).setCell (Nat.le_refl _) (Nat.lt_succ_self _) _) (Nat.le_refl _)).lo_ (by omega), (by omega), (hr.store (p := ⟨w.heap.size, 0, none⟩) hgl _).mono (by omega), ((Only.of_below al1).trans hcur).store (Nat.le_refl _) _⟩

end Go.Proofs.Ytelhemhbgpfokaa
