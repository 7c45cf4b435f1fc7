/-
  Plain Lean: texts of orders: lines and words cut at a byte, the words of codes, numbers of at most two digits, and what ReadCode answers. No condition.
-/
import Derived.Lib.SplitLaws
import Derived.Lib.IndexLaws
import Derived.Lib.IndexBytes
import Derived.Laws.Strings
namespace Go.Proofs.YtpajkejdfalkiaaDoor
open Go.Lib
set_option linter.unusedVariables false

/-- A text cut at each byte c. -/
def splitL (c : UInt8) : List UInt8 → List (List UInt8)
  | [] => [[]]
  | b :: r => if b = c then [] :: splitL c r else match splitL c r with | [] => [[b]] | h :: t => (b :: h) :: t
theorem splitL_ne (c : UInt8) : ∀ l, splitL c l ≠ []
  | [] => by simp [splitL]
  | b :: r => by
    unfold splitL
    split
    · simp
    · split <;> simp
theorem splitL_cons {c b : UInt8} {r h : List UInt8} {t : List (List UInt8)} (hb : b ≠ c) (e : splitL c r = h :: t) : splitL c (b :: r) = (b :: h) :: t := by
  rw [splitL, if_neg hb, e]
theorem splitL_miss (c : UInt8) : ∀ A : List UInt8, (∀ x ∈ A, x ≠ c) → splitL c A = [A]
  | [], _ => rfl
  | b :: r, h => splitL_cons (h b (by simp)) (splitL_miss c r (fun x hx => h x (by simp [hx])))
theorem splitL_hit (c : UInt8) (R : List UInt8) : ∀ A : List UInt8, (∀ x ∈ A, x ≠ c) → splitL c (A ++ c :: R) = A :: splitL c R
  | [], _ => by rw [List.nil_append, splitL, if_pos rfl]
  | b :: r, h => splitL_cons (h b (by simp)) (splitL_hit c R r (fun x hx => h x (by simp [hx])))
theorem splitL_len (c : UInt8) : ∀ l, (splitL c l).length ≤ l.length + 1
  | [] => by simp [splitL]
  | b :: r => by
    have ih := splitL_len c r
    unfold splitL
    split
    · simp; omega
    · split
      · simp
      · next h t e => rw [e] at ih; simp at ih ⊢; omega
theorem splitK_one (c : UInt8) : ∀ (n : Nat) (l : List UInt8), l.length ≤ n → splitK [c] 0 (count l [c]) l = splitL c l := by
  intro n
  induction n with
  | zero =>
    intro l h
    obtain rfl : l = [] := List.eq_nil_of_length_eq_zero (by omega)
    rw [count_miss (by simp [index])]
    rfl
  | succ n ih =>
    intro l h
    by_cases hm : index l [c] = -1
    · rw [count_miss hm, splitL_miss c l]
      · rfl
      · intro x hx e
        rw [index_one] at hm
        obtain ⟨k, hk⟩ := List.mem_iff_getElem?.1 hx
        exact indexByte_none hm k (by rw [hk, e])
    · have hge := index_ge l [c]
      obtain ⟨j, hj⟩ : ∃ j : Nat, index l [c] = j := ⟨(index l [c]).toNat, by omega⟩
      have hj2 := hj
      rw [index_one] at hj2
      obtain ⟨h1, h2⟩ := indexByte_some hj2
      obtain ⟨hjl, hjc⟩ := List.getElem?_eq_some_iff.1 h1
      rw [count_hit (by simp) hj, Nat.add_comm 1, splitK, if_neg (fun e => hm (beq_iff_eq.1 e)), hj]
      have e : l = l.take j ++ c :: l.drop (j + 1) := by
        conv => lhs; rw [← List.take_append_drop j l, List.drop_eq_getElem_cons hjl, hjc]
      have hA : ∀ x ∈ l.take j, x ≠ c := by
        intro x hx e
        obtain ⟨k, hk⟩ := List.mem_iff_getElem?.1 hx
        rw [List.getElem?_take] at hk
        split at hk
        · next hlt => exact h2 k hlt (by rw [hk, e])
        · cases hk
      conv => rhs; rw [e, splitL_hit c _ _ hA]
      simp only [Int.toNat_natCast, Nat.add_zero, List.length_cons, List.length_nil, Nat.zero_add]
      rw [ih _ (by rw [List.length_drop]; omega)]

/-- The pieces, as strings. -/
def spl (c : UInt8) (s : ByteArray) : List ByteArray := (splitL c s.data.toList).map fun l => ⟨l.toArray⟩
theorem mk_data (b : ByteArray) : (⟨b.data.toList.toArray⟩ : ByteArray) = b := by
  obtain ⟨⟨l⟩⟩ := b
  rfl
theorem map_mk_data (l : List ByteArray) : (l.map (·.data.toList)).map (fun l => (⟨l.toArray⟩ : ByteArray)) = l := by
  rw [List.map_map]
  conv => rhs; rw [← List.map_id l]
  congr 1
theorem splitB_spl (c : UInt8) (s : ByteArray) : splitB ⟨#[c]⟩ 0 (countB s ⟨#[c]⟩) s = spl c s := by
  have h := splitB_data ⟨#[c]⟩ 0 (countB s ⟨#[c]⟩) s
  have e : splitK (⟨#[c]⟩ : ByteArray).data.toList 0 (countB s ⟨#[c]⟩) s.data.toList = splitL c s.data.toList := splitK_one c _ _ (Nat.le_refl _)
  rw [e] at h
  unfold spl
  rw [← h, map_mk_data]
theorem spl_len (c : UInt8) (s : ByteArray) : 1 ≤ (spl c s).length ∧ (spl c s).length ≤ s.size + 1 := by
  unfold spl
  rw [List.length_map]
  have h1 := splitL_len c s.data.toList
  have h2 := splitL_ne c s.data.toList
  have h3 : (splitL c s.data.toList).length ≠ 0 := fun h => h2 (List.eq_nil_of_length_eq_zero h)
  have h4 : s.data.toList.length = s.size := by rw [Array.length_toList]; rfl
  omega
theorem countB_spl (c : UInt8) (s : ByteArray) : countB s ⟨#[c]⟩ + 1 = (spl c s).length := by
  rw [← splitB_spl, splitB_all ⟨#[c]⟩ (Nat.le_refl 1) 0 _ s rfl]

/-- The pieces of what lies behind place f. -/
def splFrom (c : UInt8) (s : ByteArray) (f : Nat) : List ByteArray := (splitL c (s.data.toList.drop f)).map fun l => ⟨l.toArray⟩
theorem splFrom_zero (c : UInt8) (s : ByteArray) : splFrom c s 0 = spl c s := rfl
theorem extract_mk (s : ByteArray) (a b : Nat) : s.extract a b = ⟨((s.data.toList.drop a).take (b - a)).toArray⟩ := by
  rw [← mk_data (s.extract a b), extract_data]
theorem byte_at (s : ByteArray) (i : Nat) (h : i < s.size) : s.data.toList[i]? = some s[i] := by
  have h' : i < s.data.toList.length := by rw [Array.length_toList]; exact h
  rw [List.getElem?_eq_getElem h']
  rfl
theorem splFrom_hit {c : UInt8} {s : ByteArray} {f i : Nat} (hf : f ≤ i) (hi : i < s.size) (hc : s[i] = c) (hn : ∀ k, f ≤ k → (hk : k < i) → s[k]'(by omega) ≠ c) : splFrom c s f = s.extract f i :: splFrom c s (i + 1) := by
  have hL : s.data.toList.length = s.size := by rw [Array.length_toList]; rfl
  have e : s.data.toList.drop f = (s.data.toList.drop f).take (i - f) ++ c :: s.data.toList.drop (i + 1) := by
    have hl : i - f < (s.data.toList.drop f).length := by rw [List.length_drop]; omega
    have hx : (s.data.toList.drop f)[i - f] = c := by
      rw [List.getElem_drop]
      have h1 := byte_at s i hi
      rw [hc] at h1
      have h2 : s.data.toList[f + (i - f)]? = some c := by rw [show f + (i - f) = i by omega]; exact h1
      exact (List.getElem?_eq_some_iff.1 h2).2
    conv => lhs; rw [← List.take_append_drop (i - f) (s.data.toList.drop f), List.drop_eq_getElem_cons hl, hx, List.drop_drop]
    rw [show f + (i - f + 1) = i + 1 by omega]
  unfold splFrom
  rw [e, splitL_hit c _ _ (by
    intro x hx hxc
    obtain ⟨k, hk⟩ := List.mem_iff_getElem?.1 hx
    rw [List.getElem?_take] at hk
    split at hk
    · next hlt =>
      rw [List.getElem?_drop, byte_at s (f + k) (by omega)] at hk
      exact hn (f + k) (by omega) (by omega) ((Option.some.inj hk).trans hxc)
    · cases hk), List.map_cons, ← extract_mk]
theorem splFrom_end {c : UInt8} {s : ByteArray} {f : Nat} (hn : ∀ k, f ≤ k → (hk : k < s.size) → s[k] ≠ c) : splFrom c s f = [s.extract f s.size] := by
  unfold splFrom
  rw [splitL_miss c _ (by
    intro x hx hxc
    obtain ⟨k, hk⟩ := List.mem_iff_getElem?.1 hx
    rw [List.getElem?_drop] at hk
    have hl := (List.getElem?_eq_some_iff.1 hk).1
    have hs : f + k < s.size := by rw [Array.length_toList] at hl; exact hl
    rw [byte_at s (f + k) hs] at hk
    exact hn (f + k) (by omega) hs ((Option.some.inj hk).trans hxc)), List.map_cons, List.map_nil, extract_mk]
  congr 2
  rw [List.take_of_length_le (by rw [List.length_drop, Array.length_toList]; exact Nat.le_refl _)]

/-! ### words, numbers -/
/-- The words of the codes. -/
def opWd : Nat → ByteArray
  | 0 => ⟨#[116, 105, 99, 107]⟩
  | 1 => ⟨#[110, 117, 109]⟩
  | 2 => ⟨#[102, 97, 115, 116]⟩
  | 3 => ⟨#[115, 101, 116, 102, 97, 115, 116]⟩
  | 4 => ⟨#[100, 101, 108, 102, 97, 115, 116]⟩
  | 5 => ⟨#[99, 101, 108, 108]⟩
  | 6 => ⟨#[115, 101, 116, 99, 101, 108, 108]⟩
  | 7 => ⟨#[100, 101, 108, 99, 101, 108, 108]⟩
  | 8 => ⟨#[103, 108, 111, 98, 97, 108]⟩
  | 9 => ⟨#[115, 101, 116, 103, 108, 111, 98, 97, 108]⟩
  | 10 => ⟨#[100, 101, 108, 103, 108, 111, 98, 97, 108]⟩
  | 11 => ⟨#[110, 97, 109, 101]⟩
  | 12 => ⟨#[115, 101, 116, 110, 97, 109, 101]⟩
  | 13 => ⟨#[100, 101, 108, 110, 97, 109, 101]⟩
  | 14 => ⟨#[97, 100, 100]⟩
  | 15 => ⟨#[102, 117, 110]⟩
  | 16 => ⟨#[99, 108, 97, 115, 115]⟩
  | 17 => ⟨#[99, 97, 108, 108]⟩
  | 18 => ⟨#[97, 116, 116, 114]⟩
  | 19 => ⟨#[112, 114, 105, 110, 116]⟩
  | _ => ⟨#[114, 101, 116, 117, 114, 110]⟩
def wordL : List ByteArray := (List.range 21).map opWd
/-- Is a word the word number k? -/
def wdEq (w : ByteArray) (k : Nat) : Bool := (opWd k).toList == w.toList
theorem wd_diff : ∀ j k : Nat, j < 21 → k < 21 → (opWd j).toList == (opWd k).toList → j = k := by
  have h : (List.range 21).all (fun j => (List.range 21).all fun k => !((opWd j).data.toList == (opWd k).data.toList) || j == k) = true := by decide
  intro j k hj hk e
  rw [List.all_eq_true] at h
  have h1 := h j (List.mem_range.2 hj)
  rw [List.all_eq_true] at h1
  have h2 := h1 k (List.mem_range.2 hk)
  rw [ByteArray.toList_eq, ByteArray.toList_eq] at e
  rw [e] at h2
  simpa using h2
/-- The code with a word, below n; -1 if there is none. -/
def codeTo (w : ByteArray) : Nat → Int
  | 0 => -1
  | n + 1 => if codeTo w n ≠ -1 then codeTo w n else if wdEq w n then n else -1
def codeF (w : ByteArray) : Int := codeTo w 21
theorem codeTo_none {w : ByteArray} : ∀ n : Nat, (∀ k, k < n → wdEq w k = false) → codeTo w n = -1
  | 0, _ => rfl
  | n + 1, h => by
    rw [codeTo, codeTo_none n (fun k hk => h k (by omega)), h n (by omega)]
    simp
theorem codeTo_some {w : ByteArray} {j : Nat} (hj : wdEq w j = true) (hn : ∀ k, k < j → wdEq w k = false) : ∀ n : Nat, j < n → codeTo w n = j
  | 0, h => absurd h (Nat.not_lt_zero _)
  | n + 1, h => by
    rw [codeTo]
    by_cases e : j = n
    · subst e
      rw [codeTo_none j hn, hj]
      simp
    · rw [codeTo_some hj hn n (by omega), if_pos (by omega)]
theorem codeF_first {w : ByteArray} {j : Nat} (hj : wdEq w j = true) (hl : j < 21) (hn : ∀ k, k < j → wdEq w k = false) : codeF w = j := codeTo_some hj hn 21 hl
theorem codeF_none {w : ByteArray} (hn : ∀ k, k < 21 → wdEq w k = false) : codeF w = -1 := codeTo_none 21 hn
theorem wd_only {w : ByteArray} {j k : Nat} (hj : wdEq w j = true) (hk : wdEq w k = true) (h1 : j < 21) (h2 : k < 21) : j = k := by
  unfold wdEq at hj hk
  refine wd_diff j k h1 h2 ?_
  rw [beq_iff_eq] at hj hk ⊢
  rw [hj, hk]

def argB (c : Int) : Bool := decide (c ≠ 0 ∧ c ≠ 14 ∧ c ≠ 19 ∧ c ≠ 20)
/-- A byte of a string, as a number. -/
def byt (s : ByteArray) (k : Nat) : Int := if h : k < s.size then ((s[k]'h).toNat : Int) else 0
theorem get_byt (s : ByteArray) : ∀ (n : Nat) (h : n < s.size), ((s[n]'h).toNat : Int) = byt s n := fun n h => by unfold byt; rw [dif_pos h]
theorem byt_le (s : ByteArray) (k : Nat) : 0 ≤ byt s k ∧ byt s k ≤ 255 := by
  unfold byt; split
  · have := (s[k]).toNat_lt; omega
  · omega
def digB (s : ByteArray) (k : Nat) : Bool := decide (48 ≤ byt s k ∧ byt s k ≤ 57)
/-- A number of at most two digits without leading zeros; -1 if a word is none. -/
def numF (w : ByteArray) : Int :=
  if w.size = 1 then (if digB w 0 then byt w 0 - 48 else -1)
  else if w.size = 2 then (if digB w 0 && digB w 1 && decide (byt w 0 ≠ 48) then 10 * (byt w 0 - 48) + (byt w 1 - 48) else -1)
  else -1
theorem numF_range (w : ByteArray) : -1 ≤ numF w ∧ numF w ≤ 99 := by
  unfold numF digB
  split
  · split
    · next h => rw [decide_eq_true_iff] at h; omega
    · omega
  · split
    · split
      · next h =>
        rw [Bool.and_eq_true, Bool.and_eq_true, decide_eq_true_iff, decide_eq_true_iff, decide_eq_true_iff] at h
        omega
      · omega
    · omega
/-- The order of a line, if there is one. -/
def lineF (l : ByteArray) : Option (Int × Int) :=
  let ws := spl 32 l
  let c := codeF (ws.getD 0 default)
  if c = -1 then none
  else if argB c then (if ws.length = 2 ∧ numF (ws.getD 1 default) ≠ -1 then some (c, numF (ws.getD 1 default)) else none)
  else if ws.length = 1 then some (c, 0) else none
/-- The orders of the first n lines, if each has one. -/
def linesTo (ls : List ByteArray) : Nat → Option (List (Int × Int))
  | 0 => some []
  | n + 1 => (linesTo ls n).bind fun l => (lineF (ls.getD n default)).map fun o => l ++ [o]
def codeR (s : ByteArray) : Option (List (Int × Int)) :=
  if (spl 10 s).getD ((spl 10 s).length - 1) default = ByteArray.empty then linesTo (spl 10 s) ((spl 10 s).length - 1) else none
def rCodeL (s : ByteArray) : List (Int × Int) := (codeR s).getD []
def rCodeB (s : ByteArray) : Bool := (codeR s).isSome
theorem linesTo_none {ls : List ByteArray} {j : Nat} (h : lineF (ls.getD j default) = none) : ∀ n, j < n → linesTo ls n = none
  | 0, hn => absurd hn (Nat.not_lt_zero _)
  | n + 1, hn => by
    rw [linesTo]
    by_cases e : j = n
    · subst e
      rw [h]
      cases linesTo ls j <;> rfl
    · rw [linesTo_none h n (by omega)]
      rfl
theorem linesTo_len {ls : List ByteArray} : ∀ (n : Nat) {l : List (Int × Int)}, linesTo ls n = some l → l.length = n
  | 0, l, h => by
    rw [linesTo] at h
    cases h
    rfl
  | n + 1, l, h => by
    rw [linesTo] at h
    cases e : linesTo ls n with
    | none => rw [e] at h; cases h
    | some k =>
      rw [e] at h
      cases e2 : lineF (ls.getD n default) with
      | none => rw [e2] at h; cases h
      | some o =>
        rw [e2] at h
        cases h
        rw [List.length_append, linesTo_len n e]
        rfl
end Go.Proofs.YtpajkejdfalkiaaDoor
