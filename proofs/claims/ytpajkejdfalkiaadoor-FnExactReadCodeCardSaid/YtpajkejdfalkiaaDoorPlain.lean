/-
  Plain Lean, no program in sight: programs of blocks as data, and what the functions of the program and of the reference compute, as functions on that data. No condition.
-/
namespace Go.Proofs.YtpajkejdfalkiaaDoor

structure St where
  kind : Int
  to : Int
  a : Int
  b : Int
  deriving DecidableEq, Inhabited

structure Bk where
  kind : Int
  parent : Int
  params : List Int
  body : List St
  deriving DecidableEq, Inhabited

abbrev Pr := List Bk

/-- The block with an index. -/
def Pr.bk (p : Pr) (b : Int) : Bk := p.getD b.toNat default

/-- Is n between two numbers? -/
def inR (n lo hi : Int) : Bool := decide (lo ≤ n ∧ n ≤ hi)
def isNm (x : Int) : Bool := inR x 0 7
theorem inR_iff {n lo hi : Int} : inR n lo hi = true ↔ lo ≤ n ∧ n ≤ hi := by simp [inR]
theorem isNm_iff {x : Int} : isNm x = true ↔ 0 ≤ x ∧ x ≤ 7 := inR_iff

/-- The names 0 .. 7 for which f holds, ascending. -/
def names (f : Int → Bool) : List Int := ([0, 1, 2, 3, 4, 5, 6, 7] : List Int).filter f

namespace St
def reads (s : St) : List Int :=
  if s.kind = 1 ∨ s.kind = 6 ∨ s.kind = 7 ∨ s.kind = 8 then [s.a]
  else if s.kind = 2 then [s.a, s.b]
  else if s.kind = 5 then (if s.b = -1 then [s.a] else [s.a, s.b])
  else []
def sets (s : St) : Bool := inR s.kind 0 6
def binds (s : St) : Bool := decide ((0 ≤ s.kind ∧ s.kind ≤ 6) ∨ s.kind = 11)
def decl (s : St) : Bool := decide (s.kind = 9 ∨ s.kind = 10)
def makes (s : St) : Bool := decide (s.kind = 3 ∨ s.kind = 4)
end St

namespace Bk
def readB (k : Bk) (x : Int) : Bool := k.body.any fun s => s.reads.contains x
def boundB (k : Bk) (x : Int) : Bool := k.params.contains x || k.body.any fun s => s.binds && s.to == x
def declB (k : Bk) (d : Int) (x : Int) : Bool := k.body.any fun s => s.kind == d && s.to == x
def declsB (k : Bk) (x : Int) : Bool := k.declB 9 x || k.declB 10 x
def usesB (k : Bk) (x : Int) : Bool := k.readB x || k.boundB x || k.declsB x
/-- Is x local, where the block is not the block 0? -/
def locB (k : Bk) (x : Int) : Bool := k.boundB x && !k.declsB x
end Bk

/-- Is a statement all right? mk: does it make the block that it says; dc: may it declare; fn: may it return. -/
def stmtG (mk : Int → Int → Bool) (dc fn : Bool) (s : St) : Bool :=
  isNm s.to && (
    if s.kind = 0 then inR s.a 0 99 && s.b == 0
    else if s.kind = 1 then isNm s.a && s.b == 0
    else if s.kind = 2 then isNm s.a && isNm s.b
    else if s.kind = 3 then s.b == 0 && mk s.a 1
    else if s.kind = 4 then s.b == 0 && mk s.a 2
    else if s.kind = 5 then isNm s.a && (s.b == -1 || isNm s.b)
    else if s.kind = 6 then isNm s.a && isNm s.b
    else if s.kind = 7 then isNm s.a && (s.to == 0 && s.b == 0)
    else if s.kind = 8 then isNm s.a && (s.to == 0 && (s.b == 0 && fn))
    else if s.kind = 9 ∨ s.kind = 10 then s.a == 0 && (s.b == 0 && dc)
    else if s.kind = 11 then s.a == 0 && s.b == 0
    else false)

/-- The same, the names that it reads first. -/
def restG (mk : Int → Int → Bool) (dc fn : Bool) (s : St) : Bool :=
  if s.kind = 0 then inR s.a 0 99 && s.b == 0
  else if s.kind = 1 then s.b == 0
  else if s.kind = 2 then true
  else if s.kind = 3 then s.b == 0 && mk s.a 1
  else if s.kind = 4 then s.b == 0 && mk s.a 2
  else if s.kind = 5 then true
  else if s.kind = 6 then isNm s.b
  else if s.kind = 7 then s.to == 0 && s.b == 0
  else if s.kind = 8 then s.to == 0 && (s.b == 0 && fn)
  else if s.kind = 9 ∨ s.kind = 10 then s.a == 0 && (s.b == 0 && dc)
  else if s.kind = 11 then s.a == 0 && s.b == 0
  else false

theorem stmtG_eq (mk : Int → Int → Bool) (dc fn : Bool) (s : St) : stmtG mk dc fn s = (isNm s.to && (s.reads.all isNm && restG mk dc fn s)) := by
  obtain ⟨k, t, a, b⟩ := s
  simp only [stmtG, restG, St.reads]
  congr 1
  by_cases h0 : k = 0
  · subst h0; simp
  by_cases h1 : k = 1
  · subst h1; simp
  by_cases h2 : k = 2
  · subst h2; simp
  by_cases h3 : k = 3
  · subst h3; simp
  by_cases h4 : k = 4
  · subst h4; simp
  by_cases h5 : k = 5
  · subst h5
    by_cases hb : b = -1
    · simp [hb]
    · have hb1 : (b == -1) = false := by simp [hb]
      simp [hb, hb1]
  by_cases h6 : k = 6
  · subst h6; simp
  by_cases h7 : k = 7
  · subst h7; simp
  by_cases h8 : k = 8
  · subst h8; simp
  simp [h0, h1, h2, h3, h4, h5, h6, h7, h8]

/-- Is k a block of a kind in the block b, behind it? (the reference) -/
def madeS (p : Pr) (b k d : Int) : Bool := inR k (b + 1) (p.length - 1) && ((p.bk k).kind == d && (p.bk k).parent == b)
/-- Is k a block of a kind in the block b? (the program) -/
def madeI (p : Pr) (b k d : Int) : Bool := inR k 0 (p.length - 1) && ((p.bk k).kind == d && (p.bk k).parent == b)

def stmtS (p : Pr) (b : Int) (s : St) : Bool := stmtG (madeS p b) ((p.bk b).kind != 0) ((p.bk b).kind == 1) s
def stmtI (p : Pr) (b : Int) (s : St) : Bool := stmtG (madeI p b) (b != 0) ((p.bk b).kind == 1) s

/-- Is a block with an index all right but for its body? -/
def headOk (i : Int) (k : Bk) : Bool :=
  if i = 0 then k.kind == 0 && (k.parent == -1 && (k.params.length : Int) == 0)
  else inR k.parent 0 (i - 1) && (inR k.kind 1 2 && ((k.params.length : Int) == 0 || (k.params.length : Int) == 1 && (k.kind == 1 && isNm (k.params.getD 0 0))))

/-- How often the statements make a block. -/
def madeBy (l : List St) (k : Int) : Nat := l.countP fun s => s.makes && s.a == k
def madeIn (p : Pr) (k : Int) : Nat := madeBy (p.bk (p.bk k).parent).body k

def blockS (p : Pr) (b : Int) : Bool := headOk b (p.bk b) && (decide ((p.bk b).body.length ≤ 12) && (p.bk b).body.all (stmtS p b))
def shape (p : Pr) : Bool :=
  inR p.length 1 7 && ((List.range p.length).all (fun i => blockS p i) && (List.range p.length).all (fun i => i == 0 || madeIn p i == 1))

end Go.Proofs.YtpajkejdfalkiaaDoor
