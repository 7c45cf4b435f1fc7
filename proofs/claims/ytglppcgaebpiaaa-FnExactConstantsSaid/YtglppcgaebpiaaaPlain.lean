/-
  Plain Lean, no program in sight: programs of blocks as data, and what the functions of the program and of the reference compute, as functions on that data. No condition.
-/
namespace Go.Proofs.Ytglppcgaebpiaaa

structure St where
  kind : Int
  to : Int
  a : Int
  b : Int
  deriving DecidableEq, Inhabited

structure Bk where
  kind : Int
  parent : Int
  params : List Int
  body : List St
  deriving DecidableEq, Inhabited

abbrev Pr := List Bk

/-- The block with an index. -/
def Pr.bk (p : Pr) (b : Int) : Bk := p.getD b.toNat default

def isNm (x : Int) : Bool := decide (0 ≤ x ∧ x ≤ 7)

/-- The names 0 .. 7 for which f holds, ascending. -/
def names (f : Int → Bool) : List Int := ([0, 1, 2, 3, 4, 5, 6, 7] : List Int).filter f

namespace St
def reads (s : St) : List Int :=
  if s.kind = 1 ∨ s.kind = 6 ∨ s.kind = 7 ∨ s.kind = 8 then [s.a]
  else if s.kind = 2 then [s.a, s.b]
  else if s.kind = 5 then (if s.b = -1 then [s.a] else [s.a, s.b])
  else []
def sets (s : St) : Bool := decide (0 ≤ s.kind ∧ s.kind ≤ 6)
def binds (s : St) : Bool := decide ((0 ≤ s.kind ∧ s.kind ≤ 6) ∨ s.kind = 11)
def decl (s : St) : Bool := decide (s.kind = 9 ∨ s.kind = 10)
def makes (s : St) : Bool := decide (s.kind = 3 ∨ s.kind = 4)
end St

namespace Bk
def readB (k : Bk) (x : Int) : Bool := k.body.any fun s => s.reads.contains x
def boundB (k : Bk) (x : Int) : Bool := k.params.contains x || k.body.any fun s => s.binds && s.to == x
def declB (k : Bk) (d : Int) (x : Int) : Bool := k.body.any fun s => s.kind == d && s.to == x
def declsB (k : Bk) (x : Int) : Bool := k.declB 9 x || k.declB 10 x
def usesB (k : Bk) (x : Int) : Bool := k.readB x || k.boundB x || k.declsB x
/-- Is x local, where the block is not the block 0? -/
def locB (k : Bk) (x : Int) : Bool := k.boundB x && !k.declsB x
end Bk

/-- Is the statement s all right in the block b of p, but for what it makes? -/
def stmtOk0 (p : Pr) (b : Int) (s : St) : Bool :=
  isNm s.to && (
    if s.kind = 0 then decide (0 ≤ s.a ∧ s.a ≤ 99) && s.b == 0
    else if s.kind = 1 then isNm s.a && s.b == 0
    else if s.kind = 2 then isNm s.a && isNm s.b
    else if s.kind = 3 then s.b == 0
    else if s.kind = 4 then s.b == 0
    else if s.kind = 5 then isNm s.a && (s.b == -1 || isNm s.b)
    else if s.kind = 6 then isNm s.a && isNm s.b
    else if s.kind = 7 then isNm s.a && s.to == 0 && s.b == 0
    else if s.kind = 8 then isNm s.a && s.to == 0 && s.b == 0 && (p.bk b).kind == 1
    else if s.kind = 9 ∨ s.kind = 10 then s.a == 0 && s.b == 0 && b != 0
    else if s.kind = 11 then s.a == 0 && s.b == 0
    else false)

end Go.Proofs.Ytglppcgaebpiaaa
