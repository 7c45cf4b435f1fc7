/-
  Walks: the reference's SharesCell. Condition: the argument reads as a program.
-/
import Derived.Test.YtiemhadpepbcjaaSpec15
namespace Go.Proofs.Ytiemhadpepbcjaa
open Go.RowKit
set_option linter.unusedVariables false

/-- Do two blocks that use a name share its cell? -/
def shareQ (p : Pr) (a b x : Int) : Bool := decide (0 < ownerF p a x) && (ownerF p a x == ownerF p b x && (p.bk (ownerF p a x)).kind == 1)
def rShares (p : Pr) (a b x : Int) : Bool := validP p && ((shapeAt p a && isNm x) && ((shapeAt p b && isNm x) && (!(a == b) && ((p.bk a).usesB x && ((p.bk b).usesB x && shareQ p a b x)))))

end Go.Proofs.Ytiemhadpepbcjaa
