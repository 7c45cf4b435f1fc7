/-
  Walks: the program's isInside, ChildrenOf, InsideOf, DepthOf. Condition: the argument reads as a program.
-/
import Derived.Test.YtiemhadpepbcjaaImpl3
import Derived.Test.YtiemhadpepbcjaaSpec6
namespace Go.Proofs.Ytiemhadpepbcjaa
open Go.RowKit
set_option linter.unusedVariables false

end Go.Proofs.Ytiemhadpepbcjaa
