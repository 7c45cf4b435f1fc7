/-
  Walks: the program's isInside, ChildrenOf, InsideOf, DepthOf. Condition: the argument reads as a program.
-/
import Derived.Test.YtelhemhbgpfokaaImpl3
import Derived.Test.YtelhemhbgpfokaaSpec6
namespace Go.Proofs.Ytelhemhbgpfokaa
open Go.RowKit
set_option linter.unusedVariables false

end Go.Proofs.Ytelhemhbgpfokaa
