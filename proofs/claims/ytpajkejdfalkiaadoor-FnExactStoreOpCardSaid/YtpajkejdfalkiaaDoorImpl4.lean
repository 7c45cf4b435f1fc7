/-
  Walks: the program's isInside, ChildrenOf, InsideOf, DepthOf. Condition: the argument reads as a program.
-/
import Derived.Test.YtpajkejdfalkiaaDoorImpl3
import Derived.Test.YtpajkejdfalkiaaDoorSpec6
namespace Go.Proofs.YtpajkejdfalkiaaDoor
open Go.RowKit
set_option linter.unusedVariables false

end Go.Proofs.YtpajkejdfalkiaaDoor
