/-
  Walks: the reference's UsedIn, touched, TouchedBy. Condition: the argument reads as a program.
-/
import Derived.Test.YtiemhadpepbcjaaSpec9
namespace Go.Proofs.Ytiemhadpepbcjaa
open Go.RowKit
set_option linter.unusedVariables false

end Go.Proofs.Ytiemhadpepbcjaa
