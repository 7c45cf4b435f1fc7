/-
  Walks: the reference's UsedIn, touched, TouchedBy. Condition: the argument reads as a program.
-/
import Derived.Test.YtelhemhbgpfokaaSpec9
namespace Go.Proofs.Ytelhemhbgpfokaa
open Go.RowKit
set_option linter.unusedVariables false

end Go.Proofs.Ytelhemhbgpfokaa
