/-
  Walks: the reference's UsedIn, touched, TouchedBy. Condition: the argument reads as a program.
-/
import Derived.Test.YtpajkejdfalkiaaDoorSpec9
namespace Go.Proofs.YtpajkejdfalkiaaDoor
open Go.RowKit
set_option linter.unusedVariables false

end Go.Proofs.YtpajkejdfalkiaaDoor
