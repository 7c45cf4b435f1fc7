/-
  Walks: the program's CellsOf, FastsOf, SymbolOf. Condition: the argument reads as a program.
-/
import Derived.Test.YtpajkejdfalkiaaDoorImpl11
namespace Go.Proofs.YtpajkejdfalkiaaDoor
open Go.RowKit
set_option linter.unusedVariables false

end Go.Proofs.YtpajkejdfalkiaaDoor
