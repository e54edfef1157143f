/-
  The walk of StampNumbers.
-/
import Derived.Test.YtobnomlbkhkodaaS8
set_option linter.unusedVariables false
set_option linter.unusedSimpArgs false
namespace Go.Proofs.Ytobnomlbkhkodaa.Y
open Go.RowKit

end Go.Proofs.Ytobnomlbkhkodaa.Y
