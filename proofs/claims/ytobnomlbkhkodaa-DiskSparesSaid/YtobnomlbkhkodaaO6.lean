/-
  The fixed answers of layer 1 ('awake').
-/
import Derived.Test.YtobnomlbkhkodaaO5
set_option linter.unusedVariables false
set_option linter.unusedSimpArgs false
namespace Go.Proofs.Ytobnomlbkhkodaa.Y
open Go.RowKit

end Go.Proofs.Ytobnomlbkhkodaa.Y
