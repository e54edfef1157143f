/-
  The fixed answers of layer 1 ('awake').
-/
import Derived.Test.YtlfplcidgccgdaaO5
set_option linter.unusedVariables false
set_option linter.unusedSimpArgs false
namespace Go.Proofs.Ytlfplcidgccgdaa.Y
open Go.RowKit

end Go.Proofs.Ytlfplcidgccgdaa.Y
