/-
  The walk of OctetsOrder.
-/
import Derived.Test.YtlfplcidgccgdaaL1
import Derived.Deep.DeepCutAuto
import Derived.Outline
set_option linter.unusedVariables false
set_option linter.unusedSimpArgs false
namespace Go.Proofs.Ytlfplcidgccgdaa.Y
open Go.RowKit

theorem cmpB_trans_ge {xs ys zs : List UInt8} (h1 : 0 ≤ cmpB xs ys) (h2 : 0 ≤ cmpB ys zs) : 0 ≤ cmpB xs zs := by
  have e1 := cmpB_neg xs ys
  have e2 := cmpB_neg ys zs
  have e3 := cmpB_neg xs zs
  have := cmpB_trans_le (xs := zs) (ys := ys) (zs := xs) (by omega) (by omega)
  omega

end Go.Proofs.Ytlfplcidgccgdaa.Y
