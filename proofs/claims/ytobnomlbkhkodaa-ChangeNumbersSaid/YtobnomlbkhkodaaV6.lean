/-
  The walk of VerkeyBounds.
-/
import Derived.Test.YtobnomlbkhkodaaV4
set_option linter.unusedVariables false
set_option linter.unusedSimpArgs false
namespace Go.Proofs.Ytobnomlbkhkodaa.Y
open Go.RowKit

def firstB (xs : List UInt8) : List UInt8 := textB xs ++ [0, 0]
def behindB (xs : List UInt8) : List UInt8 := textB xs ++ [0, 1]
end Go.Proofs.Ytobnomlbkhkodaa.Y
