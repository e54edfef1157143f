/-
  Totals of Seal and Open; the walk of StampTells.
-/
import Derived.Test.YtobnomlbkhkodaaS5
set_option linter.unusedVariables false
set_option linter.unusedSimpArgs false
namespace Go.Proofs.Ytobnomlbkhkodaa.Y
open Go.RowKit

def sealC (l : Nat) : Int := if l ≤ 4080 then 0 else 3
def sealR (xs : List UInt8) (v : Nat) : List UInt8 := if xs.length ≤ 4080 then sealB xs v else []
def openOk (xs : List UInt8) : Prop := xs.length = 4096 ∧ xs.take 8 = xs.drop 4088
instance (xs : List UInt8) : Decidable (openOk xs) := by unfold openOk; infer_instance
def openC (xs : List UInt8) : Int := if xs.length ≠ 4096 then 2 else if xs.take 8 = xs.drop 4088 then 0 else 140
def openN (xs : List UInt8) : Nat := if openOk xs then numV xs 0 8 else 0
def openR (xs : List UInt8) : List UInt8 := if openOk xs then (xs.drop 8).take 4080 else []
end Go.Proofs.Ytobnomlbkhkodaa.Y
