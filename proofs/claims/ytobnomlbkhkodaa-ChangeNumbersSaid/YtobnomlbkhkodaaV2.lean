/-
  verkey.First, Behind, Join.
-/
import Derived.Test.YtobnomlbkhkodaaV1
set_option linter.unusedVariables false
set_option linter.unusedSimpArgs false
namespace Go.Proofs.Ytobnomlbkhkodaa.Y
open Go.RowKit

/-- The first k of the eight bytes of a number, the great end first. -/
def beB (v k : Nat) : List UInt8 := (List.range k).map fun i => UInt8.ofNat (v / 2 ^ (56 - 8 * i))
theorem beB_succ (v k : Nat) : beB v (k + 1) = beB v k ++ [UInt8.ofNat (v / 2 ^ (56 - 8 * k))] := by
  unfold beB
  rw [List.range_succ, List.map_append]
  rfl
theorem beB_length (v k : Nat) : (beB v k).length = k := by simp [beB]
def joinB (xs : List UInt8) (n : Nat) : List UInt8 := textB xs ++ [0, 0] ++ beB (18446744073709551615 - n) 8
def mayB (xs : List UInt8) (n : Int) : Prop := 0 < xs.length ∧ xs.length ≤ 128 ∧ 0 ≤ n ∧ n ≤ 4611686018427387904
theorem not_u64 (n : Nat) (h : n < 18446744073709551616) : bits BinOp.xor IntKind.u64 IntKind.u64.max (n : Int) = ((18446744073709551615 - n : Nat) : Int) := by
  have e : (18446744073709551615 ^^^ n : Nat) = 18446744073709551615 - n := by
    have := BitVec.toNat_not (x := BitVec.ofNat 64 n)
    rw [BitVec.not_def, BitVec.toNat_xor, BitVec.toNat_ofNat, Nat.mod_eq_of_lt h] at this
    simpa using this
  rw [← e]
  exact u64_xor_nat 18446744073709551615 n (by decide) h
end Go.Proofs.Ytobnomlbkhkodaa.Y
