/-
  verkey.Part.
-/
import Derived.Test.YtobnomlbkhkodaaV2
set_option linter.unusedVariables false
set_option linter.unusedSimpArgs false
namespace Go.Proofs.Ytobnomlbkhkodaa.Y
open Go.RowKit

/-- A text read back: what stands behind a nought is passed over. -/
def unB : Bool → List UInt8 → List UInt8
  | _, [] => []
  | true, _ :: t => unB false t
  | false, c :: t => c :: unB (c == 0) t
theorem unB_skip (t : List UInt8) : unB true t = unB false (t.drop 1) := by
  cases t <;> rfl
theorem unB_at {L : List UInt8} {j : Nat} (h : j < L.length) : unB false (L.drop j) = L[j] :: (if L[j] = 0 then unB false (L.drop (j + 2)) else unB false (L.drop (j + 1))) := by
  rw [List.drop_eq_getElem_cons h]
  show L[j] :: unB (L[j] == 0) _ = _
  by_cases e : L[j] = 0
  · rw [if_pos e, e]
    show _ :: unB true _ = _
    rw [unB_skip, List.drop_drop]
  · rw [if_neg e, beq_false_of_ne e]
/-- The bytes as a number, the great end first. -/
def beV (l : List UInt8) : Nat := l.foldl (fun v c => v * 256 + c.toNat) 0
theorem beV_snoc (l : List UInt8) (c : UInt8) : beV (l ++ [c]) = beV l * 256 + c.toNat := by simp [beV]
theorem beV_take_lt (l : List UInt8) (k : Nat) (h : k ≤ l.length) : beV (l.take k) < 256 ^ k := by
  induction k with
  | zero => simp [beV]
  | succ k ih =>
    rw [List.take_succ_eq_append_getElem (by omega), beV_snoc, Nat.pow_succ]
    have := (l[k]'(by omega)).toNat_lt
    have := ih (by omega)
    omega
def pkB (b : List UInt8) : List UInt8 := unB false (b.take (b.length - 10))
def pnB (b : List UInt8) : Int := wrap64 ((18446744073709551615 - beV (b.drop (b.length - 8)) : Nat) : Int)
def verOk (b : List UInt8) : Prop := 11 ≤ b.length ∧ mayB (pkB b) (pnB b) ∧ joinB (pkB b) (pnB b).toNat = b
instance (xs : List UInt8) (n : Int) : Decidable (mayB xs n) := by unfold mayB; infer_instance
instance (b : List UInt8) : Decidable (verOk b) := by unfold verOk; infer_instance
theorem or_byte (v c : Nat) (hv : v < 72057594037927936) (hc : c < 256) : bits BinOp.or IntKind.u64 (IntKind.u64.wrap ((v : Int) * 256)) (IntKind.u64.wrap (c : Int)) = ((v * 256 + c : Nat) : Int) := by
  rw [show ((v : Int) * 256) = ((v * 256 : Nat) : Int) by omega, u64_wrap (by omega), u64_wrap (by omega), u64_or_nat _ _ (by omega) (by omega)]
  congr 1
  have := Nat.two_pow_add_eq_or_of_lt (i := 8) (b := c) (by omega) v
  rw [Nat.mul_comm]
  exact this.symm
end Go.Proofs.Ytobnomlbkhkodaa.Y
