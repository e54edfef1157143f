/-
  The contracts of package octets: number, U16, U32, U64.
-/
import Derived.Test.YtobnomlbkhkodaaO1
import Derived.Laws.BitsAllLaws
set_option linter.unusedVariables false
set_option linter.unusedSimpArgs false
namespace Go.Proofs.Ytobnomlbkhkodaa.Y
open Go.RowKit

/-- Little-endian. -/
def leN : List UInt8 → Nat
  | [] => 0
  | x :: xs => x.toNat + 256 * leN xs
theorem leN_append (xs ys : List UInt8) : leN (xs ++ ys) = leN xs + 256 ^ xs.length * leN ys := by
  induction xs with
  | nil => simp [leN]
  | cons x xs ih =>
    simp only [List.cons_append, leN, ih, List.length_cons, Nat.pow_succ]
    rw [Nat.mul_add, ← Nat.mul_assoc, Nat.mul_comm 256 (256 ^ xs.length)]
    omega
theorem leN_lt (xs : List UInt8) : leN xs < 256 ^ xs.length := by
  induction xs with
  | nil => simp [leN]
  | cons x xs ih =>
    simp only [leN, List.length_cons, Nat.pow_succ]
    have := x.toNat_lt
    omega
theorem leN_snoc (xs : List UInt8) (x : UInt8) : leN (xs ++ [x]) = leN xs + 256 ^ xs.length * x.toNat := by
  rw [leN_append]; simp [leN]

/-- What 'number' reads. -/
def numAt (xs : List UInt8) (at_ n : Nat) : Nat := leN ((xs.drop at_).take n)
theorem numAt_succ (xs : List UInt8) (at_ k : Nat) (h : at_ + k < xs.length) : numAt xs at_ (k + 1) = numAt xs at_ k + 256 ^ k * xs[at_ + k].toNat := by
  have hd : k < (xs.drop at_).length := by simp; omega
  have e : (xs.drop at_).take (k + 1) = (xs.drop at_).take k ++ [xs[at_ + k]] := by
    rw [List.take_succ_eq_append_getElem hd]
    simp
  unfold numAt
  rw [e, leN_snoc, List.length_take, Nat.min_eq_left (by omega)]
theorem numAt_lt (xs : List UInt8) (at_ k : Nat) : numAt xs at_ k < 256 ^ k := by
  unfold numAt
  refine Nat.lt_of_lt_of_le (leN_lt _) (Nat.pow_le_pow_right (by decide) ?_)
  simp; omega
theorem pow8 (k : Nat) : 2 ^ (8 * k) = 256 ^ k := by rw [Nat.pow_mul]
theorem pow256_le {k : Nat} (h : k ≤ 8) : 256 ^ k ≤ 18446744073709551616 := Nat.le_trans (Nat.pow_le_pow_right (by decide) h) (by decide)
theorem u64_wrap {n : Nat} (h : n < 18446744073709551616) : IntKind.u64.wrap (n : Int) = (n : Int) := by
  rw [IntKind.wrap_u64]; omega
theorem or_step (a x k : Nat) (ha : a < 256 ^ k) (hx : x < 256) (hk : k < 8) :
    bits BinOp.or IntKind.u64 (a : Int) (IntKind.u64.wrap (IntKind.u64.wrap (x : Int) * 2 ^ (8 * k))) = ((a + 256 ^ k * x : Nat) : Int) := by
  have h1 : 256 ^ (k + 1) ≤ 18446744073709551616 := pow256_le (by omega)
  have h2 : 256 ^ k * x < 256 ^ (k + 1) := by
    rw [Nat.pow_succ]
    exact Nat.mul_lt_mul_of_pos_left hx (Nat.pow_pos (by decide))
  have h3 : 256 ^ k ≤ 18446744073709551616 := pow256_le (by omega)
  have e : (x : Int) * 2 ^ (8 * k) = ((256 ^ k * x : Nat) : Int) := by
    rw [← pow8]
    push_cast
    exact Int.mul_comm _ _
  rw [u64_wrap (by omega), e, u64_wrap (by omega), u64_or_nat _ _ (by omega) (by omega)]
  congr 1
  rw [← pow8] at ha ⊢
  rw [Nat.or_comm, Nat.add_comm]
  exact (Nat.two_pow_add_eq_or_of_lt ha x).symm

/-- Are so many bytes there? -/
def numOk (xs : List UInt8) (at_ : Int) (n : Nat) : Bool := decide (0 ≤ at_ ∧ at_ + n ≤ xs.length)
/-- Their number, or 0. -/
def numV (xs : List UInt8) (at_ : Int) (n : Nat) : Nat := if 0 ≤ at_ ∧ at_ + n ≤ xs.length then numAt xs at_.toNat n else 0
theorem numV_lt (xs : List UInt8) (at_ : Int) (n : Nat) : numV xs at_ n < 256 ^ n := by
  unfold numV
  split
  · exact numAt_lt _ _ _
  · exact Nat.pow_pos (by decide)
end Go.Proofs.Ytobnomlbkhkodaa.Y
