/-
  The contracts of package stamp and its reference: Seal, Of, Parts.
-/
import Derived.Test.YtlfplcidgccgdaaO6
import Derived.Outline
set_option linter.unusedVariables false
set_option linter.unusedSimpArgs false
namespace Go.Proofs.Ytlfplcidgccgdaa.Y
open Go.RowKit

theorem cutA_some {g o c k : Nat} (h : c ≠ k) : cutA (some ⟨g, o, none⟩) c k = some ⟨g, o + k, none⟩ := by
  unfold cutA
  rw [if_neg h]
  simp [add_plain]
/-- A sealed payload. -/
def sealB (xs : List UInt8) (v : Nat) : List UInt8 := leB v 8 ++ (xs ++ (zeros (4080 - xs.length) ++ leB v 8))
theorem sealB_length (xs : List UInt8) (v : Nat) (h : xs.length ≤ 4080) : (sealB xs v).length = 4096 := by simp [sealB]; omega
theorem splice_len {xs ys : List UInt8} {o : Nat} (h : o + ys.length ≤ xs.length) : (splice xs o ys).length = xs.length := length_splice xs o ys h
theorem seal_splice (xs e : List UInt8) (he : e.length = 8) (h : xs.length ≤ 4080) :
    splice (splice (splice (zeros 4096) 0 e) 8 xs) 4088 e = e ++ (xs ++ (zeros (4080 - xs.length) ++ e)) := by
  have e1 : splice (zeros 4096) 0 e = e ++ zeros 4088 := by
    simp only [splice, zeros, List.take_zero, List.nil_append, Nat.zero_add, he, List.drop_replicate]
  have e2 : splice (e ++ zeros 4088) 8 xs = e ++ (xs ++ zeros (4088 - xs.length)) := by
    unfold splice
    rw [show (e ++ zeros 4088).take 8 = e from by rw [← he]; simp]
    rw [show (e ++ zeros 4088).drop (8 + xs.length) = zeros (4088 - xs.length) from by
      rw [List.drop_append, List.drop_of_length_le (by omega), he, List.nil_append]
      unfold zeros
      rw [List.drop_replicate]
      congr 1
      omega]
  have e3 : zeros (4088 - xs.length) = zeros (4080 - xs.length) ++ zeros 8 := by
    unfold zeros
    rw [List.replicate_append_replicate]
    congr 1
    omega
  rw [e1, e2, e3]
  have e4 : e ++ (xs ++ (zeros (4080 - xs.length) ++ zeros 8)) = (e ++ (xs ++ zeros (4080 - xs.length))) ++ zeros 8 := by simp
  have e5 : (e ++ (xs ++ zeros (4080 - xs.length))).length = 4088 := by simp [he]; omega
  rw [e4]
  unfold splice
  rw [← e5, List.take_left, List.drop_append, he, List.drop_of_length_le (by omega), List.nil_append, show (e ++ (xs ++ zeros (4080 - xs.length))).length + 8 - (e ++ (xs ++ zeros (4080 - xs.length))).length = 8 from by omega]
  have e6 : (zeros 8).drop 8 = [] := rfl
  rw [e6]
  simp

/-- stamp.Of. -/
def ofB (e c : Int) : Nat := (e % 4294967296).toNat * 4294967296 + (c % 4294967296).toNat
theorem ofB_lt (e c : Int) : ofB e c < 18446744073709551616 := by unfold ofB; omega
theorem of_or (a b : Nat) (ha : a < 4294967296) (hb : b < 4294967296) : bits BinOp.or IntKind.u64 ((a * 4294967296 : Nat) : Int) (b : Int) = ((a * 4294967296 + b : Nat) : Int) := by
  rw [u64_or_nat _ _ (by omega) (by omega)]
  congr 1
  have := Nat.two_pow_add_eq_or_of_lt (i := 32) (b := b) (by omega) a
  rw [Nat.mul_comm]
  exact this.symm
theorem ret_int {k : IntKind} {a b : Int} (h : a = b) : Ending.returned (.int k a) = .returned (.int k b) := by rw [h]
end Go.Proofs.Ytlfplcidgccgdaa.Y
