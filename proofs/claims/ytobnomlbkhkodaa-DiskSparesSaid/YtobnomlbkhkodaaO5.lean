/-
  The contracts of the reference of layer 1: Number, Add, AddPart, Part, Cmp.
-/
import Derived.Test.YtobnomlbkhkodaaO4
set_option linter.unusedVariables false
set_option linter.unusedSimpArgs false
namespace Go.Proofs.Ytobnomlbkhkodaa.Y
open Go.RowKit

theorem numAt_cons (xs : List UInt8) (at_ k : Nat) (h : at_ < xs.length) : numAt xs at_ (k + 1) = xs[at_].toNat + 256 * numAt xs (at_ + 1) k := by
  unfold numAt
  rw [List.drop_eq_getElem_cons h, List.take_succ_cons]
  rfl
theorem numAt_zero (xs : List UInt8) (at_ : Nat) : numAt xs at_ 0 = 0 := by simp [numAt, leN]

/-- What stands behind place m of the n bytes at a place. -/
def tailN (xs : List UInt8) (at_ n : Nat) (m : Int) : Nat := numAt xs (at_ + (m + 1).toNat) (n - (m + 1).toNat)
theorem tailN_step (xs : List UInt8) (at_ n k : Nat) (h : at_ + n ≤ xs.length) (hk : k < n) : tailN xs at_ n ((k : Int) - 1) = 256 * tailN xs at_ n k + (xs[at_ + k]'(by omega)).toNat := by
  unfold tailN
  rw [show (((k : Int) - 1) + 1).toNat = k from by omega, show ((k : Int) + 1).toNat = k + 1 from by omega, show n - k = n - (k + 1) + 1 from by omega, numAt_cons xs _ _ (by omega)]
  rw [show at_ + k + 1 = at_ + (k + 1) from by omega]
  omega
theorem tailN_lt (xs : List UInt8) (at_ n k : Nat) (hn : n ≤ 8) (hk : k < n) : tailN xs at_ n k < 72057594037927936 := by
  unfold tailN
  refine Nat.lt_of_lt_of_le (numAt_lt _ _ _) ?_
  exact Nat.le_trans (Nat.pow_le_pow_right (by decide) (show n - ((k : Int) + 1).toNat ≤ 7 by omega)) (by decide)
theorem mid_snoc (xs : List UInt8) (a k : Nat) (h : a + k < xs.length) : (xs.drop a).take (k + 1) = (xs.drop a).take k ++ [xs[a + k]] := by
  rw [List.take_succ_eq_append_getElem (by simp; omega)]
  simp
theorem cmpB_step {xs ys : List UInt8} {k : Nat} (hx : k < xs.length) (hy : k < ys.length) (h : cmpB xs ys = cmpB (xs.drop k) (ys.drop k)) :
    cmpB xs ys = if xs[k] < ys[k] then -1 else if ys[k] < xs[k] then 1 else cmpB (xs.drop (k + 1)) (ys.drop (k + 1)) := by
  rw [h]
  unfold cmpB
  rw [List.drop_eq_getElem_cons hx, List.drop_eq_getElem_cons hy]
  rfl
theorem cmpB_end {xs ys : List UInt8} {k : Nat} (hk : xs.length ≤ k ∨ ys.length ≤ k) (hx : k ≤ xs.length) (hy : k ≤ ys.length) (h : cmpB xs ys = cmpB (xs.drop k) (ys.drop k)) :
    cmpB xs ys = if xs.length < ys.length then -1 else if ys.length < xs.length then 1 else 0 := by
  rw [h]
  have e1 : xs.drop k = [] ∨ ys.drop k = [] := by
    rcases hk with hk | hk
    · exact .inl (List.drop_eq_nil_of_le hk)
    · exact .inr (List.drop_eq_nil_of_le hk)
  have e2 : (xs.drop k).length = xs.length - k := by simp
  have e3 : (ys.drop k).length = ys.length - k := by simp
  cases ha : xs.drop k with
  | nil =>
    rw [ha] at e2
    cases hb : ys.drop k with
    | nil => rw [hb] at e3; simp at e2 e3; rw [if_neg (by omega), if_neg (by omega)]; rfl
    | cons y ys' => rw [hb] at e3; simp at e2 e3; rw [if_pos (by omega)]; rfl
  | cons x xs' =>
    rw [ha] at e2
    cases hb : ys.drop k with
    | nil => rw [hb] at e3; simp at e2 e3; rw [if_neg (by omega), if_pos (by omega)]; rfl
    | cons y ys' => rw [ha, hb] at e1; simp at e1
/-! The same at whole numbers. -/
end Go.Proofs.Ytobnomlbkhkodaa.Y
