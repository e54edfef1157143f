/-
  The walk of OctetsOrder.
-/
import Derived.Test.YtlfplcidgccgdaaO6
set_option linter.unusedVariables false
set_option linter.unusedSimpArgs false
namespace Go.Proofs.Ytlfplcidgccgdaa.Y
open Go.RowKit

theorem cmpB_self (xs : List UInt8) : cmpB xs xs = 0 := by
  induction xs with
  | nil => rfl
  | cons x xs ih => unfold cmpB Lib.compareBytes; rw [if_neg (UInt8.lt_irrefl x), if_neg (UInt8.lt_irrefl x)]; exact ih
theorem cmpB_cons (x y : UInt8) (xs ys : List UInt8) : cmpB (x :: xs) (y :: ys) = if x < y then -1 else if y < x then 1 else cmpB xs ys := rfl
theorem cmpB_range (xs ys : List UInt8) : cmpB xs ys = -1 ∨ cmpB xs ys = 0 ∨ cmpB xs ys = 1 := by
  induction xs generalizing ys with
  | nil => cases ys <;> simp [cmpB, Lib.compareBytes]
  | cons x xs ih =>
    cases ys with
    | nil => simp [cmpB, Lib.compareBytes]
    | cons y ys =>
      rw [cmpB_cons]
      split
      · simp
      · split
        · simp
        · exact ih ys
theorem cmpB_neg (xs ys : List UInt8) : cmpB ys xs = -cmpB xs ys := by
  induction xs generalizing ys with
  | nil => cases ys <;> simp [cmpB, Lib.compareBytes]
  | cons x xs ih =>
    cases ys with
    | nil => simp [cmpB, Lib.compareBytes]
    | cons y ys =>
      rw [cmpB_cons, cmpB_cons]
      by_cases h1 : x < y
      · have h2 : ¬ y < x := fun h => absurd (UInt8.lt_trans h1 h) (UInt8.lt_irrefl x)
        simp [h1, h2]
      · by_cases h2 : y < x
        · simp [h1, h2]
        · simp only [h1, h2, if_false]; exact ih ys
theorem cmpB_zero {xs ys : List UInt8} : cmpB xs ys = 0 ↔ xs = ys := by
  constructor
  · intro h
    induction xs generalizing ys with
    | nil => cases ys with
      | nil => rfl
      | cons y ys => simp [cmpB, Lib.compareBytes] at h
    | cons x xs ih =>
      cases ys with
      | nil => simp [cmpB, Lib.compareBytes] at h
      | cons y ys =>
        rw [cmpB_cons] at h
        split at h
        · simp at h
        · split at h
          · simp at h
          · rename_i h1 h2
            have : x = y := UInt8.le_antisymm (UInt8.not_lt.1 h2) (UInt8.not_lt.1 h1)
            rw [this, ih h]
  · intro h
    subst h
    exact cmpB_self _
theorem cmpB_append_same (xs ys zs : List UInt8) (h : xs.length = ys.length) : cmpB (xs ++ zs) (ys ++ zs) = cmpB xs ys := by
  induction xs generalizing ys with
  | nil => obtain rfl : ys = [] := List.eq_nil_of_length_eq_zero h.symm
           rw [cmpB_self, cmpB_self]
  | cons x xs ih =>
    cases ys with
    | nil => simp at h
    | cons y ys =>
      simp only [List.cons_append]
      rw [cmpB_cons, cmpB_cons, ih ys (by simpa using h)]
theorem cmpB_prefix (xs zs : List UInt8) : cmpB xs (xs ++ zs) = if zs = [] then 0 else -1 := by
  induction xs with
  | nil =>
    cases zs with
    | nil => rfl
    | cons z zs => simp [cmpB, Lib.compareBytes]
  | cons x xs ih =>
    simp only [List.cons_append]
    rw [cmpB_cons, if_neg (UInt8.lt_irrefl x), if_neg (UInt8.lt_irrefl x)]
    exact ih
theorem cmpB_trans_le {xs ys zs : List UInt8} (h1 : cmpB xs ys ≤ 0) (h2 : cmpB ys zs ≤ 0) : cmpB xs zs ≤ 0 := by
  induction xs generalizing ys zs with
  | nil => cases zs <;> simp [cmpB, Lib.compareBytes]
  | cons x xs ih =>
    cases ys with
    | nil => simp [cmpB, Lib.compareBytes] at h1
    | cons y ys =>
      cases zs with
      | nil => simp [cmpB, Lib.compareBytes] at h2
      | cons z zs =>
        rw [cmpB_cons] at h1 h2 ⊢
        by_cases a1 : x < y
        · by_cases b1 : y < z
          · rw [if_pos (UInt8.lt_trans a1 b1)]; decide
          · rw [if_neg b1] at h2
            by_cases b2 : z < y
            · rw [if_pos b2] at h2; simp at h2
            · have : y = z := UInt8.le_antisymm (UInt8.not_lt.1 b2) (UInt8.not_lt.1 b1)
              subst this
              rw [if_pos a1]; decide
        · rw [if_neg a1] at h1
          by_cases a2 : y < x
          · rw [if_pos a2] at h1; simp at h1
          · rw [if_neg a2] at h1
            have : x = y := UInt8.le_antisymm (UInt8.not_lt.1 a2) (UInt8.not_lt.1 a1)
            subst this
            by_cases b1 : x < z
            · rw [if_pos b1]; decide
            · rw [if_neg b1] at h2 ⊢
              by_cases b2 : z < x
              · rw [if_pos b2] at h2; simp at h2
              · rw [if_neg b2] at h2 ⊢
                exact ih h1 h2
end Go.Proofs.Ytlfplcidgccgdaa.Y
