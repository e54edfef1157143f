/-
  stamp.Open and the reference's Open.
-/
import Derived.Test.YtlfplcidgccgdaaS3
set_option linter.unusedVariables false
set_option linter.unusedSimpArgs false
namespace Go.Proofs.Ytlfplcidgccgdaa.Y
open Go.RowKit

theorem Blk.newg {w : World} {g : Nat} {L : List UInt8} (hg : g = w.heap.size) : Blk (w.alloc (.cells (bvs L).toArray 5)) g L := by
  subst hg
  exact Blk.new _ _
/-! ### The reference's Open -/
theorem leN_inj {xs ys : List UInt8} (hl : xs.length = ys.length) (h : leN xs = leN ys) : xs = ys := by
  induction xs generalizing ys with
  | nil => exact (List.eq_nil_of_length_eq_zero hl.symm).symm
  | cons x xs ih =>
    cases ys with
    | nil => simp at hl
    | cons y ys =>
      simp only [leN] at h
      have h1 := x.toNat_lt
      have h2 := y.toNat_lt
      have h3 : x.toNat = y.toNat := by omega
      have h4 : leN xs = leN ys := by omega
      rw [UInt8.toNat_inj.1 h3, ih (by simpa using hl) h4]
/-- The two stamps as numbers. -/
theorem ends_num {xs : List UInt8} (hl : xs.length = 4096) : numV xs 0 8 = leN (xs.take 8) ∧ numV xs 4088 8 = leN (xs.drop 4088) := by
  unfold numV numAt
  rw [hl, if_pos (by decide), if_pos (by decide)]
  refine ⟨rfl, ?_⟩
  rw [show (4088 : Int).toNat = 4088 from rfl, List.take_of_length_le (by rw [List.length_drop, hl]; decide)]
end Go.Proofs.Ytlfplcidgccgdaa.Y
