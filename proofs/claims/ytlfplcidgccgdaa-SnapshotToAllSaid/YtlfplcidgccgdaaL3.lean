/-
  The walk of OctetsBack.
-/
import Derived.Test.YtlfplcidgccgdaaL2
set_option linter.unusedVariables false
set_option linter.unusedSimpArgs false
namespace Go.Proofs.Ytlfplcidgccgdaa.Y
open Go.RowKit

theorem wf_u16 {x : Int} (h : (Lit.int .u16 x).wf = true) : 0 ≤ x ∧ x < 65536 := by
  simp [Lit.wf, IntKind.min, IntKind.max, IntKind.signed, IntKind.bits] at h; omega
theorem wf_u32 {x : Int} (h : (Lit.int .u32 x).wf = true) : 0 ≤ x ∧ x < 4294967296 := by
  simp [Lit.wf, IntKind.min, IntKind.max, IntKind.signed, IntKind.bits] at h; omega
theorem wf_u64 {x : Int} (h : (Lit.int .u64 x).wf = true) : 0 ≤ x ∧ x < 18446744073709551616 := by
  simp [Lit.wf, IntKind.min, IntKind.max, IntKind.signed, IntKind.bits] at h; omega
theorem wf_i64 {x : Int} (h : (Lit.int .i64 x).wf = true) : -9223372036854775808 ≤ x ∧ x ≤ 9223372036854775807 := by
  simp [Lit.wf, IntKind.min, IntKind.max, IntKind.signed, IntKind.bits] at h; omega
theorem leN_leB (v n : Nat) (h : v < 256 ^ n) : leN (leB v n) = v := by
  have H : ∀ n : Nat, leN (leB v n) = v % 256 ^ n := by
    intro n
    induction n with
    | zero => simp [leB, leN, Nat.mod_one]
    | succ n ih =>
      unfold leB
      have e : (UInt8.ofNat (v / 256 ^ n)).toNat = v / 256 ^ n % 256 := UInt8.toNat_ofNat'
      rw [leN_snoc, ih, leB_length, e, Nat.pow_succ]
      exact Nat.mod_mul.symm
  rw [H, Nat.mod_eq_of_lt h]
/-- A number that stands behind 'xs' is read there. -/
theorem numV_at (xs ys zs : List UInt8) (k : Int) (n : Nat) (hk : k = xs.length) (hn : ys.length = n) : numV (xs ++ (ys ++ zs)) k n = leN ys ∧ numOk (xs ++ (ys ++ zs)) k n = true := by
  subst hk
  subst hn
  unfold numV numOk numAt
  have h : (0 : Int) ≤ (xs.length : Int) ∧ (xs.length : Int) + (ys.length : Nat) ≤ ((xs ++ (ys ++ zs)).length : Nat) := by simp; omega
  rw [if_pos h, Int.toNat_natCast]
  exact ⟨by simp, decide_eq_true h⟩
theorem part_at (xs p zs : List UInt8) (k : Int) (hk : k = xs.length) (hp : p.length < 65536) : numV (xs ++ (leB p.length 2 ++ (p ++ zs))) k 2 = p.length ∧ partOk (xs ++ (leB p.length 2 ++ (p ++ zs))) k = true ∧ partV (xs ++ (leB p.length 2 ++ (p ++ zs))) k = p := by
  obtain ⟨h1, h2⟩ := numV_at xs (leB p.length 2) (p ++ zs) k 2 hk (leB_length _ _)
  have h3 : numV (xs ++ (leB p.length 2 ++ (p ++ zs))) k 2 = p.length := by rw [h1, leN_leB _ _ hp]
  refine ⟨h3, ?_, ?_⟩
  · unfold partOk
    rw [h2, h3]
    simp [leB_length]
    omega
  · unfold partV
    rw [h3, hk, Int.toNat_natCast]
    have e : xs ++ (leB p.length 2 ++ (p ++ zs)) = (xs ++ leB p.length 2) ++ (p ++ zs) := by simp
    rw [e, show xs.length + 2 = (xs ++ leB p.length 2).length from by simp [leB_length], List.drop_left]
    simp

end Go.Proofs.Ytlfplcidgccgdaa.Y
