/-
  The contracts of package octets: number, U16, U32, U64.
-/
import Derived.Test.YtlfplcidgccgdaaO1
import Derived.Laws.BitsAllLaws
set_option linter.unusedVariables false
set_option linter.unusedSimpArgs false
namespace Go.Proofs.Ytlfplcidgccgdaa.Y
open Go.RowKit

/-- Little-endian. -/
def leN : List UInt8 → Nat
  | [] => 0
  | x :: xs => x.toNat + 256 * leN xs
theorem leN_append (xs ys : List UInt8) : leN (xs ++ ys) = leN xs + 256 ^ xs.length * leN ys := by
  induction xs with
  | nil => simp [leN]
  | cons x xs ih =>
    simp only [List.cons_append, leN, ih, List.length_cons, Nat.pow_succ]
    rw [Nat.mul_add, ← Nat.mul_assoc, Nat.mul_comm 256 (256 ^ xs.length)]
    omega
theorem leN_lt (xs : List UInt8) : leN xs < 256 ^ xs.length := by
  induction xs with
  | nil => simp [leN]
  | cons x xs ih =>
    simp only [leN, List.length_cons, Nat.pow_succ]
    have := x.toNat_lt
    omega
theorem leN_snoc (xs : List UInt8) (x : UInt8) : leN (xs ++ [x]) = leN xs + 256 ^ xs.length * x.toNat := by
  rw [leN_append]; simp [leN]

/-- What 'number' reads. -/
def numAt (xs : List UInt8) (at_ n : Nat) : Nat := leN ((xs.drop at_).take n)
theorem numAt_succ (xs : List UInt8) (at_ k : Nat) (h : at_ + k < xs.length) : numAt xs at_ (k + 1) = numAt xs at_ k + 256 ^ k * xs[at_ + k].toNat := by
  have hd : k < (xs.drop at_).length := by simp; omega
  have e : (xs.drop at_).take (k + 1) = (xs.drop at_).take k ++ [xs[at_ + k]] := by
    rw [List.take_succ_eq_append_getElem hd]
    simp
  unfold numAt
  rw [e, leN_snoc, List.length_take, Nat.min_eq_left (by omega)]
theorem numAt_lt (xs : List UInt8) (at_ k : Nat) : numAt xs at_ k < 256 ^ k := by
  unfold numAt
  refine Nat.lt_of_lt_of_le (leN_lt _) (Nat.pow_le_pow_right (by decide) ?_)
  simp; omega
theorem pow8 (k : Nat) : 2 ^ (8 * k) = 256 ^ k := by rw [Nat.pow_mul]
theorem pow256_le {k : Nat} (h : k ≤ 8) : 256 ^ k ≤ 18446744073709551616 := Nat.le_trans (Nat.pow_le_pow_right (by decide) h) (by decide)
theorem u64_wrap {n : Nat} (h : n < 18446744073709551616) : IntKind.u64.wrap (n : Int) = (n : Int) := by
  rw [IntKind.wrap_u64]; omega
theorem or_step (a x k : Nat) (ha : a < 256 ^ k) (hx : x < 256) (hk : k < 8) :
    bits BinOp.or IntKind.u64 (a : Int) (IntKind.u64.wrap (IntKind.u64.wrap (x : Int) * 2 ^ (8 * k))) = ((a + 256 ^ k * x : Nat) : Int) := by
  have h1 : 256 ^ (k + 1) ≤ 18446744073709551616 := pow256_le (by omega)
  have h2 : 256 ^ k * x < 256 ^ (k + 1) := by
    rw [Nat.pow_succ]
    exact Nat.mul_lt_mul_of_pos_left hx (Nat.pow_pos (by decide))
  have h3 : 256 ^ k ≤ 18446744073709551616 := pow256_le (by omega)
  have e : (x : Int) * 2 ^ (8 * k) = ((256 ^ k * x : Nat) : Int) := by
    rw [← pow8]
    push_cast
    exact Int.mul_comm _ _
  rw [u64_wrap (by omega), e, u64_wrap (by omega), u64_or_nat _ _ (by omega) (by omega)]
  congr 1
  rw [← pow8] at ha ⊢
  rw [Nat.or_comm, Nat.add_comm]
  exact (Nat.two_pow_add_eq_or_of_lt ha x).symm

set_option maxHeartbeats 400000 in
theorem number_no {w : World} {A : Option Addr} {l c : Nat} (at_ n : Int) (hn0 : 0 ≤ n) (hn8 : n ≤ 8) (hl : l ≤ 140737488555328) (hb : at_ < 0 ∨ (l : Int) - n < at_) :
    Calls Try.prog 110 #[.slice A l c, .int .i64 at_, .int .i64 n] w fun e w' => e = .returned (.tuple #[.int .u64 0, .bool false]) ∧ w = w' := by
  rcases hb with h | h
  · go_enter Try.func110, Try.ntmps110
    go_wp2
    go_ret2
    exact ⟨rfl, rfl⟩
  · by_cases h0 : at_ < 0
    · go_enter Try.func110, Try.ntmps110
      go_wp2
      go_ret2
      exact ⟨rfl, rfl⟩
    · go_enter Try.func110, Try.ntmps110
      go_wp2
      go_ret2
      exact ⟨rfl, rfl⟩

set_option maxHeartbeats 400000 in
theorem number_yes {w : World} {A : Option Addr} {xs : List UInt8} {l c : Nat} (HL : Hid (xs.length = l)) (HA : Hid (Rd w A xs)) (at_ n : Nat) (hn8 : n ≤ 8) (hl : l ≤ 140737488555328) (hb : at_ + n ≤ l) :
    Calls Try.prog 110 #[.slice A l c, .int .i64 at_, .int .i64 n] w fun e w' => e = .returned (.tuple #[.int .u64 (numAt xs at_ n), .bool true]) ∧ w = w' := by
  go_enter Try.func110, Try.ntmps110
  go_wp2
  go_loop [8, 9, 21] (fun v _ i => ∃ k : Nat, k ≤ n ∧ i = .int .i64 k ∧ v = .int .u64 (numAt xs at_ k)) (fun _ _ i => n - (intOf i).toNat)
  case atStart => exact ⟨0, Nat.zero_le _, rfl, rfl⟩
  case round =>
    obtain ⟨k, hk, rfl, rfl⟩ := hrel
    by_cases hlt : k < n
    · obtain ⟨b, o, rfl, hc⟩ := HA.out.cell (j := at_ + k) (by have := HL.out; omega)
      go_wp2
      go_round
      case rel =>
        have hl' := HL.out
        refine ⟨k + 1, by omega, by go_num, ?_⟩
        rw [numAt_succ xs at_ k (by omega), or_step _ _ _ (numAt_lt _ _ _) (UInt8.toNat_lt _) (by omega)]
      case measure => simp [intOf]; omega
    · go_wp2
      obtain rfl : k = n := by omega
      go_ret2
      exact ⟨rfl, rfl⟩

/-- Are so many bytes there? -/
def numOk (xs : List UInt8) (at_ : Int) (n : Nat) : Bool := decide (0 ≤ at_ ∧ at_ + n ≤ xs.length)
/-- Their number, or 0. -/
def numV (xs : List UInt8) (at_ : Int) (n : Nat) : Nat := if 0 ≤ at_ ∧ at_ + n ≤ xs.length then numAt xs at_.toNat n else 0
theorem numV_lt (xs : List UInt8) (at_ : Int) (n : Nat) : numV xs at_ n < 256 ^ n := by
  unfold numV
  split
  · exact numAt_lt _ _ _
  · exact Nat.pow_pos (by decide)
theorem number_any {w : World} {A : Option Addr} {xs : List UInt8} {l : Nat} (HL : xs.length = l) (c : Nat) (HA : Rd w A xs) (at_ : Int) (n : Nat) (hn8 : n ≤ 8) (hl : l ≤ 140737488555328) :
    Calls Try.prog 110 #[.slice A l c, .int .i64 at_, .int .i64 n] w fun e w' => e = .returned (.tuple #[.int .u64 (numV xs at_ n), .bool (numOk xs at_ n)]) ∧ w = w' := by
  unfold numV numOk
  by_cases h : 0 ≤ at_ ∧ at_ + n ≤ xs.length
  · obtain ⟨k, rfl⟩ := Int.eq_ofNat_of_zero_le h.1
    rw [if_pos h, decide_eq_true h, Int.toNat_natCast]
    exact number_yes HL HA k n hn8 hl (by omega)
  · rw [if_neg h, decide_eq_false h]
    exact number_no at_ n (by omega) (by omega) hl (by omega)

theorem u32_any {w : World} {A : Option Addr} {xs : List UInt8} {l : Nat} (HL : xs.length = l) (c : Nat) (HA : Rd w A xs) (at_ : Int) (hl : l ≤ 140737488555328) :
    Calls Try.prog 71 #[.slice A l c, .int .i64 at_] w fun e w' => e = .returned (.tuple #[.int .u32 (numV xs at_ 4), .bool (numOk xs at_ 4)]) ∧ w = w' := by
  have K := Lib.hid (number_any HL c HA at_ 4 (by decide) hl)
  have hv : numV xs at_ 4 < 4294967296 := numV_lt xs at_ 4
  clear HL HA
  go_enter Try.func71, Try.ntmps71
  go_wp2_with (go_at_call 110; refine K.out.mono ?_; rintro e w' ⟨rfl, rfl⟩)
  go_ret2
  exact ⟨rfl, rfl⟩
theorem u16_any {w : World} {A : Option Addr} {xs : List UInt8} {l : Nat} (HL : xs.length = l) (c : Nat) (HA : Rd w A xs) (at_ : Int) (hl : l ≤ 140737488555328) :
    Calls Try.prog 95 #[.slice A l c, .int .i64 at_] w fun e w' => e = .returned (.tuple #[.int .u16 (numV xs at_ 2), .bool (numOk xs at_ 2)]) ∧ w = w' := by
  have K := Lib.hid (number_any HL c HA at_ 2 (by decide) hl)
  have hv : numV xs at_ 2 < 65536 := numV_lt xs at_ 2
  clear HL HA
  go_enter Try.func95, Try.ntmps95
  go_wp2_with (go_at_call 110; refine K.out.mono ?_; rintro e w' ⟨rfl, rfl⟩)
  go_ret2
  exact ⟨rfl, rfl⟩
end Go.Proofs.Ytlfplcidgccgdaa.Y
