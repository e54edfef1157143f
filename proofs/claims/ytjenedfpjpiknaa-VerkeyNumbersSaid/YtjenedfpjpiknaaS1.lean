/-
  The contracts of package stamp and its reference: Seal, Of, Parts.
-/
import Derived.Test.YtjenedfpjpiknaaO6
import Derived.Outline
set_option linter.unusedVariables false
set_option linter.unusedSimpArgs false
namespace Go.Proofs.Ytjenedfpjpiknaa.Y
open Go.RowKit

theorem cutA_some {g o c k : Nat} (h : c ≠ k) : cutA (some ⟨g, o, none⟩) c k = some ⟨g, o + k, none⟩ := by
  unfold cutA
  rw [if_neg h]
  simp [add_plain]
/-- A sealed payload. -/
def sealB (xs : List UInt8) (v : Nat) : List UInt8 := leB v 8 ++ (xs ++ (zeros (4080 - xs.length) ++ leB v 8))
theorem sealB_length (xs : List UInt8) (v : Nat) (h : xs.length ≤ 4080) : (sealB xs v).length = 4096 := by simp [sealB]; omega
theorem splice_len {xs ys : List UInt8} {o : Nat} (h : o + ys.length ≤ xs.length) : (splice xs o ys).length = xs.length := length_splice xs o ys h
theorem seal_splice (xs e : List UInt8) (he : e.length = 8) (h : xs.length ≤ 4080) :
    splice (splice (splice (zeros 4096) 0 e) 8 xs) 4088 e = e ++ (xs ++ (zeros (4080 - xs.length) ++ e)) := by
  have e1 : splice (zeros 4096) 0 e = e ++ zeros 4088 := by
    simp only [splice, zeros, List.take_zero, List.nil_append, Nat.zero_add, he, List.drop_replicate]
  have e2 : splice (e ++ zeros 4088) 8 xs = e ++ (xs ++ zeros (4088 - xs.length)) := by
    unfold splice
    rw [show (e ++ zeros 4088).take 8 = e from by rw [← he]; simp]
    rw [show (e ++ zeros 4088).drop (8 + xs.length) = zeros (4088 - xs.length) from by
      rw [List.drop_append, List.drop_of_length_le (by omega), he, List.nil_append]
      unfold zeros
      rw [List.drop_replicate]
      congr 1
      omega]
  have e3 : zeros (4088 - xs.length) = zeros (4080 - xs.length) ++ zeros 8 := by
    unfold zeros
    rw [List.replicate_append_replicate]
    congr 1
    omega
  rw [e1, e2, e3]
  have e4 : e ++ (xs ++ (zeros (4080 - xs.length) ++ zeros 8)) = (e ++ (xs ++ zeros (4080 - xs.length))) ++ zeros 8 := by simp
  have e5 : (e ++ (xs ++ zeros (4080 - xs.length))).length = 4088 := by simp [he]; omega
  rw [e4]
  unfold splice
  rw [← e5, List.take_left, List.drop_append, he, List.drop_of_length_le (by omega), List.nil_append, show (e ++ (xs ++ zeros (4080 - xs.length))).length + 8 - (e ++ (xs ++ zeros (4080 - xs.length))).length = 8 from by omega]
  have e6 : (zeros 8).drop 8 = [] := rfl
  rw [e6]
  simp

theorem seal_long {w : World} {A : Option Addr} {l c : Nat} (v : Int) (h : 4080 < l) (hl : l ≤ 140737488555328) :
    Calls Try.prog 25 #[.slice A l c, .int .u64 v] w fun e w' => e = .returned (.tuple #[.slice none 0 0, .int .i64 3]) ∧ w = w' := by
  go_enter Try.func25, Try.ntmps25
  go_wp2
  go_ret2
  exact ⟨rfl, rfl⟩
set_option maxHeartbeats 800000 in
theorem seal_any {w : World} {A : Option Addr} {xs : List UInt8} {l : Nat} (hL : xs.length = l) (c : Nat) (hA : Rd w A xs) (v : Nat) (h : l ≤ 4080) :
    Calls Try.prog 25 #[.slice A l c, .int .u64 v] w fun e w' => ∃ r, e = .returned (.tuple #[r, .int .i64 0]) ∧ Own w' w.heap.size r (sealB xs v) ∧ Below w.heap.size w w' := by
  have K := Lib.hid (add64_any (w := w) (A := none) (xs := []) (l := 0) rfl 0 (Rd.nil _ _) v (by decide))
  have HA := Lib.hid hA
  have HL := Lib.hid hL
  have hmk := make_lit 4096 4096 rfl (by decide)
  clear hA hL
  go_enter Try.func25, Try.ntmps25
  go_wp2_with fail
  refine K.out.mono ?_
  rintro e w1 ⟨r, rfl, hr, hb⟩
  replace hr : Own w1 _ r (leB v 8) := hr
  obtain ⟨A1, c1, rfl, _, _, hR1⟩ := hr.slice
  have R1 := Lib.hid hR1
  have B1 := Lib.hid hb
  clear hr hb hR1
  rw [leB_length]
  go_wp2_with (first | (with_reducible refine wpList_copy_bytes rfl (.tmp 14) (.tmp 15) 22 22 rfl Try.underlying22 info_u8 (some ⟨w1.heap.size, 0, none⟩) A1 4096 4096 8 c1 rfl rfl w1.heap.size 0 (zeros 4096) (leB v 8) (Blk.new _ _) (leB_length _ _) (R1.out.alloc _) (fun _ => rfl) (by simp) ?_; intro w2 hb2 hg2; have G2 := Lib.hid ((Below.refl _ w1).alloc (Nat.le_refl _) _ |>.grown hg2 (by simp) (by intro k hk; injection hk with hk; omega)); have L2 := Lib.hid (splice_len (xs := zeros 4096) (o := 0) (ys := (leB v 8).take 4096) (by simp)); clear hg2) | (with_reducible refine wpList_copy_bytes rfl (.tmp 18) (.tmp 19) 22 22 rfl Try.underlying22 info_u8 (cutA (some ⟨w1.heap.size, 0, none⟩) 4096 8) A 4088 4088 l c rfl rfl w1.heap.size 8 _ xs hb2.out HL.out ((HA.out.below B1.out).below G2.out) (fun _ => cutA_some (by decide)) (by rw [L2.out]; simp; omega) ?_; intro w3 hb3 hg3; have G3 := Lib.hid (G2.out.grown hg3 G2.out.size (by intro k hk; injection hk with hk; omega))) | (with_reducible refine wpList_copy_bytes rfl (.tmp 22) (.tmp 23) 22 22 rfl Try.underlying22 info_u8 (cutA (some ⟨w1.heap.size, 0, none⟩) 4096 4088) A1 8 8 8 c1 rfl rfl w1.heap.size 4088 _ (leB v 8) hb3.out (leB_length _ _) (R1.out.below G3.out) (fun _ => cutA_some (by decide)) (by rw [splice_len (by rw [L2.out]; simp; have := HL.out; omega), L2.out]; simp) ?_; intro w4 hb4 hg4; have G4 := Lib.hid (G3.out.grown hg4 G3.out.size (by intro k hk; injection hk with hk; omega))))
  go_ret2
  have hl := HL.out
  have hq := hb4.out
  rw [List.take_of_length_le (show (leB v 8).length ≤ 4096 by simp), List.take_of_length_le (show xs.length ≤ 4088 by omega), List.take_of_length_le (show (leB v 8).length ≤ 8 by simp), seal_splice xs (leB v 8) (leB_length _ _) (by omega)] at hq
  have hs := sealB_length xs v (by omega)
  have ho := Blk.own (L := sealB xs v) hq (B := w.heap.size) (n := 4096) B1.out.size (by rw [hs]; exact Nat.le_refl _) (by rw [hs]; decide)
  rw [hs, List.take_of_length_le (by omega)] at ho
  exact ⟨_, rfl, ho, bthen B1.out G4.out⟩

/-- stamp.Of. -/
def ofB (e c : Int) : Nat := (e % 4294967296).toNat * 4294967296 + (c % 4294967296).toNat
theorem ofB_lt (e c : Int) : ofB e c < 18446744073709551616 := by unfold ofB; omega
theorem of_or (a b : Nat) (ha : a < 4294967296) (hb : b < 4294967296) : bits BinOp.or IntKind.u64 ((a * 4294967296 : Nat) : Int) (b : Int) = ((a * 4294967296 + b : Nat) : Int) := by
  rw [u64_or_nat _ _ (by omega) (by omega)]
  congr 1
  have := Nat.two_pow_add_eq_or_of_lt (i := 32) (b := b) (by omega) a
  rw [Nat.mul_comm]
  exact this.symm
theorem ret_int {k : IntKind} {a b : Int} (h : a = b) : Ending.returned (.int k a) = .returned (.int k b) := by rw [h]
theorem of_any {w : World} (e c : Int) (h1 : -9223372036854775808 ≤ e) (h2 : e ≤ 9223372036854775807) (h3 : -9223372036854775808 ≤ c) (h4 : c ≤ 9223372036854775807) :
    Calls Try.prog 29 #[.int .i64 e, .int .i64 c] w fun r w' => r = .returned (.int .u64 (ofB e c)) ∧ w = w' := by
  go_enter Try.func29, Try.ntmps29
  go_wp2
  go_ret
  refine ⟨ret_int ?_, rfl⟩
  unfold ofB
  rw [← of_or _ _ (by omega) (by omega)]
  congr 1
  · omega
  · omega
theorem refOf_any {w : World} (e c : Int) (h1 : -9223372036854775808 ≤ e) (h2 : e ≤ 9223372036854775807) (h3 : -9223372036854775808 ≤ c) (h4 : c ≤ 9223372036854775807) :
    Calls Try.prog 34 #[.int .i64 e, .int .i64 c] w fun r w' => r = .returned (.int .u64 (ofB e c)) ∧ w = w' := by
  go_enter Try.func34, Try.ntmps34
  go_wp2
  go_ret
  refine ⟨ret_int ?_, rfl⟩
  have k1 : IntKind.u64.wrap e = e % 18446744073709551616 := IntKind.wrap_u64 _
  have k2 : IntKind.u64.wrap c = c % 18446744073709551616 := IntKind.wrap_u64 _
  rw [k1, k2, Int.tmod_eq_emod_of_nonneg (by omega), Int.tmod_eq_emod_of_nonneg (by omega)]
  have k3 : IntKind.u64.wrap (e % 18446744073709551616 % 4294967296 * 4294967296) = e % 4294967296 * 4294967296 := by rw [IntKind.wrap_u64]; omega
  rw [k3, IntKind.wrap_u64]
  unfold ofB
  omega
theorem parts_any {w : World} (v : Nat) (hv : v < 18446744073709551616) :
    Calls Try.prog 28 #[.int .u64 v] w fun r w' => r = .returned (.tuple #[.int .i64 ((v / 4294967296 : Nat) : Int), .int .i64 ((v % 4294967296 : Nat) : Int)]) ∧ w = w' := by
  have HV := Lib.hid hv
  clear hv
  have q1 : v / 4294967296 < 4294967296 := by have := HV.out; omega
  go_enter Try.func28, Try.ntmps28
  go_wp2
  go_ret2
  exact ⟨by simp, rfl⟩
end Go.Proofs.Ytjenedfpjpiknaa.Y
