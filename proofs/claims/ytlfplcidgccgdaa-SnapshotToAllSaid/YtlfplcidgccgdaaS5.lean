/-
  Facts of a sealed block; Pick, Made; the fixed answers of layer 4 ('awake').
-/
import Derived.Test.YtlfplcidgccgdaaS4
import Derived.Test.YtlfplcidgccgdaaL3
set_option linter.unusedVariables false
set_option linter.unusedSimpArgs false
namespace Go.Proofs.Ytlfplcidgccgdaa.Y
open Go.RowKit

/-- An owned row as a slice whose length is known. -/
theorem Own.sliceN {w : World} {B : Nat} {v : Value} {xs : List UInt8} (h : Own w B v xs) {n : Nat} (hn : xs.length = n) : ∃ A c, v = .slice A n c ∧ n ≤ c ∧ c ≤ maxLen ∧ Rd w A xs := by
  subst hn
  exact h.slice
theorem Rd.at' {w : World} {b o : Nat} {xs : List UInt8} (h : Rd w (some ⟨b, o, none⟩) xs) (j : Nat) {u : UInt8} (hu : xs[j]? = some u) : w.cell? ⟨b, o + j, none⟩ = some (.int .u8 (u.toNat : Int)) := by
  obtain ⟨b', o', e, hc⟩ := h.at_ (by intro e; subst e; simp at hu)
  injection e with e
  injection e with e1 e2
  subst e1; subst e2
  exact hc j u hu
theorem Rd.addr {w : World} {A : Option Addr} {xs : List UInt8} (h : Rd w A xs) (hn : 0 < xs.length) : ∃ b o, A = some ⟨b, o, none⟩ := by
  obtain ⟨b, o, e, _⟩ := h.at_ (by intro e; subst e; simp at hn)
  exact ⟨b, o, e⟩
theorem sealB_len {xs : List UInt8} (v : Nat) (h : xs.length ≤ 4080) : (sealB xs v).length = 4096 := by
  unfold sealB
  simp
  omega
theorem sealB_take8 (xs : List UInt8) (v : Nat) : (sealB xs v).take 8 = leB v 8 := by
  unfold sealB
  rw [List.take_append_of_le_length (by simp), List.take_of_length_le (by simp)]
theorem sealB_drop8 (xs : List UInt8) (v : Nat) : (sealB xs v).drop 8 = xs ++ (zeros (4080 - xs.length) ++ leB v 8) := by
  unfold sealB
  rw [List.drop_append_of_le_length (by simp), List.drop_of_length_le (by simp), List.nil_append]
theorem sealB_mid {xs : List UInt8} (v : Nat) (h : xs.length ≤ 4080) : ((sealB xs v).drop 8).take 4080 = xs ++ zeros (4080 - xs.length) := by
  rw [sealB_drop8, ← List.append_assoc, List.take_append_of_le_length (by simp; omega), List.take_of_length_le (by simp; omega)]
theorem sealB_end {xs : List UInt8} (v : Nat) (h : xs.length ≤ 4080) : (sealB xs v).drop 4088 = leB v 8 := by
  have e : sealB xs v = (leB v 8 ++ (xs ++ zeros (4080 - xs.length))) ++ leB v 8 := by unfold sealB; simp
  rw [e, List.drop_append_of_le_length (by simp; omega), List.drop_of_length_le (by simp; omega), List.nil_append]
theorem sealB_num {xs : List UInt8} {v : Nat} (h : xs.length ≤ 4080) (hv : v < 18446744073709551616) : numV (sealB xs v) 0 8 = v := by
  rw [(ends_num (sealB_len v h)).1, sealB_take8, leN_leB v 8 hv]
/-- Sealed again with its noughts it is the same. -/
theorem sealB_again {xs : List UInt8} (v : Nat) (h : xs.length ≤ 4080) : sealB (xs ++ zeros (4080 - xs.length)) v = sealB xs v := by
  unfold sealB
  have e : 4080 - (xs ++ zeros (4080 - xs.length)).length = 0 := by simp; omega
  rw [e]
  simp [zeros]
theorem leB8_inj {a b : Nat} (ha : a < 18446744073709551616) (hb : b < 18446744073709551616) (h : leB a 8 = leB b 8) : a = b := by
  rw [← leN_leB a 8 ha, ← leN_leB b 8 hb, h]
/-! ### Pick -/
theorem pick_any {w : World} (x : Int) (n : Nat) (h0 : 0 < n) (hn : n ≤ 1000000) (h1 : -9223372036854775808 ≤ x) (h2 : x ≤ 9223372036854775807) :
    Calls Try.prog 16 #[.int .i64 x, .int .i64 n] w fun r w' => r = .returned (.int .i64 (x % n)) ∧ w = w' := by
  have b1 : x.tmod n < n := Int.tmod_lt_of_pos x (by omega)
  have b2 : -(n : Int) < x.tmod n := Int.lt_tmod_of_pos x (by omega)
  have b3 := Int.emod_nonneg x (b := (n : Int)) (by omega)
  have b4 := Int.emod_lt_of_pos x (b := (n : Int)) (by omega)
  have e : x.tmod n = x % n ∨ x.tmod n = x % n - n := by
    have e := Int.tmod_eq_emod (a := x) (b := (n : Int))
    split at e
    · left; rw [e]; simp
    · right; rw [e]; simp
  by_cases h : x.tmod n < 0
  · have e2 : x.tmod n + n = x % n := by omega
    go_enter Try.func16, Try.ntmps16
    go_wp2
    go_ret
    exact ⟨rfl, rfl⟩
  · have e2 : x.tmod n = x % n := by omega
    go_enter Try.func16, Try.ntmps16
    go_wp2
    go_ret
    exact ⟨rfl, rfl⟩
theorem wrap_u64 (z : Int) : 0 ≤ IntKind.u64.wrap z ∧ IntKind.u64.wrap z < 18446744073709551616 := by
  have e : IntKind.u64.wrap z = z % 18446744073709551616 := by simp [IntKind.wrap, IntKind.signed, IntKind.bits]
  rw [e]
  omega
theorem Blk.storeI {w : World} {g : Nat} {L : List UInt8} (h : Blk w g L) {j : Nat} {y : Int} (h0 : 0 ≤ y) (h1 : y < 256) :
    Blk (w.setCell ⟨g, j, none⟩ (.int .u8 y)) g (L.set j (UInt8.ofNat y.toNat)) ∧ w.grownBy (w.setCell ⟨g, j, none⟩ (.int .u8 y)) (some g) := by
  have e : (.int .u8 y : Value) = bv (UInt8.ofNat y.toNat) := by
    unfold bv
    rw [ofNat_cell]
    congr 1
    omega
  rw [e]
  exact h.store _
end Go.Proofs.Ytlfplcidgccgdaa.Y
