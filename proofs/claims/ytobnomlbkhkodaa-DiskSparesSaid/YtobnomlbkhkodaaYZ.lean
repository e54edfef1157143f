/-
  chancerylow.Made: which bytes it makes.
-/
import Derived.Test.YtobnomlbkhkodaaS5
set_option linter.unusedVariables false
set_option linter.unusedSimpArgs false
namespace Go.Proofs.Ytobnomlbkhkodaa.Y
open Go.RowKit

def madeN (x : Int) : Int := IntKind.u64.wrap (IntKind.u64.wrap (x * 2862933555777941757) + 3037000493)
/-- The number's state ahead of byte j. -/
def madeX (s : Int) : Nat → Int
  | 0 => IntKind.u64.wrap (IntKind.u64.wrap (IntKind.u64.wrap s * 2862933555777941757) + 3037000493)
  | j + 1 => if j % 64 = 0 then madeN (madeX s j) else madeX s j
def madeB (s : Int) (j : Nat) : UInt8 := UInt8.ofNat (madeX s (j + 1) / 1099511627776 % 256).toNat
def madeL (s : Int) (n : Nat) : List UInt8 := (List.range n).map (madeB s)
@[simp] theorem madeL_length (s : Int) (n : Nat) : (madeL s n).length = n := by simp [madeL]
theorem madeX_range (s : Int) (j : Nat) : 0 ≤ madeX s j ∧ madeX s j < 18446744073709551616 := by
  induction j with
  | zero => exact wrap_u64 _
  | succ j ih =>
    unfold madeX
    split
    · exact wrap_u64 _
    · exact ih
theorem made_step {s : Int} {j n : Nat} {L : List UInt8} (h : ∀ i, i < j → L[i]? = some (madeB s i)) (hj : j < L.length) : ∀ i, i < j + 1 → (L.set j (madeB s j))[i]? = some (madeB s i) := by
  intro i hi
  by_cases e : i = j
  · subst e
    rw [List.getElem?_set_self hj]
  · rw [List.getElem?_set_ne (Ne.symm e)]
    exact h i (by omega)
theorem made_all {s : Int} {n : Nat} {L : List UInt8} (hL : L.length = n) (h : ∀ i, i < n → L[i]? = some (madeB s i)) : L = madeL s n := by
  apply List.ext_getElem?
  intro i
  by_cases hi : i < n
  · rw [h i hi]
    simp [madeL, hi]
  · rw [List.getElem?_eq_none (by omega), List.getElem?_eq_none (by simp; omega)]
set_option maxHeartbeats 1600000 in
theorem made_det {w : World} (s : Int) (n : Nat) (hn : n ≤ 1000000) (h1 : -9223372036854775808 ≤ s) (h2 : s ≤ 9223372036854775807) :
    Calls Try.prog 42 #[.int .i64 s, .int .i64 n] w fun r w' => ∃ v, r = .returned v ∧ v ≠ .slice none 0 0 ∧ Own w' w.heap.size v (madeL s n) ∧ Below w.heap.size w w' := by
  have hmk := make_lit n n rfl (by omega)
  go_enter Try.func42, Try.ntmps42
  go_wp2_with fail
  go_loopw [6, 7] (fun x i wr => ∃ j : Nat, ∃ X : Int, ∃ L, j ≤ n ∧ i = .int .i64 j ∧ x = .int .u64 X ∧ Hid (X = madeX s j) ∧ 0 ≤ X ∧ X < 18446744073709551616 ∧ L.length = n ∧ Hid ((Blk wr w.heap.size L ∧ Below w.heap.size w wr) ∧ ∀ i, i < j → L[i]? = some (madeB s i))) (fun _ i _ => n - (intOf i).toNat)
  case atStart => exact ⟨0, _, zeros n, Nat.zero_le _, rfl, rfl, rfl, (wrap_u64 _).1, (wrap_u64 _).2, by simp, ⟨Blk.new _ _, balloc (Below.refl _ _) _⟩, fun i hi => absurd hi (Nat.not_lt_zero _)⟩
  case round =>
    obtain ⟨j, X, L, hj, rfl, rfl, hX, hX0, hX1, hL, hB⟩ := hrel
    by_cases hlt : j < n
    · have c0 := hB.out.1.1.cell (j := j) (by omega)
      have f0 := hB.out.1.1.frozen j
      have hst := fun (y : Int) (h0 : 0 ≤ y) (h1 : y < 256) => hB.out.1.1.storeI (j := j) h0 h1
      have HST := Lib.hid hst
      clear hst
      by_cases h64 : j % 64 = 0
      · have q64 : (((j : Int) % 64) == 0) = true := by rw [beq_iff_eq]; omega
        have HX : Hid (madeX s (j + 1) = IntKind.u64.wrap (IntKind.u64.wrap (X * 2862933555777941757) + 3037000493)) := by
          show _ = _
          rw [madeX, if_pos h64, ← hX.out]
          rfl
        have HS := Lib.hid (HST.out _ (Int.emod_nonneg (IntKind.u64.wrap (IntKind.u64.wrap (X * 2862933555777941757) + 3037000493) / 1099511627776) (by decide : (256 : Int) ≠ 0)) (Int.emod_lt_of_pos _ (by decide)))
        clear h64
        go_wp2_with fail
        go_roundw
        case rel =>
          refine ⟨j + 1, _, _, by omega, by go_num, rfl, HX.out.symm, (wrap_u64 _).1, (wrap_u64 _).2, by simpa using hL, ⟨HS.out.1, hB.out.1.2.grown HS.out.2 (Nat.le_of_lt_succ (by have := hB.out.1.1.lt; omega)) (by intro k hk; injection hk with hk; omega)⟩, ?_⟩
          rw [← HX.out]
          exact made_step (n := n) hB.out.2 (by omega)
        case measure => simp [intOf]; omega
      · have q64 : (((j : Int) % 64) == 0) = false := by rw [beq_eq_false_iff_ne]; omega
        have HX : Hid (madeX s (j + 1) = X) := by
          show _ = _
          rw [madeX, if_neg h64, ← hX.out]
        have HS := Lib.hid (HST.out _ (Int.emod_nonneg (X / 1099511627776) (by decide : (256 : Int) ≠ 0)) (Int.emod_lt_of_pos _ (by decide)))
        clear h64
        go_wp2_with fail
        go_roundw
        case rel =>
          refine ⟨j + 1, _, _, by omega, by go_num, rfl, HX.out.symm, hX0, hX1, by simpa using hL, ⟨HS.out.1, hB.out.1.2.grown HS.out.2 (Nat.le_of_lt_succ (by have := hB.out.1.1.lt; omega)) (by intro k hk; injection hk with hk; omega)⟩, ?_⟩
          have := made_step (n := n) hB.out.2 (by omega)
          unfold madeB at this ⊢
          rw [HX.out] at this
          exact this
        case measure => simp [intOf]; omega
    · obtain rfl : j = n := by omega
      go_wp2_with fail
      go_ret
      have ho := Blk.own hB.out.1.1 (Nat.le_refl _) (n := L.length) (Nat.le_refl _) (by rw [hL]; exact Nat.le_trans hn (by decide))
      rw [List.take_of_length_le (Nat.le_refl _), hL] at ho
      have e := made_all hL hB.out.2
      subst e
      exact ⟨_, rfl, by simp, ho, hB.out.1.2⟩
end Go.Proofs.Ytobnomlbkhkodaa.Y
