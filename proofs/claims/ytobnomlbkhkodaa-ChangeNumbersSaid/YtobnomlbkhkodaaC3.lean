/-
  change.may.
-/
import Derived.Test.YtobnomlbkhkodaaC2
set_option linter.unusedVariables false
set_option linter.unusedSimpArgs false
namespace Go.Proofs.Ytobnomlbkhkodaa.Y
open Go.RowKit

/-- May a piece of l bytes at a be? -/
def mayP (a : Int) (l : Nat) : Bool := decide (0 ≤ a) && (decide (0 < l) && decide (a ≤ 4080 - (l : Int)))
theorem may_piece {w : World} (a : Int) (A : Option Addr) (l c : Nat) (hl : l ≤ 140737488355328) (h0 : -9223372036854775808 ≤ a) (h1 : a ≤ 9223372036854775807) :
    Calls Try.prog 54 #[.agg #[.int .i64 a, .slice A l c]] w fun e w' => e = .returned (.bool (mayP a l)) ∧ Below w.heap.size w w' := by
  by_cases ha : 0 ≤ a
  · by_cases hl0 : 0 < l
    · have e : mayP a l = decide (a ≤ 4080 - (l : Int)) := by unfold mayP; rw [decide_eq_true ha, decide_eq_true hl0]; rfl
      rw [e]
      clear e
      go_enter Try.func54, Try.ntmps54
      go_wp2_with fail
      go_ret
      exact ⟨rfl, balloc (Below.refl _ _) _⟩
    · have e : mayP a l = false := by unfold mayP; rw [decide_eq_false hl0]; simp
      rw [e]
      clear e
      obtain rfl : l = 0 := by omega
      go_enter Try.func54, Try.ntmps54
      go_wp2_with fail
      go_ret
      exact ⟨rfl, balloc (Below.refl _ _) _⟩
  · have e : mayP a l = false := by unfold mayP; rw [decide_eq_false ha]; rfl
    rw [e]
    clear e
    go_enter Try.func54, Try.ntmps54
    go_wp2_with fail
    go_ret
    exact ⟨rfl, balloc (Below.refl _ _) _⟩
end Go.Proofs.Ytobnomlbkhkodaa.Y
