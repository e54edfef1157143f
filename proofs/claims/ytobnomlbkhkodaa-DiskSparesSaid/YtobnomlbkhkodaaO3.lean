/-
  The contracts of package octets: add and what is built on it; slices.Clone at bytes; Part.
-/
import Derived.Test.YtobnomlbkhkodaaO2
import Derived.Laws.CopyOwn
import Derived.Outline
set_option linter.unusedVariables false
set_option linter.unusedSimpArgs false
namespace Go.Proofs.Ytobnomlbkhkodaa.Y
open Go.RowKit

/-- The n lowest bytes of v, the lowest first. -/
def leB (v : Nat) : Nat → List UInt8
  | 0 => []
  | n + 1 => leB v n ++ [UInt8.ofNat (v / 256 ^ n)]
@[simp, go_sem] theorem leB_length (v n : Nat) : (leB v n).length = n := by
  induction n with
  | zero => rfl
  | succ n ih => simp [leB, ih]

/-- Noughts (a name that the walk does not open). -/
def zeros (n : Nat) : List UInt8 := List.replicate n 0
@[simp] theorem zeros_length (n : Nat) : (zeros n).length = n := by simp [zeros]
/-- make([]byte, l, c). -/
theorem make_bytes (l c : Nat) (hlc : l ≤ c) (hc : c ≤ 281474976710656) (W : World) :
    (Instr.makeSlice 23 (.int .i64 (l : Int)) (.int .i64 (c : Int))).run Try.prog W = .ok (.slice (some ⟨W.heap.size, 0, none⟩) l c) (W.alloc (.cells (bvs (zeros c)).toArray 5)) := by
  obtain ⟨i0, hi, hzz⟩ := Option.map_eq_some_iff.1 info_u8
  simp only [Prod.mk.injEq] at hzz
  obtain ⟨hz0, hz1, hz2⟩ := hzz
  have h := run_make (P := Try.prog) W 23 5 i0 (.int .u8 0) Try.underlying23 hi hz0 .i64 .i64 (l : Int) (c : Int) (by omega) (by omega) (by rw [hz2]; omega) (by omega)
  rw [h]
  have e : madeCells (Value.int IntKind.u8 0).cells ((c : Int).toNat * i0.size) = (bvs (zeros c)).toArray := by
    unfold zeros
    rw [hz1, Int.toNat_natCast, Nat.mul_one]
    apply Array.ext
    · simp [bvs, madeCells, Value.cells]
    · intro i h1 h2
      simp [madeCells, bvs, bv, Value.cells, Nat.mod_one]
  rw [e]
  simp

theorem make_lit (z : Int) (n : Nat) (hz : z = n) (hn : n ≤ 281474976710656) : ∀ W : World, (Instr.makeSlice 23 (.int .i64 z) (.int .i64 z)).run Try.prog W = .ok (.slice (some ⟨W.heap.size, 0, none⟩) n n) (W.alloc (.cells (bvs (zeros n)).toArray 5)) := by
  subst hz
  exact make_bytes n n (Nat.le_refl _) hn
theorem rd_zeros {w : World} {g n : Nat} (hg : g = w.heap.size) : Rd (w.alloc (.cells (bvs (zeros n)).toArray 5)) (some ⟨g, 0, none⟩) (zeros n) := by
  subst hg
  have := (Blk.new w (zeros n)).rd 0 n
  simpa [zeros] using this

end Go.Proofs.Ytobnomlbkhkodaa.Y
