/-
  verkey.text.
-/
import Derived.Test.YtobnomlbkhkodaaS9
set_option linter.unusedVariables false
set_option linter.unusedSimpArgs false
namespace Go.Proofs.Ytobnomlbkhkodaa.Y
open Go.RowKit

/-- A key's text. -/
def textB (xs : List UInt8) : List UInt8 := xs.flatMap fun c => if c = 0 then [0, 255] else [c]
theorem textB_take {xs : List UInt8} {k : Nat} (h : k < xs.length) : textB (xs.take (k + 1)) = if xs[k] = 0 then textB (xs.take k) ++ [0] ++ [255] else textB (xs.take k) ++ [xs[k]] := by
  rw [List.take_succ_eq_append_getElem h]
  unfold textB
  rw [List.flatMap_append]
  split <;> rename_i e <;> simp [e]
theorem textB_length (xs : List UInt8) : (textB xs).length ≤ 2 * xs.length := by
  unfold textB
  induction xs with
  | nil => simp
  | cons x xs ih =>
    rw [List.flatMap_cons, List.length_append, List.length_cons]
    split <;> simp only [List.length_cons, List.length_nil] <;> omega
/-- The cell that holds the slice. -/
def SlotB (w : World) (g : Nat) (v : Value) : Prop := w.heap[g]? = some (.cells #[v] 23 (0, 0))
theorem SlotB.cell {w : World} {g : Nat} {v : Value} (h : SlotB w g v) : w.cell? ⟨g, 0, none⟩ = some v := by
  rw [cell_of_row w g 0 _ _ _ h]
  rfl
theorem SlotB.frozen {w : World} {g : Nat} {v : Value} (h : SlotB w g v) : w.frozen? ⟨g, 0, none⟩ = false := by
  have h' : w.heap[g]? = _ := h
  simp [World.frozen?, h']
theorem SlotB.lt {w : World} {g : Nat} {v : Value} (h : SlotB w g v) : g < w.heap.size := (Array.getElem?_eq_some_iff.1 h).1
theorem SlotB.below {w w1 : World} {g : Nat} {v : Value} (h : SlotB w g v) (hb : Below w.heap.size w w1) : SlotB w1 g v := (hb.block g h.lt).trans h
theorem SlotB.grown {w w1 : World} {g : Nat} {v : Value} (h : SlotB w g v) {row : Option Nat} (hg : w.grownBy w1 row) (hne : some g ≠ row) : SlotB w1 g v := (hg.block g h.lt hne).trans h
theorem SlotB.store {w : World} {g : Nat} {v : Value} (h : SlotB w g v) (x : Value) : SlotB (w.setCell ⟨g, 0, none⟩ x) g x ∧ w.grownBy (w.setCell ⟨g, 0, none⟩ x) (some g) := by
  refine ⟨?_, ⟨rfl, rfl, rfl, by simp [World.setCell], fun k _ hk => Below.heap_setCell _ _ _ _ (fun e => hk (by rw [e]))⟩⟩
  have h' : w.heap[g]? = _ := h
  unfold SlotB
  simp only [World.setCell, Array.getElem?_modify]
  simp [h']
theorem Own.grownN {w w1 : World} {B : Nat} {v : Value} {xs : List UInt8} (h : Own w B v xs) {g : Nat} (hg : w.grownBy w1 (some g)) (hB : g < B) : Own w1 B v xs :=
  World.ownsRow.kept h hg (by right; intro e; have := Own.base h g e; omega)
end Go.Proofs.Ytobnomlbkhkodaa.Y
