/-
  Boxes of one cell; rows and what is no cells.
-/
import Derived.Test.YtlfplcidgccgdaaYW
import Derived.RangeFuncOwn
import Derived.RangeFuncBox
set_option linter.unusedVariables false
set_option linter.unusedSimpArgs false
namespace Go.Proofs.Ytlfplcidgccgdaa.Y
open Go.RowKit

theorem row_at {w : World} {B : Nat} {e : TypeId} {size : Nat} {v : Value} {n : Nat} {xs : List Value} (h : w.ownsRow B e size v n xs) {g : Nat} (hg : v.ownBlock = some g) : ∃ cur, w.heap[g]? = some (.cells cur e (0, 0)) := by
  rcases h.2 with ⟨rfl, _⟩ | ⟨g', cap, cur, rfl, _, hh, _⟩
  · cases hg
  · simp [Value.ownBlock] at hg
    subst hg
    exact ⟨cur, hh⟩
theorem row_ne {w : World} {B B' : Nat} {e e' : TypeId} {size size' : Nat} {v u : Value} {n n' : Nat} {xs xs' : List Value} (h : w.ownsRow B e size v n xs) (h' : w.ownsRow B' e' size' u n' xs') (hne : e ≠ e') : u.ownBlock = none ∨ u.ownBlock ≠ v.ownBlock := by
  cases hu : u.ownBlock with
  | none => exact .inl rfl
  | some g =>
    right
    intro hv
    obtain ⟨c1, h1⟩ := row_at h' hu
    obtain ⟨c2, h2⟩ := row_at h hv.symm
    rw [h1] at h2
    injection h2 with h2
    injection h2 with _ h2
    exact hne h2.symm
/-- A box of one cell. -/
def Bx (w : World) (g : Nat) (t : TypeId) (v : Value) : Prop := w.heap[g]? = some (.cells #[v] t (0, 0))
theorem Bx.cell {w : World} {g : Nat} {t : TypeId} {v : Value} (h : Bx w g t v) : w.cell? ⟨g, 0, none⟩ = some v := by
  rw [cell_of_row w g 0 _ _ _ h]
  rfl
theorem Bx.frozen {w : World} {g : Nat} {t : TypeId} {v : Value} (h : Bx w g t v) : w.frozen? ⟨g, 0, none⟩ = false := by
  have h' : w.heap[g]? = _ := h
  simp [World.frozen?, h']
theorem Bx.lt {w : World} {g : Nat} {t : TypeId} {v : Value} (h : Bx w g t v) : g < w.heap.size := (Array.getElem?_eq_some_iff.1 h).1
theorem Bx.below {w w1 : World} {g : Nat} {t : TypeId} {v : Value} (h : Bx w g t v) (hb : Below w.heap.size w w1) : Bx w1 g t v := (hb.block g h.lt).trans h
theorem Bx.grown {w w1 : World} {g : Nat} {t : TypeId} {v : Value} (h : Bx w g t v) {row : Option Nat} (hg : w.grownBy w1 row) (hne : some g ≠ row) : Bx w1 g t v := (hg.block g h.lt hne).trans h
theorem Bx.store {w : World} {g : Nat} {t : TypeId} {v : Value} (h : Bx w g t v) (x : Value) : Bx (w.setCell ⟨g, 0, none⟩ x) g t x ∧ w.grownBy (w.setCell ⟨g, 0, none⟩ x) (some g) := by
  refine ⟨?_, ⟨rfl, rfl, rfl, by simp [World.setCell], fun k _ hk => Below.heap_setCell _ _ _ _ (fun e => hk (by rw [e]))⟩⟩
  have h' : w.heap[g]? = _ := h
  unfold Bx
  simp only [World.setCell, Array.getElem?_modify]
  simp [h']
theorem Bx.isCells {w : World} {g : Nat} {t : TypeId} {v : Value} (h : Bx w g t v) : ∃ o : Obj, w.heap[g]? = some o ∧ o.isCells = true := ⟨_, h, rfl⟩
theorem own_keep {w w1 : World} {B : Nat} {v : Value} {xs : List UInt8} (h : Own w B v xs) {row : Option Nat} (hg : w.grownBy w1 row) (hr : ∀ r, row = some r → ∃ o : Obj, w.heap[r]? = some o ∧ o.isCells = false) : Own w1 B v xs := by
  refine World.ownsRow.kept h hg ?_
  cases hv : v.ownBlock with
  | none => exact .inl rfl
  | some g =>
    right
    intro e
    obtain ⟨cur, hc⟩ := row_at h hv
    obtain ⟨o, h1, h2⟩ := hr g e.symm
    rw [hc] at h1
    injection h1 with h1
    rw [← h1] at h2
    cases h2
theorem Bx.keep {w w1 : World} {g : Nat} {t : TypeId} {v : Value} (h : Bx w g t v) {row : Option Nat} (hg : w.grownBy w1 row) (hr : ∀ r, row = some r → ∃ o : Obj, w.heap[r]? = some o ∧ o.isCells = false) : Bx w1 g t v :=
  h.grown hg (fun e => by
    obtain ⟨o, h1, h2⟩ := hr g e.symm
    obtain ⟨o', h3, h4⟩ := h.isCells
    rw [h3] at h1
    injection h1 with h1
    rw [← h1, h4] at h2
    cases h2)
theorem own_store {w : World} {B g : Nat} {v : Value} {xs : List UInt8} (h : Own w B v xs) (hg : g < B) (x : Value) : Own (w.setCell ⟨g, 0, none⟩ x) B v xs :=
  World.ownsRow.kept h (grownBy_setCell' w g x) (by
    cases hv : v.ownBlock with
    | none => exact .inl rfl
    | some k => right; intro e; injection e with e; have := h.base k hv; omega)
theorem Bx.other {w : World} {g h : Nat} {t : TypeId} {v : Value} (hx : Bx w g t v) (hne : g ≠ h) (x : Value) : Bx (w.setCell ⟨h, 0, none⟩ x) g t v :=
  (Below.heap_setCell _ _ _ _ (by simpa using hne)).trans hx
theorem Bx.new (w : World) (t : TypeId) (v : Value) : Bx (w.alloc (.cells #[v] t)) w.heap.size t v := heap_alloc_new w _
theorem Bx.newAt {w : World} {g : Nat} (t : TypeId) (v : Value) (h : g = w.heap.size) : Bx (w.alloc (.cells #[v] t)) g t v := by subst h; exact heap_alloc_new w _
theorem Bx.alloc {w : World} {g : Nat} {t : TypeId} {v : Value} (h : Bx w g t v) (o : Obj) : Bx (w.alloc o) g t v := h.below (balloc (Below.refl _ _) o)
theorem cell_block {W W' : World} {b : Nat} (h : W'.heap[b]? = W.heap[b]?) (o : Nat) : W'.cell? ⟨b, o, none⟩ = W.cell? ⟨b, o, none⟩ := by simp [World.cell?, h]
end Go.Proofs.Ytlfplcidgccgdaa.Y
