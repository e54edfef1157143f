/-
  Rows of pieces.
-/
import Derived.Test.YtobnomlbkhkodaaC3
import Derived.Test.YtobnomlbkhkodaaYB
set_option linter.unusedVariables false
set_option linter.unusedSimpArgs false
namespace Go.Proofs.Ytobnomlbkhkodaa.Y
open Go.RowKit

theorem info_piece : (Try.prog.info? 36).map (fun i => (i.zero, i.size, i.bytes)) = some (some (.agg #[.int .i64 0, .slice none 0 0]), 2, 32) := by kernel_rfl
def pcell (p : Int × Value) : List Value := [.int .i64 p.1, p.2]
/-- A row of the call's own that holds these pieces, whose bytes are rows of its own. -/
def Pcs (w : World) (B : Nat) (v : Value) (L : List (Int × List UInt8)) : Prop :=
  ∃ qs : List (Int × Value), qs.length = L.length ∧ w.ownsRow B 36 2 v qs.length (qs.flatMap pcell) ∧ ∀ (i : Nat) (q : Int × Value) (p : Int × List UInt8), qs[i]? = some q → L[i]? = some p → q.1 = p.1 ∧ Own w B q.2 p.2
theorem Pcs.nil (w : World) (B : Nat) : Pcs w B (.slice none 0 0) [] := ⟨[], rfl, World.ownsRow_nil _ _ _ _, fun i q p h => by simp at h⟩
theorem Pcs.below {w w1 : World} {B : Nat} {v : Value} {L : List (Int × List UInt8)} (h : Pcs w B v L) (hb : Below w.heap.size w w1) : Pcs w1 B v L := by
  obtain ⟨qs, h1, h2, h3⟩ := h
  exact ⟨qs, h1, World.ownsRow.kept h2 ⟨hb.os, hb.tape, hb.output, hb.size, fun i hi _ => hb.block i hi⟩ (row := none) (by cases v.ownBlock <;> simp), fun i q p hq hp => ⟨(h3 i q p hq hp).1, (h3 i q p hq hp).2.below hb⟩⟩
theorem Pcs.alloc {w : World} {B : Nat} {v : Value} {L : List (Int × List UInt8)} (h : Pcs w B v L) (o : Obj) : Pcs (w.alloc o) B v L := h.below (balloc (Below.refl _ _) o)
/-- One piece more. -/
theorem pcs_append_run {w : World} (base : Nat) (ty : TypeId) (v : Value) (L : List (Int × List UInt8)) (h : Pcs w base v L) (a : Int) (u : Value) (xs : List UInt8) (hu : Own w base u xs) (g : Nat)
    (hg : w.heap[g]? = some (.cells #[.int .i64 a, u] 36 (0, 0))) (hL : L.length ≤ 4398046511000) (hbase : base ≤ w.heap.size) :
    ∃ v' w', (Builtin.append_ #[26, 26] ty #[v, .slice (some ⟨g, 0, none⟩) 1 1]).run Try.prog w = .ok v' w' ∧ Pcs w' base v' (L ++ [(a, xs)]) ∧ w.grownBy w' v.ownBlock := by
  obtain ⟨i0, hi, hzz⟩ := Option.map_eq_some_iff.1 info_piece
  simp only [Prod.mk.injEq] at hzz
  obtain ⟨hz0, hz1, hz2⟩ := hzz
  obtain ⟨qs, h1, h2, h3⟩ := h
  have hone : u.oneCell' = true := by
    obtain ⟨A, c, rfl, _⟩ := hu.slice
    rfl
  have := append_run (P := Try.prog) (w := w) base 26 ty 36 i0 _ 2 32 Try.underlying26 hi hz0 hz1 hz2 rfl (by decide) v qs.length (qs.flatMap pcell) h2 (some ⟨g, 0, none⟩) 1 1 [.int .i64 a, u] rfl
    (.inr ⟨_, rfl, fun j x hx => by
      rw [add_plain]
      rw [cell_of_row w g (0 + j) _ _ _ hg, Nat.zero_add]
      match j, hx with
      | 0, hx => simpa using hx
      | 1, hx => simpa using hx
      | (k + 2), hx => simp at hx⟩)
    (by intro x hx; simp at hx; rcases hx with rfl | rfl; rfl; exact hone) (by simp only [maxLen]; omega) (by omega) hbase
  obtain ⟨v', w', hr, hown, hgr, _, _⟩ := this
  refine ⟨v', w', hr, ⟨qs ++ [(a, u)], by simp [h1], ?_, ?_⟩, hgr⟩
  · simpa [pcell] using hown
  · intro i q p hq hp
    by_cases hlt : i < qs.length
    · rw [List.getElem?_append_left hlt] at hq
      rw [List.getElem?_append_left (by omega)] at hp
      obtain ⟨e1, e2⟩ := h3 i q p hq hp
      exact ⟨e1, World.ownsRow.kept e2 hgr (row_ne h2 e2 (by decide))⟩
    · have hi2 : i = qs.length := by
        have := (List.getElem?_eq_some_iff.1 hq).1
        simp at this
        omega
      subst hi2
      rw [List.getElem?_append_right (Nat.le_refl _)] at hq
      rw [h1, List.getElem?_append_right (Nat.le_refl _)] at hp
      simp at hq hp
      subst hq; subst hp
      exact ⟨rfl, World.ownsRow.kept hu hgr (row_ne h2 hu (by decide))⟩
end Go.Proofs.Ytobnomlbkhkodaa.Y
