/-
  Rows of ints that are read; from a row's reading of a []int.
-/
import Derived.Test.YtlfplcidgccgdaaYR
import Derived.Test.YtlfplcidgccgdaaYW
set_option linter.unusedVariables false
set_option linter.unusedSimpArgs false
namespace Go.Proofs.Ytlfplcidgccgdaa.Y
open Go.ChangeShapes Go.WideShapes Go.RowKit

def iv (x : Int) : Value := .int .i64 x
def ivs (xs : List Int) : List Value := xs.map iv
/-- At this address these ints stand. -/
def RdI (w : World) (A : Option Addr) (xs : List Int) : Prop :=
  xs = [] ∨ ∃ b o, A = some ⟨b, o, none⟩ ∧ ∀ j u, xs[j]? = some u → w.cell? ⟨b, o + j, none⟩ = some (iv u)
def Ints (xs : List Int) : Prop := ∀ x ∈ xs, -9223372036854775808 ≤ x ∧ x ≤ 9223372036854775807
theorem RdI.below {w w1 : World} {A : Option Addr} {xs : List Int} (h : RdI w A xs) (hb : Below w.heap.size w w1) : RdI w1 A xs := by
  rcases h with h | ⟨b, o, e, hc⟩
  · exact .inl h
  · exact .inr ⟨b, o, e, fun j u hu => (hb.cell (World.block_lt_of_cell? w _ (hc j u hu))).trans (hc j u hu)⟩
theorem RdI.at_ {w : World} {A : Option Addr} {xs : List Int} (h : RdI w A xs) {j : Nat} (hj : j < xs.length) : ∃ b o, A = some ⟨b, o, none⟩ ∧ w.cell? ⟨b, o + j, none⟩ = some (.int .i64 (xs[j]'hj)) := by
  rcases h with h | ⟨b, o, e, hc⟩
  · subst h; simp at hj
  · exact ⟨b, o, e, hc j _ (List.getElem?_eq_getElem hj)⟩
theorem RdI.lit {w : World} {g : Nat} {xs : List Int} {cs : Array Value} (hg : g = w.heap.size) (h : cs = (ivs xs).toArray) (t : TypeId) : RdI (w.alloc (.cells cs t)) (some ⟨g, 0, none⟩) xs := by
  subst hg; subst h
  refine .inr ⟨_, 0, rfl, fun j u hu => ?_⟩
  rw [cell_of_row _ _ _ _ _ _ (heap_alloc_new w _)]
  simp [ivs, hu, Nat.zero_add]

section
variable {H : Type} {enc : TypeId × Value → H} {P : Program} {W : World} {base : Nat} {spare : Nat → Bool} {held : Bool} {t e : TypeId} {a : Option Addr} {len cap : Nat} {d : DataW H} {ps : List MemPlace}
theorem int_wf64 {z : Int} (h : (Lit.int .i64 z).wf = true) : -9223372036854775808 ≤ z ∧ z ≤ 9223372036854775807 := by
  simp [Lit.wf, IntKind.min, IntKind.max, IntKind.signed, IntKind.bits] at h
  omega
theorem row_intsI (hu : P.underlying t = some (.slice e)) (he : P.underlying e = some (.int .i64)) (hc : P.cellsOf e = 1)
    (h : DataW.Trod enc P W base spare held t (.slice a len cap) d ps) : ∃ l : List Int, l.length = len ∧ len ≤ cap ∧ cap ≤ maxLen ∧ RdI W a l ∧ Ints l ∧ len ≤ Rows.uptoBulk d := by
  obtain ⟨fuel, hf⟩ := h
  rcases open_ints hu he hc hf with ⟨hcs, _⟩ | ⟨x, l, c, zs, hcs, _, hl, hm, hz, hx, hcell, hwz⟩
  · simp [Value.cells] at hcs
    obtain ⟨rfl, rfl, rfl⟩ := hcs
    exact ⟨[], rfl, Nat.le_refl _, Nat.zero_le _, .inl rfl, fun x hx => (by cases hx), Nat.zero_le _⟩
  · simp [Value.cells] at hcs
    obtain ⟨rfl, rfl, rfl⟩ := hcs
    obtain ⟨hx, _⟩ := Prod.mk.inj hx
    subst hx
    have hl2 : len ≤ zs.length := by
      rw [hz]
      split
      · exact hl
      · exact Nat.le_refl _
    have hlen : (zs.take len).length = len := by simp; omega
    refine ⟨zs.take len, hlen, hl, hm, ?_, fun z hz => int_wf64 (hwz z (List.mem_of_mem_take hz)), ?_⟩
    · rcases Nat.eq_zero_or_pos len with h0 | h0
      · subst h0; exact .inl (by simp)
      · obtain ⟨b, o, s⟩ := x
        have h1 := hcell 0 (by omega)
        have hs : s = none := by simpa [Addr.add] using World.cell?_spot h1
        subst hs
        refine .inr ⟨b, o, rfl, fun j u hu => ?_⟩
        rw [List.getElem?_take] at hu
        split at hu
        · obtain ⟨hj, rfl⟩ := List.getElem?_eq_some_iff.1 hu
          have h2 := hcell j hj
          rw [add_plain] at h2
          rw [h2]
          simp [iv, List.getD, List.getElem?_eq_getElem hj]
        · cases hu
    · simp only [Rows.uptoBulk]
      have h1 := bulk_length (H := H) (lits .i64 (zs.take len))
      have h2 : (lits (H := H) .i64 (zs.take len)).length = len := by simp [lits]; omega
      omega
theorem row_sizedI {ts : List TypeId} {ds : List (DataW H)} {j : Nat} (hsz : (DataW.weightsEach P ts ds).all (· ≤ reachBytes) = true) (ht : ts[j]? = some t) (hd : ds[j]? = some d)
    (hu : P.underlying t = some (.slice e)) (he : P.underlying e = some (.int .i64)) (hc : P.cellsOf e = 1) (hB : P.bytesOf e = 8)
    (h : DataW.Trod enc P W base spare held t (.slice a len cap) d ps) : len ≤ 17592186043904 := by
  obtain ⟨fuel, hf⟩ := h
  rcases open_ints hu he hc hf with ⟨hcs, _⟩ | ⟨x, l, c, zs, hcs, _, hl, _, hz, hx, _, _⟩
  · simp [Value.cells] at hcs
    obtain ⟨rfl, rfl, rfl⟩ := hcs
    simp
  · simp [Value.cells] at hcs
    obtain ⟨rfl, rfl, rfl⟩ := hcs
    obtain ⟨hx, _⟩ := Prod.mk.inj hx
    subst hx
    have z := sized_slice hsz ht hd hu
    rw [hB] at z
    have hl2 : len ≤ zs.length := by
      rw [hz]
      split
      · exact hl
      · exact Nat.le_refl _
    have h1 : (lits (H := H) .i64 (zs.take len)).length + (lits (H := H) .i64 (zs.drop len)).length = zs.length := by
      simp [lits]
      omega
    simp only [reachBytes] at z
    omega
end
end Go.Proofs.Ytlfplcidgccgdaa.Y
