/-
  DiskSynced: the four rows of what each block may hold.
-/
import Derived.Test.YtobnomlbkhkodaaDG
import Derived.Test.YtobnomlbkhkodaaYT
set_option linter.unusedVariables false
set_option linter.unusedSimpArgs false
namespace Go.Proofs.Ytobnomlbkhkodaa.Y
open Go.RowKit

/-- A row of blocks: these lists of 4096 bytes. -/
def BRow (w : World) (B : Nat) (v : Value) (L : List (List UInt8)) : Prop :=
  ∃ vals : List Value, RowO w B 23 v vals ∧ vals.length = L.length ∧ ∀ (j : Nat) x xs, vals[j]? = some x → L[j]? = some xs → Own w B x xs ∧ xs.length = 4096
theorem BRow.kept {w w1 : World} {S : Nat → Prop} (ht : Tch S w w1) {B : Nat} {v : Value} {L : List (List UInt8)} (h : BRow w B v L) (hs : ∀ k, v.ownBlock = some k → ¬ S k) (hown : ∀ {v : Value} {xs : List UInt8}, Own w B v xs → ∀ k, v.ownBlock = some k → ¬ S k) : BRow w1 B v L := by
  obtain ⟨vals, h1, h2, h3⟩ := h
  refine ⟨vals, h1.kept (fun k hk => ?_), h2, fun j x xs hx hL => ?_⟩
  · obtain ⟨cur, hc⟩ := h1.at_ hk
    exact ht.block k (Array.getElem?_eq_some_iff.1 hc).1 (hs k hk)
  · obtain ⟨q1, q2⟩ := h3 j x xs hx hL
    exact ⟨ht.own q1 (hown q1), q2⟩
/-- The first k of four such rows, on blocks of their own. -/
structure MRows (w : World) (B : Nat) (vs : List Value) (k : Nat) (M : Nat → List (List UInt8)) : Prop where
  row : ∀ (b : Nat) v, b < k → vs[b]? = some v → BRow w B v (M b)
  apart : ∀ (b c : Nat) u v, b < k → c < k → b ≠ c → vs[b]? = some u → vs[c]? = some v → u.ownBlock ≠ v.ownBlock
theorem MRows.kept {w w1 : World} {S : Nat → Prop} (ht : Tch S w w1) {B : Nat} {vs : List Value} {k : Nat} {M : Nat → List (List UInt8)} (h : MRows w B vs k M) (hs : ∀ (b : Nat) v j, b < k → vs[b]? = some v → v.ownBlock = some j → ¬ S j) (hown : ∀ {v : Value} {xs : List UInt8}, Own w B v xs → ∀ k, v.ownBlock = some k → ¬ S k) : MRows w1 B vs k M :=
  ⟨fun b v hb hv => (h.row b v hb hv).kept ht (fun j hj => hs b v j hb hv hj) hown, h.apart⟩
theorem MRows.below {w w1 : World} (hb : Below w.heap.size w w1) {B : Nat} {vs : List Value} {k : Nat} {M : Nat → List (List UInt8)} (h : MRows w B vs k M) : MRows w1 B vs k M :=
  h.kept (Tch.below (S := fun _ => False) hb) (fun _ _ _ _ _ _ q => q) (fun _ _ _ q => q)
/-- One row is new. -/
theorem MRows.set {w : World} {B : Nat} {vs : List Value} {k k' : Nat} {M M' : Nat → List (List UInt8)} (h : MRows w B vs k M) {b : Nat} {x : Value} (hx : BRow w B x (M' b)) (hk : ∀ c, c < k' → c = b ∨ c < k) (hM : ∀ c, c ≠ b → M' c = M c)
    (ha : ∀ (c : Nat) v, c < k → c ≠ b → vs[c]? = some v → x.ownBlock ≠ v.ownBlock) : MRows w B (vs.set b x) k' M' := by
  have hget : ∀ (c : Nat) v, (vs.set b x)[c]? = some v → (c = b ∧ v = x) ∨ (c ≠ b ∧ vs[c]? = some v) := by
    intro c v hv
    by_cases hc : c = b
    · subst hc
      have hlt : c < vs.length := by simpa using (List.getElem?_eq_some_iff.1 hv).1
      rw [List.getElem?_set_self hlt] at hv
      injection hv with hv
      exact .inl ⟨rfl, hv.symm⟩
    · rw [List.getElem?_set_ne (Ne.symm hc)] at hv
      exact .inr ⟨hc, hv⟩
  refine ⟨fun c v hc hv => ?_, fun c e u v hc he hne hu hv => ?_⟩
  · rcases hget c v hv with ⟨rfl, rfl⟩ | ⟨hne, hv⟩
    · exact hx
    · rw [hM c hne]
      exact h.row c v ((hk c hc).resolve_left hne) hv
  · rcases hget c u hu with ⟨h1, h2⟩ | ⟨hcb, hu2⟩
    · rcases hget e v hv with ⟨h3, _⟩ | ⟨heb, hv2⟩
      · exact absurd (h1.trans h3.symm) hne
      · rw [h2]
        exact ha e v ((hk e he).resolve_left heb) heb hv2
    · rcases hget e v hv with ⟨h3, h4⟩ | ⟨heb, hv2⟩
      · rw [h4]
        exact fun q => ha c u ((hk c hc).resolve_left hcb) hcb hu2 q.symm
      · exact h.apart c e u v ((hk c hc).resolve_left hcb) ((hk e he).resolve_left heb) hne hu2 hv2
/-- A row of one block. -/
theorem BRow.one {w : World} {B : Nat} {x : Value} {xs : List UInt8} (h : Own w B x xs) (hl : xs.length = 4096) (hB : B ≤ w.heap.size) : BRow (w.alloc (.cells #[x] 23)) B (.slice (some ⟨w.heap.size, 0, none⟩) 1 1) [xs] :=
  ⟨[x], RowO.new w _ [x] hB (show 1 ≤ maxLen by decide), rfl, fun j y ys hy hys => by
    match j, hy, hys with
    | 0, hy, hys =>
      injection hy with hy
      injection hys with hys
      subst hy; subst hys
      exact ⟨h.below (balloc (Below.refl _ _) _), hl⟩
    | (j + 1), hy, hys => simp at hy⟩
/-- What stands while the writes are made (DiskSynced's second loop). -/
structure SI (keep : List Bool) (torn : Int) (ct Bd g gb mA cb k : Nat) (box : List Value) (nv : Value) (w : World) (D : DS) (ws : Value) (M : Nat → List (List UInt8)) (vs : List Value) : Prop where
  at_ : DiskAt w Bd g gb ws D
  calm : Calm D
  four : D.blocks.length = 4
  cnt : nv = .int .i64 D.writes.length
  few : D.writes.length ≤ k
  model : SModel keep torn ct D M
  arr : Ob w mA 61 vs
  vl : vs.length = 4
  rows : MRows w (mA + 1) vs 4 M
  len : ∀ b, b < 4 → (M b).length < 2 ^ (k + 1)
  crash : Ob w cb 56 box
end Go.Proofs.Ytobnomlbkhkodaa.Y
