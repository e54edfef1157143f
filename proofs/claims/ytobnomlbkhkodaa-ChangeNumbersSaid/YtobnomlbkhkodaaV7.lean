/-
  The walk of VerkeyNumbers.
-/
import Derived.Test.YtobnomlbkhkodaaV6
import Derived.Test.YtobnomlbkhkodaaYO
set_option linter.unusedVariables false
set_option linter.unusedSimpArgs false
namespace Go.Proofs.Ytobnomlbkhkodaa.Y
open Go.RowKit

/-- A slice that reads so. -/
def SliceOf (w : World) (u : Value) (L : List UInt8) : Prop := ∃ A c, u = .slice A L.length c ∧ L.length ≤ c ∧ Rd w A L
theorem SliceOf.alloc {w : World} {u : Value} {L : List UInt8} (h : SliceOf w u L) (o : Obj) : SliceOf (w.alloc o) u L := by
  obtain ⟨A, c, h1, h2, h3⟩ := h
  exact ⟨A, c, h1, h2, h3.alloc o⟩
theorem SliceOf.below {w w1 : World} {u : Value} {L : List UInt8} (h : SliceOf w u L) (hb : Below w.heap.size w w1) : SliceOf w1 u L := by
  obtain ⟨A, c, h1, h2, h3⟩ := h
  exact ⟨A, c, h1, h2, h3.below hb⟩
theorem SliceOf.new (w : World) (L : List UInt8) (cs : Array Value) (n : Nat) (h : cs = (bvs L).toArray) (hn : n = L.length) : SliceOf (w.alloc (.cells cs 5)) (.slice (some ⟨w.heap.size, 0, none⟩) n n) L := by
  subst hn
  exact ⟨_, _, rfl, Nat.le_refl _, rd_new rfl h⟩
theorem getD_listed {listed : Array Bool} {i : Nat} (h : listed.getD i true = false) (j : Nat) : (listed.setIfInBounds i true).getD j false = if j = i then true else listed.getD j false := by
  have hi : i < listed.size := by
    rcases Nat.lt_or_ge i listed.size with h' | h'
    · exact h'
    · rw [Array.getD_eq_getD_getElem?, Array.getElem?_eq_none h'] at h; simp at h
  simp only [Array.getD_eq_getD_getElem?, Array.getElem?_setIfInBounds]
  by_cases e : j = i
  · subst e; simp [hi]
  · rw [if_neg e, if_neg (fun q => e q.symm)]
theorem getD_rep (n k : Nat) : (Array.replicate n false).getD k false = false := by
  simp only [Array.getD_eq_getD_getElem?, Array.getElem?_replicate]
  split <;> rfl
theorem Fr.get' {a0 a : Act} {lo hi : Nat} {v : Nat → Value} (h : Fr a0 a lo hi v) (t : Nat) (h1 : lo ≤ t) (h2 : t ≤ hi) : a.tmps[t]?.getD undef = v t := by
  rw [← Array.getD_eq_getD_getElem?, h.get, if_pos ⟨h1, h2⟩]
theorem getD_not {listed : Array Bool} {i : Nat} (h : listed.getD i true = false) : listed.getD i false = false := by
  rcases Nat.lt_or_ge i listed.size with h' | h'
  · rw [Array.getD_eq_getD_getElem?, Array.getElem?_eq_getElem h'] at h ⊢; exact h
  · rw [Array.getD_eq_getD_getElem?, Array.getElem?_eq_none h'] at h; simp at h
theorem getD_size {listed : Array Bool} {i : Nat} (hs : i < listed.size) (h : listed.getD i false = false) : listed.getD i true = false := by
  rw [Array.getD_eq_getD_getElem?, Array.getElem?_eq_getElem hs] at h ⊢; exact h
theorem ready_nil {md : Region.Mode} {ops : Array Oper} {listed : Array Bool} (hr : Region.ready md ops listed = []) {i : Nat} (hs : i < listed.size) {o : Oper} (ho : ops[i]? = some o) (hd : ∀ e ∈ o.after, Region.binds md e = true → listed.getD e.on false = true) : listed.getD i false = true := by
  cases h : listed.getD i false with
  | true => rfl
  | false =>
    exfalso
    have hi : i < ops.size := (Array.getElem?_eq_some_iff.1 ho).1
    have : i ∈ Region.ready md ops listed := ready_iff.2 ⟨hi, getD_size hs h, o, ho, hd⟩
    rw [hr] at this
    cases this
def lit7 (k : Nat) : List UInt8 := match k with
  | 0 => [97, 0]
  | 1 => [97, 0, 1, 255, 255, 255, 255, 255, 255, 255, 250]
  | 2 => [0, 0, 255, 255, 255, 255, 255, 255, 255, 250]
  | 3 => [97, 0, 0, 0, 0, 0, 0, 0, 0, 0, 0]
  | 4 => [97, 0, 5, 0, 0, 255, 255, 255, 255, 255, 255, 255, 250]
  | 5 => zeros 10
  | 6 => zeros 11
  | _ => []
structure J7 (we : World) (listed : Array Bool) (v : Nat → Value) (w : World) : Prop where
  size : listed.size = 10
  below : Below we.heap.size we w
  lits : ∀ k, k < 7 → listed.getD k false = true → SliceOf w (v (101 + k)) (lit7 k)
  outer : listed.getD 7 false = true → (∀ k, k < 7 → listed.getD k false = true) ∧ ∃ G, v 108 = .slice (some ⟨G, 0, none⟩) 8 8 ∧ we.heap.size ≤ G ∧ w.heap[G]? = some (.cells #[.slice none 0 0, v 101, v 102, v 103, v 104, v 105, v 106, v 107] 23 (0, 0))
  len : listed.getD 8 false = true → v 109 = .int .i64 8
  start : listed.getD 9 false = true → v 110 = .int .i64 0
theorem J7.lit {we : World} {listed : Array Bool} {v : Nat → Value} {w : World} (h : J7 we listed v w) {k : Nat} (hk : k < 7) (hl : listed.getD k true = false) {u : Value} {o : Obj} (hu : SliceOf (w.alloc o) u (lit7 k)) :
    J7 we (listed.setIfInBounds k true) (fun t => if t = 101 + k then u else v t) (w.alloc o) := by
  refine ⟨by simp [h.size], balloc h.below o, fun j hj hjl => ?_, fun h7 => ?_, fun h8 => ?_, fun h9 => ?_⟩
  · rw [getD_listed hl] at hjl
    by_cases e : j = k
    · subst e; rw [if_pos rfl]; exact hu
    · rw [if_neg e] at hjl
      rw [if_neg (by omega)]
      exact (h.lits j hj hjl).alloc o
  · rw [getD_listed hl, if_neg (by omega)] at h7
    have := (h.outer h7).1 k hk
    rw [getD_not hl] at this
    cases this
  · rw [getD_listed hl, if_neg (by omega)] at h8
    show (if 109 = 101 + k then u else v 109) = _
    rw [if_neg (by omega)]
    exact h.len h8
  · rw [getD_listed hl, if_neg (by omega)] at h9
    show (if 110 = 101 + k then u else v 110) = _
    rw [if_neg (by omega)]
    exact h.start h9
theorem J7.out {we : World} {listed : Array Bool} {v : Nat → Value} {w : World} (h : J7 we listed v w) (hl : listed.getD 7 true = false) (hall : ∀ k, k < 7 → listed.getD k false = true) :
    J7 we (listed.setIfInBounds 7 true) (fun t => if t = 108 then .slice (some ⟨w.heap.size, 0, none⟩) 8 8 else v t) (w.alloc (.cells #[.slice none 0 0, v 101, v 102, v 103, v 104, v 105, v 106, v 107] 23)) := by
  refine ⟨by simp [h.size], balloc h.below _, fun j hj hjl => ?_, fun h7 => ⟨fun k hk => by rw [getD_listed hl, if_neg (by omega)]; exact hall k hk, w.heap.size, if_pos rfl, h.below.size, heap_alloc_new _ _⟩, fun h8 => ?_, fun h9 => ?_⟩
  · rw [if_neg (by omega)]
    exact (h.lits j hj (hall j hj)).alloc _
  · rw [getD_listed hl, if_neg (by omega)] at h8
    exact h.len h8
  · rw [getD_listed hl, if_neg (by omega)] at h9
    exact h.start h9
theorem J7.eight {we : World} {listed : Array Bool} {v : Nat → Value} {w : World} (h : J7 we listed v w) (hl : listed.getD 8 true = false) :
    J7 we (listed.setIfInBounds 8 true) (fun t => if t = 109 then .int .i64 8 else v t) w := by
  refine ⟨by simp [h.size], h.below, fun j hj hjl => ?_, fun h7 => ?_, fun h8 => if_pos rfl, fun h9 => ?_⟩
  · rw [getD_listed hl, if_neg (by omega)] at hjl
    rw [if_neg (by omega)]
    exact h.lits j hj hjl
  · rw [getD_listed hl, if_neg (by omega)] at h7
    exact ⟨fun k hk => by rw [getD_listed hl, if_neg (by omega)]; exact (h.outer h7).1 k hk, (h.outer h7).2⟩
  · rw [getD_listed hl, if_neg (by omega)] at h9
    exact h.start h9
theorem J7.nine {we : World} {listed : Array Bool} {v : Nat → Value} {w : World} (h : J7 we listed v w) (hl : listed.getD 9 true = false) :
    J7 we (listed.setIfInBounds 9 true) (fun t => if t = 110 then .int .i64 0 else v t) w := by
  refine ⟨by simp [h.size], h.below, fun j hj hjl => ?_, fun h7 => ?_, fun h8 => ?_, fun h9 => if_pos rfl⟩
  · rw [getD_listed hl, if_neg (by omega)] at hjl
    rw [if_neg (by omega)]
    exact h.lits j hj hjl
  · rw [getD_listed hl, if_neg (by omega)] at h7
    exact ⟨fun k hk => by rw [getD_listed hl, if_neg (by omega)]; exact (h.outer h7).1 k hk, (h.outer h7).2⟩
  · rw [getD_listed hl, if_neg (by omega)] at h8
    exact h.len h8
/-- What the region leaves. -/
def Eight (we : World) (s8 s9 s10 : Value) (w : World) : Prop := s9 = .int .i64 8 ∧ s10 = .int .i64 0 ∧ Below we.heap.size we w ∧ ∃ G, ∃ u : Nat → Value, s8 = .slice (some ⟨G, 0, none⟩) 8 8 ∧ we.heap.size ≤ G ∧ w.heap[G]? = some (.cells #[.slice none 0 0, u 0, u 1, u 2, u 3, u 4, u 5, u 6] 23 (0, 0)) ∧ ∀ k, k < 7 → SliceOf w (u k) (lit7 k)
theorem J7.done {we : World} {listed : Array Bool} {v : Nat → Value} {w : World} (h : J7 we listed v w) (hall : ∀ i, i < 10 → listed.getD i false = true) : Eight we (v 108) (v 109) (v 110) w := by
  obtain ⟨_, G, h1, h2, h3⟩ := h.outer (hall 7 (by decide))
  exact ⟨h.len (hall 8 (by decide)), h.start (hall 9 (by decide)), h.below, G, fun k => v (101 + k), h1, h2, h3, fun k hk => h.lits k hk (hall k (by omega))⟩
theorem lit7_bad (k : Nat) (hk : k < 7) : ¬ verOk (lit7 k) ∧ (lit7 k).length ≤ 16 := by
  match k, hk with
  | 0, _ => decide +kernel
  | 1, _ => decide +kernel
  | 2, _ => decide +kernel
  | 3, _ => decide +kernel
  | 4, _ => decide +kernel
  | 5, _ => decide +kernel
  | 6, _ => decide +kernel
theorem eight_at {wc wr : World} {G : Nat} {u : Nat → Value} (hrow : wc.heap[G]? = some (.cells #[.slice none 0 0, u 0, u 1, u 2, u 3, u 4, u 5, u 6] 23 (0, 0))) (hs : ∀ k, k < 7 → SliceOf wc (u k) (lit7 k)) (hb : Below wc.heap.size wc wr) {j : Nat} (hj : j < 8) :
    ∃ A n c L, wr.cell? ⟨G, j, none⟩ = some (.slice A n c) ∧ L.length = n ∧ n ≤ c ∧ Rd wr A L ∧ ¬ verOk L ∧ n ≤ 16 := by
  have hlt : G < wc.heap.size := (Array.getElem?_eq_some_iff.1 hrow).1
  have h2 : wr.cell? ⟨G, j, none⟩ = wc.cell? ⟨G, j, none⟩ := hb.cell hlt
  rw [h2, cell_of_row wc G j _ _ _ hrow]
  have H : ∀ k, k < 7 → ∃ A n c L, u k = .slice A n c ∧ L.length = n ∧ n ≤ c ∧ Rd wr A L ∧ ¬ verOk L ∧ n ≤ 16 := fun k hk => by
    obtain ⟨A, c, h1, h2, h3⟩ := (hs k hk).below hb
    exact ⟨A, _, c, lit7 k, h1, rfl, h2, h3, (lit7_bad k hk).1, (lit7_bad k hk).2⟩
  match j, hj with
  | 0, _ => exact ⟨none, 0, 0, [], rfl, rfl, Nat.le_refl _, Rd.nil _ _, by decide +kernel, by decide⟩
  | 1, _ => obtain ⟨A, n, c, L, e, r⟩ := H 0 (by decide); exact ⟨A, n, c, L, congrArg some e, r⟩
  | 2, _ => obtain ⟨A, n, c, L, e, r⟩ := H 1 (by decide); exact ⟨A, n, c, L, congrArg some e, r⟩
  | 3, _ => obtain ⟨A, n, c, L, e, r⟩ := H 2 (by decide); exact ⟨A, n, c, L, congrArg some e, r⟩
  | 4, _ => obtain ⟨A, n, c, L, e, r⟩ := H 3 (by decide); exact ⟨A, n, c, L, congrArg some e, r⟩
  | 5, _ => obtain ⟨A, n, c, L, e, r⟩ := H 4 (by decide); exact ⟨A, n, c, L, congrArg some e, r⟩
  | 6, _ => obtain ⟨A, n, c, L, e, r⟩ := H 5 (by decide); exact ⟨A, n, c, L, congrArg some e, r⟩
  | 7, _ => obtain ⟨A, n, c, L, e, r⟩ := H 6 (by decide); exact ⟨A, n, c, L, congrArg some e, r⟩
/-- The longest key with the greatest number. -/
def longB : List UInt8 := joinB (zeros 128) 4611686018427387904
theorem longB_length : longB.length = 266 := by decide +kernel
theorem longB_ok : verOk longB := by decide +kernel
theorem longB_n : pnB longB = 4611686018427387904 := by decide +kernel
theorem longB_k : pkB longB = zeros 128 := by decide +kernel
end Go.Proofs.Ytobnomlbkhkodaa.Y
