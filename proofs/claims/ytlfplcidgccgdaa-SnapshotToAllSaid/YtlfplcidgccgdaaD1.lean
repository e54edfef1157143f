/-
  Objects known whole; atomic counters; what a disk is.
-/
import Derived.Test.YtlfplcidgccgdaaS5
import Derived.Test.YtlfplcidgccgdaaYI
import Derived.Test.YtlfplcidgccgdaaYB
import Derived.Laws.LoneSync
set_option linter.unusedVariables false
set_option linter.unusedSimpArgs false
namespace Go.Proofs.Ytlfplcidgccgdaa.Y
open Go.RowKit

/-- A block known whole. -/
def Ob (w : World) (g : Nat) (t : TypeId) (cs : List Value) : Prop := w.heap[g]? = some (.cells cs.toArray t (0, 0))
theorem Ob.lt {w : World} {g : Nat} {t : TypeId} {cs : List Value} (h : Ob w g t cs) : g < w.heap.size := (Array.getElem?_eq_some_iff.1 h).1
theorem Ob.cell {w : World} {g : Nat} {t : TypeId} {cs : List Value} (h : Ob w g t cs) {j : Nat} {u : Value} (hj : cs[j]? = some u) : w.cell? ⟨g, j, none⟩ = some u := by
  rw [cell_of_row w g j _ _ _ h]
  simpa using hj
theorem Ob.frozen {w : World} {g : Nat} {t : TypeId} {cs : List Value} (h : Ob w g t cs) (j : Nat) : w.frozen? ⟨g, j, none⟩ = false := by
  have h' : w.heap[g]? = _ := h
  simp [World.frozen?, h']
theorem Ob.set {w : World} {g : Nat} {t : TypeId} {cs : List Value} (h : Ob w g t cs) (j : Nat) (u : Value) : Ob (w.setCell ⟨g, j, none⟩ u) g t (cs.set j u) := by
  have h' : w.heap[g]? = _ := h
  unfold Ob
  simp only [World.setCell, Array.getElem?_modify]
  simp [h']
theorem set_grown (w : World) (g j : Nat) (u : Value) : w.grownBy (w.setCell ⟨g, j, none⟩ u) (some g) :=
  ⟨rfl, rfl, rfl, by simp [World.setCell], fun k _ hk => Below.heap_setCell _ _ _ _ (fun e => hk (by rw [e]))⟩
theorem Ob.below {w w1 : World} {g : Nat} {t : TypeId} {cs : List Value} (h : Ob w g t cs) (hb : Below w.heap.size w w1) : Ob w1 g t cs := (hb.block g h.lt).trans h
theorem Ob.new (w : World) (t : TypeId) (cs : List Value) : Ob (w.alloc (.cells cs.toArray t)) w.heap.size t cs := heap_alloc_new w _
/-- Of what lay, only what S names has changed. -/
structure Tch (S : Nat → Prop) (w w' : World) : Prop where
  os : w'.os = w.os
  tape : w'.tape = w.tape
  output : w'.output = w.output
  size : w.heap.size ≤ w'.heap.size
  block : ∀ k, k < w.heap.size → ¬ S k → w'.heap[k]? = w.heap[k]?
theorem Tch.refl (S : Nat → Prop) (w : World) : Tch S w w := ⟨rfl, rfl, rfl, Nat.le_refl _, fun _ _ _ => rfl⟩
theorem Tch.trans {S : Nat → Prop} {w w1 w2 : World} (h : Tch S w w1) (k : Tch S w1 w2) : Tch S w w2 :=
  ⟨k.os.trans h.os, k.tape.trans h.tape, k.output.trans h.output, Nat.le_trans h.size k.size, fun j hj hs => (k.block j (Nat.lt_of_lt_of_le hj h.size) hs).trans (h.block j hj hs)⟩
theorem Tch.mono {S S' : Nat → Prop} {w w1 : World} (h : Tch S w w1) (hs : ∀ k, k < w.heap.size → S k → S' k) : Tch S' w w1 := ⟨h.os, h.tape, h.output, h.size, fun j hj hn => h.block j hj (fun q => hn (hs j hj q))⟩
theorem Tch.then {S S' : Nat → Prop} {w w1 w2 : World} (h : Tch S w w1) (k : Tch S' w1 w2) (hs : ∀ j, S' j → S j ∨ w.heap.size ≤ j) : Tch S w w2 :=
  ⟨k.os.trans h.os, k.tape.trans h.tape, k.output.trans h.output, Nat.le_trans h.size k.size, fun j hj hn => (k.block j (Nat.lt_of_lt_of_le hj h.size) (fun q => (hs j q).elim hn (by omega))).trans (h.block j hj hn)⟩
theorem Tch.grown {S : Nat → Prop} {w w1 w2 : World} (h : Tch S w w1) {row : Option Nat} (hg : w1.grownBy w2 row) (hr : ∀ j, row = some j → S j ∨ w.heap.size ≤ j) : Tch S w w2 :=
  h.then ⟨hg.os, hg.tape, hg.output, hg.size, fun j hj hn => hg.block j hj (fun e => hn e.symm)⟩ (S' := fun j => row = some j) hr
theorem Tch.below {S : Nat → Prop} {w w1 : World} (hb : Below w.heap.size w w1) : Tch S w w1 := ⟨hb.os, hb.tape, hb.output, hb.size, fun j hj _ => hb.block j hj⟩
theorem Tch.toBelow {S : Nat → Prop} {w w1 : World} (h : Tch S w w1) {B : Nat} (hB : B ≤ w.heap.size) (hs : ∀ j, S j → B ≤ j) : Below B w w1 := ⟨h.os, h.tape, h.output, h.size, fun j hj => h.block j (by omega) (fun q => by have := hs j q; omega)⟩
theorem Tch.own {S : Nat → Prop} {w w1 : World} (h : Tch S w w1) {B : Nat} {v : Value} {xs : List UInt8} (ho : Own w B v xs) (hs : ∀ k, v.ownBlock = some k → ¬ S k) : Own w1 B v xs := by
  obtain ⟨h1, h2⟩ := ho
  refine ⟨h1, ?_⟩
  rcases h2 with h2 | ⟨g, cap, cur, rfl, hb, hg, r⟩
  · exact .inl h2
  · exact .inr ⟨g, cap, cur, rfl, hb, (h.block g (Array.getElem?_eq_some_iff.1 hg).1 (hs g rfl)).trans hg, r⟩
theorem Tch.ob {S : Nat → Prop} {w w1 : World} (h : Tch S w w1) {g : Nat} {t : TypeId} {cs : List Value} (ho : Ob w g t cs) (hs : ¬ S g) : Ob w1 g t cs := (h.block g ho.lt hs).trans ho
theorem Tch.rows {S : Nat → Prop} {w w1 : World} (h : Tch S w w1) {B : Nat} {e : TypeId} {z n : Nat} {v : Value} {xs : List Value} (ho : w.ownsRow B e z v n xs) (hs : ∀ k, v.ownBlock = some k → ¬ S k) : w1.ownsRow B e z v n xs := by
  obtain ⟨h1, h2⟩ := ho
  refine ⟨h1, ?_⟩
  rcases h2 with h2 | ⟨g, cap, cur, rfl, hb, hg, r⟩
  · exact .inl h2
  · exact .inr ⟨g, cap, cur, rfl, hb, (h.block g (Array.getElem?_eq_some_iff.1 hg).1 (hs g rfl)).trans hg, r⟩

/-! Counters. -/
theorem load_any {w : World} {g j : Nat} {t : TypeId} {cs : List Value} (h : Ob w g t cs) {n : Int} (hj : cs[j]? = some (.int .i64 n)) :
    Calls Try.prog 67 #[.pointer (some ⟨g, j, none⟩)] w fun e w' => e = .returned (.int .i64 n) ∧ w = w' := by
  have hl := run_call_load (P := Try.prog) Try.func108 (by kernel_rfl) (by kernel_rfl) (by kernel_rfl) .i64 (by kernel_rfl) (h.cell hj)
  clear h hj
  go_enter Try.func67, Try.ntmps67
  go_wp2
  go_ret
  exact ⟨rfl, rfl⟩
theorem store_any {w : World} {g j : Nat} {t : TypeId} {cs : List Value} (h : Ob w g t cs) {u : Value} (hj : cs[j]? = some u) (n : Int) :
    Calls Try.prog 65 #[.pointer (some ⟨g, j, none⟩), .int .i64 n] w fun e w' => e = .returned (.tuple #[]) ∧ w' = w.setCell ⟨g, j, none⟩ (.int .i64 n) := by
  have hl := run_call_store (P := Try.prog) Try.func107 (by kernel_rfl) (by kernel_rfl) (by kernel_rfl) (by kernel_rfl) (y := n) (k := .i64) (h.cell hj) (h.frozen j)
  clear h hj
  go_enter Try.func65, Try.ntmps65
  go_wp2
  go_end0
  exact ⟨rfl, rfl⟩
theorem add_neg_any {w : World} {g j : Nat} {t : TypeId} {cs : List Value} (h : Ob w g t cs) {n : Int} (hj : cs[j]? = some (.int .i64 n)) (h0 : -9223372036854775808 < n) (h1 : n ≤ 9223372036854775807) :
    Calls Try.prog 68 #[.pointer (some ⟨g, j, none⟩), .int .i64 (-1)] w fun e w' => e = .returned (.int .i64 (n - 1)) ∧ w' = w.setCell ⟨g, j, none⟩ (.int .i64 (n - 1)) := by
  have hs : (Op.intArith .add .i64 n (-1)).run Try.prog w = .ok (.int .i64 (n - 1)) w := by
    have e : IntKind.i64.wrap (n + -1) = n - 1 := by rw [IntKind.wrap_i64]; omega
    simp [Op.intArith, e]
  have hl := run_call_add (P := Try.prog) Try.func109 (by kernel_rfl) (by kernel_rfl) (by kernel_rfl) .i64 (by kernel_rfl) (h.cell hj) (h.frozen j) hs
  clear h hj hs
  go_enter Try.func68, Try.ntmps68
  go_wp2
  go_ret
  exact ⟨rfl, rfl⟩
end Go.Proofs.Ytlfplcidgccgdaa.Y
