/-
  A range over a function whose body may lean on what has come before (the law of the walk, with a word 'Adm' for what may come); change.unlike's maker.
-/
import Derived.Test.YtobnomlbkhkodaaC1
set_option linter.unusedVariables false
set_option linter.unusedSimpArgs false
namespace Go.Proofs.Ytobnomlbkhkodaa.Y
open Go.RowKit Go.Shelf
attribute [local go_sem] Oper.semAt_some

set_option maxHeartbeats 1000000 in
theorem unlike_in (F : Fence) (n : Nat) (hf : F.fn 53) (hro : F.round = none) (A B : Option Addr) (l m c d : Nat) (w : World) :
    CallsIn F n Try.prog 53 #[.slice A l c, .slice B m d] w fun e w' => e = .returned (.func (.func 75) #[] #[.pointer (some ⟨w.heap.size, 0, none⟩), .pointer (some ⟨w.heap.size + 1, 0, none⟩)]) ∧ w' = (w.alloc (.cells #[.slice A l c] 23)).alloc (.cells #[.slice B m d] 23) := by
  refine callsIn_of_wp Try.func53 rfl hf ?_ hro
  simp only [Try.ntmps53, List.size_toArray, List.length_cons, List.length_nil, Nat.reduceAdd, Nat.reduceSub, Array.replicate_succ, Array.replicate_zero, List.push_toArray, List.append_toArray, List.nil_append, List.cons_append]
  gi_wp2
  go_ret
  exact ⟨by simp, rfl⟩
/-- What unlike may hand on behind pre. -/
def UnlAdm (xs ys : List UInt8) (pre : List Nat) (x : Nat) : Prop := x < 4080 ∧ xs[x]? ≠ ys[x]? ∧ pre = unl xs ys x
theorem unlike_stops (F : Fence) (n : Nat) (hf : F.fn 75) (hro : F.round = none) (hn : 1 ≤ n) (Ba Bb : Nat) (w0 : World) (A B : Option Addr) (c d : Nat) (xs ys : List UInt8) (hx : xs.length = 4080) (hy : ys.length = 4080)
    (hA : Rd w0 A xs) (hB : Rd w0 B ys) (w : World) (h0w : Below w0.heap.size w0 w) (hBa0 : Ba < w.heap.size) (hBb0 : Bb < w.heap.size) (hBa : w.cell? ⟨Ba, 0, none⟩ = some (.slice A 4080 c)) (hBb : w.cell? ⟨Bb, 0, none⟩ = some (.slice B 4080 d)) :
    SeqAdm F n Try.prog 75 #[.pointer (some ⟨Ba, 0, none⟩), .pointer (some ⟨Bb, 0, none⟩)] (fun x : Nat => #[Value.int .i64 (x : Int)]) (Kept w0.heap.size Ba Bb) (fun zs => zs = unl xs ys 4080) (fun pre => ∃ k, k ≤ 4080 ∧ pre = unl xs ys k) (UnlAdm xs ys) w := fun l J Jx W hW hJ hJx hY h0 => by
  refine (unlike1_in F n hf hro hn l Ba Bb w0 A B c d xs ys hx hy hA hB J Jx ?_ (fun pre x W hj h1 h2 h3 => hY pre x W hj ⟨h1, h2, h3⟩) W (h0w.trans (hW.mono h0w.size)) ((hW.cell (p := ⟨Ba, 0, none⟩) hBa0).trans hBa) ((hW.cell (p := ⟨Bb, 0, none⟩) hBb0).trans hBb) h0).mono ?_
  · intro zs W' m hj
    exact hJ zs W' (W'.drewN m) none hj ⟨rfl, rfl, rfl, Nat.le_refl _, fun _ _ _ => rfl⟩ (fun r e => by cases e)
  · rintro e W' ⟨he, h⟩
    exact ⟨he, h⟩
theorem kept_put {n₀ Ba Bb : Nat} {w : World} (h0 : n₀ ≤ w.heap.size) (ha : Ba < w.heap.size) (hb : Bb < w.heap.size) (W : World) (l : Nat) (o o' : Obj) (hl : w.heap.size ≤ l) (h : W.heap[l]? = some o) (hc : o.isCells = false) : Kept n₀ Ba Bb W (W.putObj l o') :=
  ⟨(Below.refl n₀ W).grown (grownBy_putObj' W l o') (by have := (Array.getElem?_eq_some_iff.1 h).1; omega) (fun k e => by cases e; omega), World.putObj_heap_other (by omega), World.putObj_heap_other (by omega)⟩
end Go.Proofs.Ytobnomlbkhkodaa.Y
