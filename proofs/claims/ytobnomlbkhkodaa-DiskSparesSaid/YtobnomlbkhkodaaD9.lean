/-
  package disk: Read; the iterator over its writes, backward.
-/
import Derived.RangeFuncNested
import Derived.RangeFuncBound
import Derived.RangeFuncCalls
import Derived.RangeFuncLeaves
import Derived.Shelf.Abstract
import Derived.Shelf.RegionOpen
import Derived.WalkKit
import Derived.OwnWalkIn
import Derived.TacticsInMore
import Derived.LoopNIn
import Derived.LoopIn
import Derived.Sort.QuietIn
import Derived.Stop.RegionWithIn
import Derived.Laws.EntriesVeiled
import Derived.Test.YtobnomlbkhkodaaD8
import Derived.Test.YtobnomlbkhkodaaYF
set_option linter.unusedVariables false
set_option linter.unusedSimpArgs false
namespace Go.Proofs.Ytobnomlbkhkodaa.Y
open Go.RowKit Go.Shelf
attribute [local go_sem] Oper.semAt_some
attribute [local go_sem ↓] Go.wp_at_zero Go.wp_at_succ

/-- m - 1, m - 2, ..: the first k of them. -/
def dn (m k : Nat) : List Nat := (List.range k).map fun j => m - 1 - j
theorem dn_succ (m k : Nat) : dn m (k + 1) = dn m k ++ [m - 1 - k] := by
  unfold dn
  rw [List.range_succ, List.map_append]
  rfl
theorem dn_next {m x : Nat} (h : x < m) : dn m (m - x) = dn m (m - (x + 1)) ++ [x] := by
  rw [show m - x = (m - (x + 1)) + 1 from by omega, dn_succ, show m - 1 - (m - (x + 1)) = x from by omega]
theorem dn_mem {m k i : Nat} (hk : k ≤ m) : i ∈ dn m k ↔ m - k ≤ i ∧ i < m := by
  unfold dn
  simp only [List.mem_map, List.mem_range]
  constructor
  · rintro ⟨j, h1, h2⟩; omega
  · rintro ⟨h1, h2⟩; exact ⟨m - 1 - i, by omega, by omega⟩
/-- What lay below n₀, and one block beside, are as they were. -/
structure KeptB (n₀ Ba : Nat) (W W' : World) : Prop where
  low : Below n₀ W W'
  a : W'.heap[Ba]? = W.heap[Ba]?
theorem KeptB.refl (n₀ Ba : Nat) (W : World) : KeptB n₀ Ba W W := ⟨Below.refl _ _, rfl⟩
theorem KeptB.trans {n₀ Ba : Nat} {X Y Z : World} (h : KeptB n₀ Ba X Y) (k : KeptB n₀ Ba Y Z) : KeptB n₀ Ba X Z := ⟨h.low.trans k.low, k.a.trans h.a⟩
theorem keptB_put {n₀ Ba : Nat} {w : World} (h0 : n₀ ≤ w.heap.size) (ha : Ba < w.heap.size) (W : World) (l : Nat) (o o' : Obj) (hl : w.heap.size ≤ l) (h : W.heap[l]? = some o) (hc : o.isCells = false) : KeptB n₀ Ba W (W.putObj l o') :=
  ⟨(Below.refl n₀ W).grown (grownBy_putObj' W l o') (by have := (Array.getElem?_eq_some_iff.1 h).1; omega) (fun k e => by cases e; omega), World.putObj_heap_other (by omega)⟩
theorem backward_in (F : Fence) (n : Nat) (hf : F.fn 61) (hro : F.round = none) (A : Option Addr) (m c : Nat) (w : World) :
    CallsIn F n Try.prog 61 #[.slice A m c] w fun e w' => e = .returned (.func (.func 78) #[] #[.pointer (some ⟨w.heap.size, 0, none⟩)]) ∧ w' = w.alloc (.cells #[.slice A m c] 90) := by
  refine callsIn_of_wp Try.func61 rfl hf ?_ hro
  simp only [Try.ntmps61, List.size_toArray, List.length_cons, List.length_nil, Nat.reduceAdd, Nat.reduceSub, Array.replicate_succ, Array.replicate_zero, List.push_toArray, List.append_toArray, List.nil_append, List.cons_append]
  gi_wp2
  go_ret
  exact ⟨by simp, rfl⟩
def encW (at_ : Nat → Int) (da : Nat → Value) (x : Nat) : Array Value := #[.int .i64 (x : Int), .agg #[.int .i64 (at_ x), da x]]
/-- The writes' cells. -/
def WCells (w : World) (A : Option Addr) (m : Nat) (at_ : Nat → Int) (da : Nat → Value) : Prop := ∀ i, i < m → ∃ b o, A = some ⟨b, o, none⟩ ∧ w.cell? ⟨b, o + i * 2, none⟩ = some (.int .i64 (at_ i)) ∧ w.cell? ⟨b, o + i * 2 + 1, none⟩ = some (da i)
theorem WCells.below {w w1 : World} {A : Option Addr} {m : Nat} {at_ : Nat → Int} {da : Nat → Value} (h : WCells w A m at_ da) (hb : Below w.heap.size w w1) : WCells w1 A m at_ da := fun i hi => by
  obtain ⟨b, o, e, h1, h2⟩ := h i hi
  exact ⟨b, o, e, (hb.cell (World.block_lt_of_cell? w _ h1)).trans h1, (hb.cell (World.block_lt_of_cell? w _ h2)).trans h2⟩
set_option maxRecDepth 100000 in
set_option maxHeartbeats 1600000 in
theorem back1_in (F : Fence) (n : Nat) (hf : F.fn 78) (hro : F.round = none) (hn : 1 ≤ n) (l Ba : Nat) (w0 : World) (A : Option Addr) (m c : Nat) (hm : m ≤ 1000000) (at_ : Nat → Int) (da : Nat → Value)
    (hA : WCells w0 A m at_ da) (J Jx : List Nat → World → Prop) (hJa : ∀ zs W n, J zs W → J zs (W.drewN n))
    (hY : ∀ pre x W, J pre W → x < m → pre = dn m (m - (x + 1)) → YieldAt F (n - 1) Try.prog l (encW at_ da x) W fun e W' =>
      (e = .returned (.bool true) ∧ J (pre ++ [x]) W' ∧ KeptB w0.heap.size Ba W W') ∨ (e = .returned (.bool false) ∧ Jx (pre ++ [x]) W'))
    (W : World) (h0W : Below w0.heap.size w0 W) (hBa : W.cell? ⟨Ba, 0, none⟩ = some (.slice A m c)) (h0 : J [] W) :
    CallsIn F n Try.prog 78 #[.func (.yield l) #[] #[], .pointer (some ⟨Ba, 0, none⟩)] W fun e W' => (∃ v, e = .returned v) ∧
      ((∃ zs, zs = dn m m ∧ J zs W') ∨ (∃ pre, (∃ k, k ≤ m ∧ pre = dn m k) ∧ Jx pre W')) := by
  cases F
  dsimp only at hro
  subst hro
  have HA := Lib.hid hA
  have HW := Lib.hid h0W
  have ez : IntKind.i64.wrap ((m : Int) - 1) = (m : Int) - 1 := by rw [IntKind.wrap_i64]; omega
  clear hA h0W
  refine callsIn_of_wp Try.func78 rfl hf ?_ rfl
  simp only [Try.ntmps78, List.size_toArray, List.length_cons, List.length_nil, Nat.reduceAdd, Nat.reduceSub, Array.replicate_succ, Array.replicate_zero, List.push_toArray, List.append_toArray, List.nil_append, List.cons_append]
  gi_wp2
  gi_loopw [3] (fun i wr => ∃ (v : Int) (r : Nat), r ≤ m ∧ i = .int .i64 v ∧ v = (r : Int) - 1 ∧ J (dn m (m - r)) wr ∧ KeptB w0.heap.size Ba W wr)
    (fun i _ => (intOf i + 1).toNat)
  case atStart => exact ⟨_, m, Nat.le_refl _, rfl, rfl, by rw [Nat.sub_self]; exact h0, KeptB.refl _ _ _⟩
  case round =>
    obtain ⟨v, r, hr, rfl, hv, hJs, hnx⟩ := hrel
    cases r with
    | zero =>
      have ev : decide ((0 : Int) ≤ v) = false := decide_eq_false (by omega)
      clear hv
      gi_wp2
      go_end0
      exact ⟨⟨_, rfl⟩, .inl ⟨_, rfl, hJs⟩⟩
    | succ x =>
      obtain rfl : v = (x : Int) := by omega
      have e0 : decide ((0 : Int) ≤ (x : Int)) = true := decide_eq_true (by omega)
      have z0 : (0 : Int) ≤ (x : Int) := by omega
      have z1 : (x : Int) < (m : Int) := by omega
      have ex : IntKind.i64.wrap ((x : Int) - 1) = (x : Int) - 1 := by rw [IntKind.wrap_i64]; omega
      obtain ⟨b, o, rfl, p0, p1⟩ := HA.out.below (HW.out.trans hnx.low) x (by omega)
      have ca := (cell_block hnx.a 0).trans hBa
      obtain ⟨fn, tmps, assign, body, hy, hR⟩ := hY _ x wr hJs (by omega) rfl
      unfold encW at hy
      have hR2 := hR.mono (R' := fun e W' => ∃ b : Bool, e = .returned (.bool b) ∧ Hid (b = true → J (dn m (m - (x + 1)) ++ [x]) W' ∧ KeptB w0.heap.size Ba wr W') ∧ Hid (b = false → Jx (dn m (m - (x + 1)) ++ [x]) W')) (by
        rintro e W' (⟨rfl, h1, h2⟩ | ⟨rfl, h1⟩)
        · exact ⟨true, rfl, Lib.hid (fun _ => ⟨h1, h2⟩), Lib.hid (fun h => absurd h (by decide))⟩
        · exact ⟨false, rfl, Lib.hid (fun h => absurd h (by decide)), Lib.hid (fun _ => h1)⟩)
      clear hR hv
      have hnxt := Lib.hid (dn_next (m := m) (x := x) (by omega))
      gi_wp2_with (refine hR2.mono ?_; rintro e W3 ⟨b, rfl, hT, hF⟩; cases b)
      all_goals first
        | (have hF2 := hF.out (by simp)
           clear hT hF
           refine bodyPost_ret (results_none rfl _ _ _) rfl ?_
           exact ⟨⟨_, rfl⟩, .inr ⟨_, ⟨m - x, by omega, hnxt.out.symm⟩, hF2⟩⟩)
        | (have hT2 := hT.out (by simp)
           clear hT hF
           refine ⟨⟨_, x, by omega, rfl, rfl, by rw [hnxt.out]; exact hT2.1, hnx.trans hT2.2⟩, ?_⟩
           show (((x : Int) - 1) + 1).toNat < ((x : Int) + 1).toNat
           omega)
end Go.Proofs.Ytobnomlbkhkodaa.Y
