/-
  change.unlike: the iterator of the places at which two pages are unlike.
-/
import Derived.RangeFuncNested
import Derived.RangeFuncBound
import Derived.RangeFuncCalls
import Derived.RangeFuncLeaves
import Derived.Shelf.Abstract
import Derived.Shelf.RegionOpen
import Derived.WalkKit
import Derived.OwnWalkIn
import Derived.TacticsInMore
import Derived.LoopNIn
import Derived.LoopIn
import Derived.Sort.QuietIn
import Derived.Stop.RegionWithIn
import Derived.Test.YtobnomlbkhkodaaV7
import Derived.Test.YtobnomlbkhkodaaYF
set_option linter.unusedVariables false
set_option linter.unusedSimpArgs false
namespace Go.Proofs.Ytobnomlbkhkodaa.Y
open Go.RowKit Go.Shelf
attribute [local go_sem] Oper.semAt_some

/-- The first places of the first k at which they are unlike. -/
def unl (xs ys : List UInt8) (k : Nat) : List Nat := (List.range k).filter fun i => xs[i]? != ys[i]?
theorem unl_succ (xs ys : List UInt8) (k : Nat) : unl xs ys (k + 1) = if xs[k]? = ys[k]? then unl xs ys k else unl xs ys k ++ [k] := by
  unfold unl
  rw [List.range_succ, List.filter_append]
  by_cases h : xs[k]? = ys[k]?
  · rw [if_pos h]; simp [h]
  · rw [if_neg h]; simp [h]
theorem unl_length (xs ys : List UInt8) (k : Nat) : (unl xs ys k).length ≤ k := by
  unfold unl
  exact Nat.le_trans (List.length_filter_le _ _) (by simp)

/-- What lay below n₀, and two blocks beside, are as they were. -/
structure Kept (n₀ Ba Bb : Nat) (W W' : World) : Prop where
  low : Below n₀ W W'
  a : W'.heap[Ba]? = W.heap[Ba]?
  b : W'.heap[Bb]? = W.heap[Bb]?
theorem Kept.refl (n₀ Ba Bb : Nat) (W : World) : Kept n₀ Ba Bb W W := ⟨Below.refl _ _, rfl, rfl⟩
theorem Kept.trans {n₀ Ba Bb : Nat} {X Y Z : World} (h : Kept n₀ Ba Bb X Y) (k : Kept n₀ Ba Bb Y Z) : Kept n₀ Ba Bb X Z := ⟨h.low.trans k.low, k.a.trans h.a, k.b.trans h.b⟩
theorem Kept.drewN {n₀ Ba Bb : Nat} {X Y : World} (h : Kept n₀ Ba Bb X Y) (n : Nat) : Kept n₀ Ba Bb X (Y.drewN n) := ⟨bdrewN h.low n, h.a, h.b⟩
set_option maxRecDepth 100000 in
set_option maxHeartbeats 4000000 in
theorem unlike1_in (F : Fence) (n : Nat) (hf : F.fn 75) (hro : F.round = none) (hn : 1 ≤ n) (l Ba Bb : Nat) (w0 : World) (A B : Option Addr) (c d : Nat) (xs ys : List UInt8) (hx : xs.length = 4080) (hy : ys.length = 4080)
    (hA : Rd w0 A xs) (hB : Rd w0 B ys) (J Jx : List Nat → World → Prop) (hJa : ∀ zs W n, J zs W → J zs (W.drewN n))
    (hY : ∀ pre x W, J pre W → x < 4080 → xs[x]? ≠ ys[x]? → pre = unl xs ys x → YieldAt F (n - 1) Try.prog l #[.int .i64 ((x : Nat) : Int)] W fun e W' =>
      (e = .returned (.bool true) ∧ J (pre ++ [x]) W' ∧ Kept w0.heap.size Ba Bb W W') ∨ (e = .returned (.bool false) ∧ Jx (pre ++ [x]) W'))
    (W : World) (h0W : Below w0.heap.size w0 W) (hBa : W.cell? ⟨Ba, 0, none⟩ = some (.slice A 4080 c)) (hBb : W.cell? ⟨Bb, 0, none⟩ = some (.slice B 4080 d)) (h0 : J [] W) :
    CallsIn F n Try.prog 75 #[.func (.yield l) #[] #[], .pointer (some ⟨Ba, 0, none⟩), .pointer (some ⟨Bb, 0, none⟩)] W fun e W' => (∃ v, e = .returned v) ∧
      ((∃ zs, zs = unl xs ys 4080 ∧ J zs W') ∨ (∃ pre, (∃ k, k ≤ 4080 ∧ pre = unl xs ys k) ∧ Jx pre W')) := by
  cases F
  dsimp only at hro
  subst hro
  obtain ⟨ga, oa, rfl⟩ := hA.addr (by omega)
  obtain ⟨gb, ob, rfl⟩ := hB.addr (by omega)
  have HX := Lib.hid hx
  have HY := Lib.hid hy
  have HA := Lib.hid hA
  have HB := Lib.hid hB
  have HW := Lib.hid h0W
  clear hx hy hA hB h0W
  refine callsIn_of_wp Try.func75 rfl hf ?_ rfl
  simp only [Try.ntmps75, List.size_toArray, List.length_cons, List.length_nil, Nat.reduceAdd, Nat.reduceSub, Array.replicate_succ, Array.replicate_zero, List.push_toArray, List.append_toArray, List.nil_append, List.cons_append]
  gi_wp2
  gi_loopw [7] (fun i wr => ∃ k : Nat, k ≤ 4080 ∧ i = .int .i64 k ∧ J (unl xs ys k) wr ∧ Kept w0.heap.size Ba Bb W wr)
    (fun i _ => 4080 - (intOf i).toNat)
  case atStart => exact ⟨0, Nat.zero_le _, rfl, h0, Kept.refl _ _ _ _⟩
  case round =>
    obtain ⟨k, hk, rfl, hJs, hnx⟩ := hrel
    by_cases hlt : k < 4080
    · have kA := (HA.out.below (HW.out.trans hnx.low)).at' k (u := xs[k]'(by have := HX.out; omega)) (List.getElem?_eq_getElem _)
      have kB := (HB.out.below (HW.out.trans hnx.low)).at' k (u := ys[k]'(by have := HY.out; omega)) (List.getElem?_eq_getElem _)
      have ca := (cell_block hnx.a 0).trans hBa
      have cb := (cell_block hnx.b 0).trans hBb
      have us := Lib.hid (unl_succ xs ys k)
      by_cases he : xs[k]'(by have := HX.out; omega) = ys[k]'(by have := HY.out; omega)
      · have hs : Hid (unl xs ys (k + 1) = unl xs ys k) := by
          show _ = _
          rw [us.out, if_pos (by rw [List.getElem?_eq_getElem (by have := HX.out; omega), List.getElem?_eq_getElem (by have := HY.out; omega), he])]
        rw [he] at kA
        clear he
        have hne : (((ys[k]'(by have := HY.out; omega)).toNat : Int) != ((ys[k]'(by have := HY.out; omega)).toNat : Int)) = false := by simp
        gi_wp2
        refine Go.wpIn_region_quiet_lit rfl (by kernel_rfl) (by kernel_rfl) ?_
        repeat (gi_big_quiet_step (fail))
        refine Go.BigFrame.wpQuietIn_skip (by intro w _ f hf; simp [Oper.about, Act.eval, go_sem, undef] at hf) rfl ?_
        simp only [Act.put, List.setIfInBounds_toArray, List.set_cons_succ, List.set_cons_zero]
        repeat (gi_big_quiet_step (fail))
        refine Go.wpQuietIn_nil ?_
        intro _ hw'
        obtain ⟨nq, rfl⟩ := hw'
        gi_wp2
        go_roundw
        case rel => exact ⟨k + 1, by omega, by go_num, by rw [hs.out]; exact hJa _ _ _ hJs, hnx.drewN _⟩
        case measure => simp [intOf]; omega
      · have hs : Hid (unl xs ys (k + 1) = unl xs ys k ++ [k]) := by
          show _ = _
          rw [us.out, if_neg (by rw [List.getElem?_eq_getElem (by have := HX.out; omega), List.getElem?_eq_getElem (by have := HY.out; omega)]; intro e; injection e with e; exact he e)]
        have hne : (((xs[k]'(by have := HX.out; omega)).toNat : Int) != ((ys[k]'(by have := HY.out; omega)).toNat : Int)) = true := by
          rw [bne_iff_ne]; intro e; exact he (UInt8.toNat_inj.1 (by omega))
        obtain ⟨fn, tmps, assign, body, hy, hR⟩ := hY _ k wr.drew (hJa _ _ 1 hJs) hlt (by rw [List.getElem?_eq_getElem (by have := HX.out; omega), List.getElem?_eq_getElem (by have := HY.out; omega)]; intro e; injection e with e; exact he e) rfl
        clear he
        gi_wp2
        have hR2 := hR.mono (R' := fun e W' => ∃ b : Bool, e = .returned (.bool b) ∧ Hid (b = true → J (unl xs ys k ++ [k]) W' ∧ Kept w0.heap.size Ba Bb wr.drew W') ∧ Hid (b = false → Jx (unl xs ys k ++ [k]) W')) (by
          rintro e W' (⟨rfl, h1, h2⟩ | ⟨rfl, h1⟩)
          · exact ⟨true, rfl, Lib.hid (fun _ => ⟨h1, h2⟩), Lib.hid (fun h => absurd h (by decide))⟩
          · exact ⟨false, rfl, Lib.hid (fun h => absurd h (by decide)), Lib.hid (fun _ => h1)⟩)
        clear hR
        gi_region_with (refine hR2.mono ?_; rintro e W3 ⟨b, rfl, hT, hF⟩)
        all_goals cases b
        all_goals first
          | (have hF2 := hF.out rfl
             clear hT hF
             gi_wp2
             refine bodyPost_ret (results_none rfl _ _ _) rfl ?_
             exact ⟨⟨_, rfl⟩, .inr ⟨_, ⟨k + 1, by omega, hs.out.symm⟩, hF2⟩⟩)
          | (have hT2 := hT.out rfl
             clear hT hF
             gi_wp2
             go_roundw
             case rel => exact ⟨k + 1, by omega, by go_num, by rw [hs.out]; exact hT2.1, (hnx.drewN 1).trans hT2.2⟩
             case measure => simp [intOf]; omega)
    · obtain rfl : k = 4080 := by omega
      gi_wp2
      go_end0
      exact ⟨⟨_, rfl⟩, .inl ⟨_, rfl, hJs⟩⟩
end Go.Proofs.Ytobnomlbkhkodaa.Y
