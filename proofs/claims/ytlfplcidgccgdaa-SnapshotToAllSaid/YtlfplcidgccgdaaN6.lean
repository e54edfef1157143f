/-
  package snapshot: New of one dead one; the chapter's example.
-/
import Derived.Test.YtlfplcidgccgdaaN5
set_option linter.unusedVariables false
set_option linter.unusedSimpArgs false
namespace Go.Proofs.Ytlfplcidgccgdaa.Y
open Go.RowKit Go.Maps
attribute [local go_sem ↓] Go.wp_at_zero Go.wp_at_succ

set_option maxHeartbeats 1600000 in
set_option maxRecDepth 100000 in
theorem tnew_one {w : World} (n d : Int) (h1 : 1 ≤ d) (h0 : d < n) (h2 : n ≤ 4611686018427387904) (A : Option Addr) (c : Nat) (hA : RdI w A [d]) : Calls Try.prog 15 #[.int .i64 n, .slice A 1 c] w fun e w' => ∃ g bo bc bd bg, e = .returned (.tuple #[.pointer (some ⟨g, 0, none⟩), .int .i64 0]) ∧ TableAt w' g bo bc bd bg (newS1 n d) ∧ (∀ k, FT g bo bc bd bg k → w.heap.size ≤ k) ∧ Below w.heap.size w w' := by
  have hmm := @run_makeMap Try.prog
  have e1 : decide (n < 1) = false := decide_eq_false (by omega)
  have e2 : decide ((4611686018427387904 : Int) < n) = false := decide_eq_false (by omega)
  have e3 : decide (d ≤ 0) = false := decide_eq_false (by omega)
  have e4 : decide (n ≤ d) = false := decide_eq_false (by omega)
  obtain ⟨w5, hw5⟩ : ∃ w5, w5 = ((((w.alloc (.map #[] 0)).alloc (.map #[] 0)).alloc (.map #[] 0)).alloc (.map #[] 0)).alloc (.cells #[.int .i64 0, .int .i64 n, .map (some w.heap.size), .map (some (w.heap.size + 1)), .map (some (w.heap.size + 1 + 1)), .map (some (w.heap.size + 1 + 1 + 1)), .int .i64 0] 102) := ⟨_, rfl⟩
  have hr := raw_new w n hw5
  have HR := Lib.hid hr
  obtain ⟨b, o, rfl, p0⟩ := (hA.below hr.2.2).at_ (j := 0) (by simp)
  have pd : w5.cell? ⟨b, o, none⟩ = some (.int .i64 d) := p0
  obtain ⟨wa, wb, ra, rb, mb, ta, tb⟩ := entry_new (w := w5) (b := w.heap.size + 2) hr.2.1 (k := d) (v := d) ⟨by omega, by omega⟩ ⟨by omega, by omega⟩
  have k4 : w5.cell? ⟨w.heap.size + 4, 4, none⟩ = some (.map (some (w.heap.size + 2))) := hr.1.obj.cell rfl
  have MB := Lib.hid mb
  have TB := Lib.hid tb
  have HW := Lib.hid hw5
  have H1 := Lib.hid (show 1 ≤ n by omega)
  have H2 := Lib.hid h2
  clear hw5 h1 h2 h0 hA p0 mb ta tb hr
  go_enter Try.func15, Try.ntmps15
  go_wp2_with fail
  rw [← HW.out]
  go_loopw [7, 30] (fun l i wr => ∃ k : Nat, k ≤ 1 ∧ i = .int .i64 k ∧ ((k = 0 ∧ l = .int .i64 0 ∧ wr = w5) ∨ (k = 1 ∧ l = .int .i64 d ∧ wr = wb))) (fun _ i _ => 1 - (intOf i).toNat)
  case atStart => exact ⟨0, by decide, rfl, .inl ⟨rfl, rfl, rfl⟩⟩
  case round =>
    obtain ⟨k, hk, rfl, hr⟩ := hrel
    rcases hr with ⟨rfl, rfl, rfl⟩ | ⟨rfl, rfl, rfl⟩
    · go_wp2_with fail
      go_roundw
      case rel => exact ⟨1, by decide, by go_num, Or.inr (by simp)⟩
      case measure => simp [intOf]
    · have RB : Hid (Raw wr w.heap.size n (updM (fun _ => none) d (some d)) 1) := by
        have h := HR.out.1
        have T := TB.out
        exact ⟨T.ob h.obj (by omega), h.mo.kept (T.block _ h.mo.lt (by omega)), h.mc.kept (T.block _ h.mc.lt (by omega)), MB.out, h.mg.kept (T.block _ h.mg.lt (by omega))⟩
      have BB : Hid (Below w.heap.size w wr) := HR.out.2.2.trans (TB.out.toBelow HR.out.2.2.size (fun j e => by omega))
      go_wp2_with fail
      refine (store_any RB.out.obj (j := 0) rfl n).mono ?_
      rintro e w' ⟨rfl, rfl⟩
      go_wp2_with fail
      go_ret2
      refine ⟨_, _, _, _, _, rfl, RB.out.table H1.out H2.out (by decide), fun k hk => ?_, BB.out.setCell (by simp) _⟩
      rcases hk with rfl | rfl | rfl | rfl | rfl <;> omega
def k0 : TS := newS1 5 2
def k1 : TS := begS k0
def k2 : TS := begS k1
def k3 : TS := comS k2 5
def k4 : TS := begS k3
set_option maxHeartbeats 3200000 in
set_option maxRecDepth 100000 in
theorem awake14 {w : World} : Calls Try.prog 25 #[] w fun e w' => e = .returned (.bool true) ∧ Below w.heap.size w w' := by
  have wf : ∀ n : Int, 0 ≤ n → n ≤ 10 → wf64 n := fun n h1 h2 => ⟨by omega, by omega⟩
  have WF := Lib.hid wf
  clear wf
  go_enter Try.func25, Try.ntmps25
  go_wp2_with fail
  refine (tnew_one 5 2 (by decide) (by decide) (by decide) _ 1 (RdI.lit rfl rfl _)).mono ?_
  rintro e w1 ⟨g, bo, bc, bd, bg, rfl, hh, hf, hb⟩
  have H1 : Hid (TableAt w1 g bo bc bd bg k0) := hh
  have HF : Hid (∀ k, FT g bo bc bd bg k → w.heap.size ≤ k) := fun k hk => Nat.le_trans (by simp) (hf k hk)
  have B1 := Lib.hid (bthen (balloc (Below.refl _ _) _) hb)
  clear hh hf hb
  go_wp2_with fail
  refine (begin_ok H1.out (by decide) (by decide)).mono ?_
  rintro e w2 ⟨rfl, hh, ht⟩
  rw [show k0.next = 5 from rfl]
  have H2 : Hid (TableAt w2 g bo bc bd bg k1) := hh
  have B2 := Lib.hid (B1.out.trans (ht.toBelow B1.out.size (fun j e => HF.out j (e.elim .inl (fun e => .inr (.inl e))))))
  clear hh ht
  go_wp2_with fail
  refine (begin_ok H2.out (by decide) (by decide)).mono ?_
  rintro e w3 ⟨rfl, hh, ht⟩
  rw [show k1.next = 6 from rfl]
  have H3 : Hid (TableAt w3 g bo bc bd bg k2) := hh
  have B3 := Lib.hid (B2.out.trans (ht.toBelow B2.out.size (fun j e => HF.out j (e.elim .inl (fun e => .inr (.inl e))))))
  clear hh ht
  go_wp2_with fail
  refine (conflict_any H3.out 6 5 (WF.out _ (by decide) (by decide)) (WF.out _ (by decide) (by decide))).mono ?_
  rintro e w3b ⟨rfl, q, hq⟩
  rw [show conT k2 6 5 = 7 from by decide +kernel]
  have H3b : Hid (TableAt w3b g bo bc bd bg k2) := by show TableAt _ _ _ _ _ _ _; rw [hq]; exact H3.out.drewN q
  have B3b : Hid (Below w.heap.size w w3b) := by show Below _ _ _; rw [hq]; exact bdrewN B3.out q
  clear hq
  go_wp2_with fail
  refine (commit_ok H3b.out 5 0 (WF.out _ (by decide) (by decide)) (by decide +kernel) (by decide)).mono ?_
  rintro e w4 ⟨rfl, hh, ht⟩
  have H4 : Hid (TableAt w4 g bo bc bd bg k3) := hh
  have B4 := Lib.hid (B3b.out.trans (ht.toBelow B3b.out.size (fun j e => HF.out j (e.elim .inl (fun e => e.elim (fun e => .inr (.inl e)) (fun e => .inr (.inr (.inl e))))))))
  clear hh ht
  go_wp2_with fail
  refine (begin_ok H4.out (by decide) (by decide)).mono ?_
  rintro e w5 ⟨rfl, hh, ht⟩
  rw [show k3.next = 7 from rfl]
  have H5 : Hid (TableAt w5 g bo bc bd bg k4) := hh
  have B5 := Lib.hid (B4.out.trans (ht.toBelow B4.out.size (fun j e => HF.out j (e.elim .inl (fun e => .inr (.inl e))))))
  clear hh ht
  go_wp2_with fail
  refine (conflict_any H5.out 6 5 (WF.out _ (by decide) (by decide)) (WF.out _ (by decide) (by decide))).mono ?_
  rintro e w6 ⟨rfl, q, hq⟩
  rw [show conT k4 6 5 = 8 from by decide +kernel]
  have H6 : Hid (TableAt w6 g bo bc bd bg k4) := by show TableAt _ _ _ _ _ _ _; rw [hq]; exact H5.out.drewN q
  have B6 : Hid (Below w.heap.size w w6) := by show Below _ _ _; rw [hq]; exact bdrewN B5.out q
  clear hq
  go_wp2_with fail
  refine (visible_any H6.out 7 5 (WF.out _ (by decide) (by decide)) (WF.out _ (by decide) (by decide))).mono ?_
  rintro e w7 ⟨rfl, q, hq⟩
  rw [show visB k4 7 5 = true from by decide +kernel]
  have H7 : Hid (TableAt w7 g bo bc bd bg k4) := by show TableAt _ _ _ _ _ _ _; rw [hq]; exact H6.out.drewN q
  have B7 : Hid (Below w.heap.size w w7) := by show Below _ _ _; rw [hq]; exact bdrewN B6.out q
  clear hq
  go_wp2_with fail
  refine (visible_any H7.out 6 5 (WF.out _ (by decide) (by decide)) (WF.out _ (by decide) (by decide))).mono ?_
  rintro e w8 ⟨rfl, q, hq⟩
  rw [show visB k4 6 5 = false from by decide +kernel]
  have H8 : Hid (TableAt w8 g bo bc bd bg k4) := by show TableAt _ _ _ _ _ _ _; rw [hq]; exact H7.out.drewN q
  have B8 : Hid (Below w.heap.size w w8) := by show Below _ _ _; rw [hq]; exact bdrewN B7.out q
  clear hq
  go_wp2_with fail
  refine (visible_any H8.out 6 1 (WF.out _ (by decide) (by decide)) (WF.out _ (by decide) (by decide))).mono ?_
  rintro e w9 ⟨rfl, q, hq⟩
  rw [show visB k4 6 1 = true from by decide +kernel]
  have H9 : Hid (TableAt w9 g bo bc bd bg k4) := by show TableAt _ _ _ _ _ _ _; rw [hq]; exact H8.out.drewN q
  have B9 : Hid (Below w.heap.size w w9) := by show Below _ _ _; rw [hq]; exact bdrewN B8.out q
  clear hq
  go_wp2_with fail
  refine (visible_any H9.out 6 2 (WF.out _ (by decide) (by decide)) (WF.out _ (by decide) (by decide))).mono ?_
  rintro e w10 ⟨rfl, q, hq⟩
  rw [show visB k4 6 2 = false from by decide +kernel]
  have H10 : Hid (TableAt w10 g bo bc bd bg k4) := by show TableAt _ _ _ _ _ _ _; rw [hq]; exact H9.out.drewN q
  have B10 : Hid (Below w.heap.size w w10) := by show Below _ _ _; rw [hq]; exact bdrewN B9.out q
  clear hq
  go_wp2_with fail
  go_ret
  exact ⟨rfl, B10.out⟩
end Go.Proofs.Ytlfplcidgccgdaa.Y
