/-
  package disk: Read's contracts; letters; awake.
-/
import Derived.Test.YtobnomlbkhkodaaDA
set_option linter.unusedVariables false
set_option linter.unusedSimpArgs false
namespace Go.Proofs.Ytobnomlbkhkodaa.Y
open Go.RowKit
attribute [local go_sem ↓] Go.wp_at_zero Go.wp_at_succ

section
variable {w : World} {B g gb : Nat} {ws : Value} {d : DS}
theorem read_any (h : DiskAt w B g gb ws d) (b : Nat) (hb : b < d.blocks.length) (hd : d.down = false) :
    Calls Try.prog 39 #[.pointer (some ⟨g, 0, none⟩), .int .i64 (b : Int)] w fun e w' => ∃ r, e = .returned (.tuple #[r, .int .i64 0]) ∧ Own w' w.heap.size r (readV d b) ∧ Below w.heap.size w w' :=
  (callsIn_wide (n := 6)).1 (read_in wide2_wide h b hb hd)
theorem boxes3 (w : World) (b : Int) : ∃ W0, W0 = ((w.alloc (.cells #[.int .i64 b] 3)).alloc (.cells #[.slice none 0 0] 23)).alloc (.cells #[.int .i64 0] 27) ∧ W0.heap.size = w.heap.size + 1 + 1 + 1 ∧ Bx W0 w.heap.size 3 (.int .i64 b) ∧ Bx W0 (w.heap.size + 1) 23 (.slice none 0 0) ∧ Bx W0 (w.heap.size + 1 + 1) 27 (.int .i64 0) ∧ Below w.heap.size w W0 :=
  ⟨_, rfl, by simp, ((Bx.newAt _ _ (by simp)).alloc _).alloc _, (Bx.newAt _ _ (by simp)).alloc _, Bx.newAt _ _ (by simp), balloc (balloc (balloc (Below.refl _ _) _) _) _⟩
theorem read_end {W0 : World} {k j : Nat} {e : Int} (h4 : Bx W0 k 23 (.slice none 0 0)) (h5 : Bx W0 j 27 (.int .i64 0)) (hne : k ≠ j) :
    ((W0.setCell ⟨k, 0, none⟩ (.slice none 0 0)).setCell ⟨j, 0, none⟩ (.int .i64 e)).cell? ⟨k, 0, none⟩ = some (.slice none 0 0) ∧ ((W0.setCell ⟨k, 0, none⟩ (.slice none 0 0)).setCell ⟨j, 0, none⟩ (.int .i64 e)).cell? ⟨j, 0, none⟩ = some (.int .i64 e) :=
  ⟨(((h4.store _).1).other hne _).cell, (((h5.other hne.symm _).store _).1).cell⟩
theorem read_bad (h : DiskAt w B g gb ws d) (b : Int) (hb : ¬ (0 ≤ b ∧ b < d.blocks.length)) :
    Calls Try.prog 39 #[.pointer (some ⟨g, 0, none⟩), .int .i64 b] w fun e w' => e = .returned (.tuple #[.slice none 0 0, .int .i64 2]) ∧ Below w.heap.size w w' := by
  obtain ⟨W0, hW0, hsz, b3, b4, b5, hbw⟩ := boxes3 w b
  have H0 := Lib.hid (h.below hbw)
  have HW0 := Lib.hid hW0
  have BW := Lib.hid hbw
  have hw : Hid (wrongE d b = 2) := by show _ = _; unfold wrongE; rw [if_neg hb]
  have c3 := b3.cell
  have c4 := b4.cell
  have f4 := b4.frozen
  have c5 := b5.cell
  have f5 := b5.frozen
  clear h hb hW0 hbw
  go_enter Try.func39, Try.ntmps39
  go_wp2_with fail
  rw [← HW0.out]
  refine (wrong_any H0.out b).mono ?_
  rintro e w' ⟨rfl, rfl⟩
  rw [hw.out]
  go_wp2_with fail
  obtain ⟨r1, r2⟩ := read_end (e := 2) b4 b5 (by omega)
  refine bodyPost_ret (results_cells2 rfl rfl rfl (load_slice _ _ _ _ _ r1) (load_errno _ _ _ r2)) rfl ?_
  exact ⟨rfl, (BW.out.setCell (by simp) _).setCell (by simp; omega) _⟩
theorem read_down (h : DiskAt w B g gb ws d) (b : Nat) (hb : b < d.blocks.length) (hd : d.down = true) :
    Calls Try.prog 39 #[.pointer (some ⟨g, 0, none⟩), .int .i64 (b : Int)] w fun e w' => e = .returned (.tuple #[.slice none 0 0, .int .i64 6]) ∧ Below w.heap.size w w' := by
  obtain ⟨W0, hW0, hsz, b3, b4, b5, hbw⟩ := boxes3 w b
  have H0 := Lib.hid (h.below hbw)
  have HW0 := Lib.hid hW0
  have BW := Lib.hid hbw
  have hw : Hid (wrongE d b = 0) := by show _ = _; unfold wrongE; rw [if_pos (by omega)]
  have c3 := b3.cell
  have c4 := b4.cell
  have f4 := b4.frozen
  have c5 := b5.cell
  have f5 := b5.frozen
  have k2 := H0.out.c2
  rw [hd] at k2
  clear h hb hW0 hbw
  go_enter Try.func39, Try.ntmps39
  go_wp2_with fail
  rw [← HW0.out]
  refine (wrong_any H0.out b).mono ?_
  rintro e w' ⟨rfl, rfl⟩
  rw [hw.out]
  go_wp2_with fail
  obtain ⟨r1, r2⟩ := read_end (e := 6) b4 b5 (by omega)
  refine bodyPost_ret (results_cells2 rfl rfl rfl (load_slice _ _ _ _ _ r1) (load_errno _ _ _ r2)) rfl ?_
  exact ⟨rfl, (BW.out.setCell (by simp) _).setCell (by simp; omega) _⟩
end
def lettersL (c : UInt8) (k : Nat) : List UInt8 := List.replicate k c ++ zeros (4096 - k)
theorem lettersL_set (c : UInt8) {k : Nat} (h : k < 4096) : (lettersL c k).set k c = lettersL c (k + 1) := by
  unfold lettersL
  rw [List.set_append_right _ _ (by simp), List.length_replicate, Nat.sub_self, show 4096 - k = (4096 - (k + 1)) + 1 from by omega]
  rw [List.replicate_succ' (n := k), List.append_assoc]
  rfl
theorem lettersL_len (c : UInt8) {k : Nat} (h : k ≤ 4096) : (lettersL c k).length = 4096 := by
  unfold lettersL
  simp
  omega
set_option maxRecDepth 100000 in
theorem letters_any {w : World} (c : UInt8) : Calls Try.prog 46 #[.int .u8 (c.toNat : Int)] w fun e w' => ∃ v, e = .returned v ∧ v ≠ .slice none 0 0 ∧ Own w' w.heap.size v (List.replicate 4096 c) ∧ Below w.heap.size w w' := by
  have hmk := make_lit 4096 4096 rfl (by decide)
  go_enter Try.func46, Try.ntmps46
  go_wp2
  go_loopw [4] (fun i wr => ∃ k : Nat, k ≤ 4096 ∧ i = .int .i64 k ∧ Hid (Own wr w.heap.size (.slice (some ⟨w.heap.size, 0, none⟩) 4096 4096) (lettersL c k)) ∧ Hid (Below w.heap.size w wr)) (fun i _ => 4096 - (intOf i).toNat)
  case atStart =>
    have ho := Blk.own (Blk.new w (zeros 4096)) (B := w.heap.size) (Nat.le_refl _) (n := 4096) (by simp) (by simp; decide)
    rw [zeros_length, List.take_of_length_le (by simp)] at ho
    exact ⟨0, by omega, rfl, ho, balloc (Below.refl _ _) _⟩
  case round =>
    obtain ⟨k, hk, rfl, ho, hb⟩ := hrel
    by_cases hlt : k < 4096
    · have hc := ho.out.cellAt (j := k) (by rw [lettersL_len c hk]; exact hlt)
      have hf := ho.out.frozenAt k
      have z0 : (0 : Int) ≤ (k : Int) := by omega
      have z1 : (k : Int) < 4096 := by omega
      generalize (lettersL c k)[k]'_ = old at hc
      go_wp2
      go_roundw
      case rel =>
        refine ⟨k + 1, by omega, by go_num, ?_, hb.out.setCell (by simp) _⟩
        have := ho.out.stored k c
        rw [lettersL_set c hlt] at this
        exact this
      case measure => simp [intOf]; omega
    · obtain rfl : k = 4096 := by omega
      go_wp2
      go_ret
      have ho2 := ho.out
      unfold lettersL at ho2
      rw [Nat.sub_self] at ho2
      simp only [zeros, List.replicate_zero, List.append_nil] at ho2
      exact ⟨_, rfl, by simp, ho2, hb.out⟩
def aD1 (la : List UInt8) : DS := addW (stopD (newD 2)) 0 la
def aD2 (la : List UInt8) : DS := syncD (stopD (aD1 la))
def aD3 (la lb : List UInt8) : DS := addW (stopD (aD2 la)) 0 lb
def aD4 (la lb : List UInt8) : DS := crashD (aD3 la lb) [] 0 3
theorem aD_read (la lb : List UInt8) : readV (aD4 la lb) 0 = tornL la lb 3 := rfl
theorem torn2 {la lb : List UInt8} (hb : lb.length = 4096) : (tornL la lb 3)[2]? = lb[2]? := by
  unfold tornL
  rw [List.getElem?_append_left (by rw [List.length_take]; omega), List.getElem?_take_of_lt (by decide)]
theorem torn3 {la lb : List UInt8} (hb : lb.length = 4096) : (tornL la lb 3)[3]? = la[3]? := by
  unfold tornL
  have : (lb.take 3).length = 3 := by rw [List.length_take]; omega
  rw [List.getElem?_append_right (by omega), List.getElem?_drop, this]
set_option maxHeartbeats 3200000 in
set_option maxRecDepth 100000 in
/-- awake: true. -/
theorem awake03 {w : World} : Calls Try.prog 41 #[] w fun e w' => e = .returned (.bool true) ∧ Below w.heap.size w w' := by
  obtain ⟨la, hla⟩ : ∃ la : List UInt8, la = List.replicate 4096 97 := ⟨_, rfl⟩
  obtain ⟨lb, hlb⟩ : ∃ lb : List UInt8, lb = List.replicate 4096 98 := ⟨_, rfl⟩
  have ha : Hid (la.length = 4096) := by show _ = _; rw [hla, List.length_replicate]
  have hb : Hid (lb.length = 4096) := by show _ = _; rw [hlb, List.length_replicate]
  have HLA := Lib.hid hla
  have HLB := Lib.hid hlb
  clear hla hlb
  go_enter Try.func41, Try.ntmps41
  go_wp2_with fail
  refine (new_any 2 (by omega) (by omega)).mono ?_
  rintro e w1 ⟨g, gb, rfl, h1, hb1⟩
  have H1 := Lib.hid h1
  have B1 := Lib.hid hb1
  clear h1 hb1
  go_wp2_with fail
  refine (letters_any (w := w1) 97).mono ?_
  rintro e w2 ⟨v, rfl, hn, ho, hb2⟩
  obtain ⟨gA, cA, rfl, hgA, _, _, _⟩ := ho.formN (n := 4096) List.length_replicate (by decide)
  rw [← HLA.out] at ho
  have H2 := Lib.hid (H1.out.below hb2)
  have O2 := Lib.hid ho
  have B2 := Lib.hid (bthen B1.out hb2)
  clear hn ho hb2
  go_wp2_with fail
  refine (write_ok H2.out B2.out.size 0 ha.out cA O2.out.rd.1 (by simp) (fun w' ht => (ht.own O2.out (own_g H2.out O2.out)).rd.1) (by decide) rfl (by decide)).mono ?_
  rintro e w3 ⟨ws3, rfl, h3, t3, _⟩
  have H3 : Hid (DiskAt w3 w.heap.size g gb ws3 (aD1 la)) := h3
  have B3 := Lib.hid (B2.out.trans (t3.toBelow B2.out.size (foot_base H2.out)))
  clear h3 t3
  go_wp2_with fail
  refine (sync_ok H3.out rfl).mono ?_
  rintro e w4 ⟨rfl, h4, t4⟩
  have H4 : Hid (DiskAt w4 w.heap.size g gb (.slice none 0 0) (aD2 la)) := h4
  have B4 := Lib.hid (B3.out.trans (t4.toBelow B3.out.size (foot_base H3.out)))
  clear h4 t4
  go_wp2_with fail
  refine (letters_any (w := w4) 98).mono ?_
  rintro e w5 ⟨v, rfl, hn, ho, hb5⟩
  obtain ⟨gB, cB, rfl, hgB, _, _, _⟩ := ho.formN (n := 4096) List.length_replicate (by decide)
  rw [← HLB.out] at ho
  have H5 := Lib.hid (H4.out.below hb5)
  have O5 := Lib.hid ho
  have B5 := Lib.hid (bthen B4.out hb5)
  clear hn ho hb5
  go_wp2_with fail
  refine (write_ok H5.out B5.out.size 0 hb.out cB O5.out.rd.1 (by simp) (fun w' ht => (ht.own O5.out (own_g H5.out O5.out)).rd.1) (show 0 < 2 by decide) rfl (show 0 < 1000000 by decide)).mono ?_
  rintro e w6 ⟨ws6, rfl, h6, t6, _⟩
  have H6 : Hid (DiskAt w6 w.heap.size g gb ws6 (aD3 la lb)) := h6
  have B6 := Lib.hid (B5.out.trans (t6.toBelow B5.out.size (foot_base H5.out)))
  clear h6 t6
  go_wp2_with fail
  refine (crash_ok H6.out B6.out.size (keep := []) rfl 0 0 (ct := 3) (by omega) (fun _ _ => .inl rfl)).mono ?_
  rintro e w7 ⟨rfl, h7, t7⟩
  have H7 : Hid (DiskAt w7 w.heap.size g gb (.slice none 0 0) (aD4 la lb)) := h7
  have B7 := Lib.hid (B6.out.trans (t7.toBelow B6.out.size (foot_base H6.out)))
  clear h7 t7
  go_wp2_with fail
  refine (read_any H7.out 0 (show 0 < 2 by decide) rfl).mono ?_
  rintro e w8 ⟨r, rfl, ho, hb8⟩
  rw [aD_read] at ho
  have hlen : (tornL la lb 3).length = 4096 := tornL_length ha.out hb.out (by decide)
  obtain ⟨gR, cR, rfl, hgR, _, _, _⟩ := ho.formN hlen (by decide)
  have r2 := ho.cellAt (j := 2) (by rw [hlen]; decide)
  have r3 := ho.cellAt (j := 3) (by rw [hlen]; decide)
  have e2 : (tornL la lb 3)[2]'(by rw [hlen]; decide) = 98 := by
    have hq : lb[2]? = some 98 := by rw [HLB.out, List.getElem?_replicate, if_pos (by decide)]
    have := (torn2 (la := la) hb.out).trans hq
    rw [List.getElem?_eq_getElem (by rw [hlen]; decide)] at this
    injection this
  have e3 : (tornL la lb 3)[3]'(by rw [hlen]; decide) = 97 := by
    have hq : la[3]? = some 97 := by rw [HLA.out, List.getElem?_replicate, if_pos (by decide)]
    have := (torn3 (la := la) hb.out).trans hq
    rw [List.getElem?_eq_getElem (by rw [hlen]; decide)] at this
    injection this
  rw [e2] at r2
  rw [e3] at r3
  have H8 := Lib.hid (H7.out.below hb8)
  have B8 := Lib.hid (bthen B7.out hb8)
  clear ho hb8 hlen e2 e3
  go_wp2_with fail
  refine (pending_any H8.out).mono ?_
  rintro e w' ⟨rfl, rfl⟩
  go_wp2_with fail
  go_ret
  exact ⟨rfl, B8.out⟩
end Go.Proofs.Ytobnomlbkhkodaa.Y
