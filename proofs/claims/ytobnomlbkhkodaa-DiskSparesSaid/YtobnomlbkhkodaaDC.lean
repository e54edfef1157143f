/-
  DiskNumbers' walk.
-/
import Derived.Test.YtobnomlbkhkodaaDB
set_option linter.unusedVariables false
set_option linter.unusedSimpArgs false
namespace Go.Proofs.Ytobnomlbkhkodaa.Y
open Go.RowKit
attribute [local go_sem ↓] Go.wp_at_zero Go.wp_at_succ

theorem rdT_lit {w : World} {B g gb : Nat} {ws : Value} {d : DS} (h : DiskAt w B g gb ws d) (t : TypeId) : ∀ w', Tch (Foot g gb ws) (w.alloc (.cells #[.bool true] t)) w' → RdT w' (some ⟨w.heap.size, 0, none⟩) [true] := fun w' ht => by
  have hb := ht.block w.heap.size (by simp) (fun q => absurd (foot_lt h _ q) (Nat.lt_irrefl _))
  refine .inr ⟨w.heap.size, 0, rfl, fun j u hu => ?_⟩
  match j, hu with
  | 0, hu =>
    injection hu with hu
    subst hu
    have := (cell_block hb 0).trans (show (w.alloc (.cells #[.bool true] t)).cell? ⟨w.heap.size, 0, none⟩ = some (.bool true) by rw [cell_of_row _ _ 0 _ _ _ (heap_alloc_new w _)]; rfl)
    exact this
  | (k + 1), hu => simp at hu
theorem own_touch {w w' : World} {B B' g gb : Nat} {ws v : Value} {d : DS} {xs : List UInt8} (h : DiskAt w B g gb ws d) (ht : Tch (Foot g gb ws) w w') (ho : Own w B' v xs) : Own w' B' v xs := ht.own ho (own_foot h ho)
theorem DiskAt.base {w : World} {B B' g gb : Nat} {ws : Value} {d : DS} (h : DiskAt w B g gb ws d) (hB : B' ≤ B) : DiskAt w B' g gb ws d := by
  refine ⟨h.obj, ?_, ?_, Nat.le_trans hB h.bg, Nat.le_trans hB h.bgb, h.pos, h.many, h.few, h.arm0, h.fail0⟩
  · obtain ⟨vals, h1, h2, h3⟩ := h.row
    exact ⟨vals, h1, h2, fun i v xs hv hx => (h3 i v xs hv hx).imp id (fun q => ⟨q.1, q.2.1.mono hB, q.2.2⟩)⟩
  · obtain ⟨qs, h1, h2, h3⟩ := h.wr
    refine ⟨qs, h1, ⟨h2.1, h2.2.imp id (fun ⟨g9, cap9, cur9, e9, hb9, r9⟩ => ⟨g9, cap9, cur9, e9, Nat.le_trans hB hb9, r9⟩)⟩, fun i q p hq hp => ?_⟩
    obtain ⟨e1, e2, e3, e4⟩ := h3 i q p hq hp
    exact ⟨e1, e2, e3.mono hB, e4⟩
theorem tch_foot {w w' : World} {g gb : Nat} {ws : Value} (h : Tch (fun k => k = g) w w') : Tch (Foot g gb ws) w w' := h.mono (fun k _ e => .inl e)
def nD1 (_ : List UInt8) : DS := newD 2
def nD2 (la : List UInt8) : DS := addW (stopD (nD1 la)) 0 la
def nD3 (la : List UInt8) : DS := crashD (nD2 la) [] (-1) 0
def nD4 (la : List UInt8) : DS := armD (nD3 la) 1
def nD5 (la : List UInt8) : DS := addW (stopD (nD4 la)) 0 la
def nD6 (la : List UInt8) : DS := stopD (nD5 la)
def nD7 (la : List UInt8) : DS := stopD (nD6 la)
def nD8 (la : List UInt8) : DS := crashD (nD7 la) [true] 9 0
def nD9 (la : List UInt8) : DS := failD (nD8 la) 0 4
def nD10 (la : List UInt8) : DS := stopD (nD9 la)
def nD11 (la : List UInt8) : DS := syncD (stopD (nD10 la))
def nD12 (la : List UInt8) : DS := failD (nD11 la) 1 5
def nD13 (la : List UInt8) : DS := addW (stopD (nD12 la)) 1 la
def nD14 (la : List UInt8) : DS := stopD (nD13 la)
def nD15 (la : List UInt8) : DS := armD (nD14 la) 0
def nD16 (la : List UInt8) : DS := failD (nD15 la) 0 4
def nD17 (la : List UInt8) : DS := stopD (nD16 la)
def nD18 (la : List UInt8) : DS := crashD (nD17 la) [] (0) 0
def nD19 (la : List UInt8) : DS := syncD (stopD (nD18 la))
def nD20 (la : List UInt8) : DS := armD (nD19 la) 9223372036854775807
def nD21 (la : List UInt8) : DS := syncD (stopD (nD20 la))
set_option maxHeartbeats 12800000 in
set_option maxRecDepth 100000 in
theorem diskNumbers_walk (w : World) : Calls Try.prog 11 #[] w fun e w' => e = .returned (.bool true) ∧ Below w.heap.size w w' := by
  obtain ⟨la, hla⟩ : ∃ la : List UInt8, la = List.replicate 4096 97 := ⟨_, rfl⟩
  have ha : Hid (la.length = 4096) := by show _ = _; rw [hla, List.length_replicate]
  have HLA := Lib.hid hla
  clear hla
  go_enter Try.func11, Try.ntmps11
  go_wp2_with fail
  obtain ⟨w0, hw0⟩ : ∃ w0, w0 = w.alloc (.cells #[.int .i64 0, .int .i64 (-1), .int .i64 4097, .int .i64 9223372036854775807] 3) := ⟨_, rfl⟩
  have B0 : Hid (Below w.heap.size w w0) := by show Below _ _ _; rw [hw0]; exact balloc (Below.refl _ _) _
  have i0 : w0.cell? ⟨w.heap.size, 0, none⟩ = some (.int .i64 0) := by rw [hw0, cell_of_row _ _ 0 _ _ _ (heap_alloc_new w _)]; rfl
  have i1 : w0.cell? ⟨w.heap.size, 1, none⟩ = some (.int .i64 (-1)) := by rw [hw0, cell_of_row _ _ 1 _ _ _ (heap_alloc_new w _)]; rfl
  have i2 : w0.cell? ⟨w.heap.size, 2, none⟩ = some (.int .i64 4097) := by rw [hw0, cell_of_row _ _ 2 _ _ _ (heap_alloc_new w _)]; rfl
  have i3 : w0.cell? ⟨w.heap.size, 3, none⟩ = some (.int .i64 9223372036854775807) := by rw [hw0, cell_of_row _ _ 3 _ _ _ (heap_alloc_new w _)]; rfl
  rw [← hw0]
  clear hw0
  go_loopw [25] (fun i wr => ∃ k : Nat, k ≤ 4 ∧ i = .int .i64 k ∧ wr = w0) (fun i _ => 4 - (intOf i).toNat)
  case atStart => exact ⟨0, by omega, rfl, rfl⟩
  case round =>
    obtain ⟨k, hk, rfl, rfl⟩ := hrel
    by_cases hlt : k < 4
    · rcases (show k = 0 ∨ k = 1 ∨ k = 2 ∨ k = 3 by omega) with rfl | rfl | rfl | rfl
      · go_wp2_with fail
        refine (new_bad 0 (by omega)).mono ?_
        rintro e w' ⟨rfl, rfl⟩
        go_wp2_with fail
        go_roundw
        case rel => exact ⟨1, by omega, by go_num, by first | trivial | rfl⟩
        case measure => simp [intOf]
      · go_wp2_with fail
        refine (new_bad (-1) (by omega)).mono ?_
        rintro e w' ⟨rfl, rfl⟩
        go_wp2_with fail
        go_roundw
        case rel => exact ⟨2, by omega, by go_num, by first | trivial | rfl⟩
        case measure => simp [intOf]
      · go_wp2_with fail
        refine (new_bad 4097 (by omega)).mono ?_
        rintro e w' ⟨rfl, rfl⟩
        go_wp2_with fail
        go_roundw
        case rel => exact ⟨3, by omega, by go_num, by first | trivial | rfl⟩
        case measure => simp [intOf]
      · go_wp2_with fail
        refine (new_bad 9223372036854775807 (by omega)).mono ?_
        rintro e w' ⟨rfl, rfl⟩
        go_wp2_with fail
        go_roundw
        case rel => exact ⟨4, by omega, by go_num, by first | trivial | rfl⟩
        case measure => simp [intOf]
    · obtain rfl : k = 4 := by omega
      go_wp2_with fail
      refine (new_any 2 (by omega) (by omega)).mono ?_
      rintro e w1 ⟨g, gb, rfl, hh, hb⟩
      have B1 := Lib.hid (bthen B0.out hb)
      have H1 : Hid (DiskAt w1 w.heap.size g gb (.slice none 0 0) (nD1 la)) := hh.base B0.out.size
      clear hh hb
      go_wp2_with fail
      refine (blocks_any H1.out).mono ?_
      rintro e w' ⟨rfl, rfl⟩
      rw [show (nD1 la).blocks.length = 2 from by rfl]
      go_wp2_with fail
      refine (letters_any (w := w1) 97).mono ?_
      rintro e w2 ⟨v, rfl, hn, ho, hb⟩
      obtain ⟨gA, cA, rfl, hgA, _, hcA, _⟩ := ho.formN (n := 4096) List.length_replicate (by decide)
      rw [← HLA.out] at ho
      have A2 := Lib.hid ho
      have qA : (4095 : Int) ≤ (cA : Int) := by omega
      clear ho hn
      have H2 := Lib.hid (H1.out.below hb)
      have B2 := Lib.hid (bthen B1.out hb)
      clear hb
      go_wp2_with fail
      refine (write_ok H2.out B2.out.size 0 ha.out cA A2.out.rd.1 (by simp) (fun w' ht => (ht.own A2.out (own_g H2.out A2.out)).rd.1) (show 0 < 2 by decide) (by rfl) (show 0 < 1000000 by decide)).mono ?_
      rintro e w3 ⟨ws3, rfl, hh, tt, _⟩
      have H3 : Hid (DiskAt w3 w.heap.size g gb (ws3) (nD2 la)) := hh
      have B3 := Lib.hid (B2.out.trans (tt.toBelow B2.out.size (foot_base H2.out)))
      have A3 := Lib.hid (own_touch H2.out tt A2.out)
      clear hh tt
      go_wp2_with fail
      refine (durable_any H3.out 0 (xs := zeros 4096) (by rfl)).mono ?_
      rintro e w4 ⟨r, rfl, ho, hb⟩
      obtain ⟨gR4, cR4, rfl, _, _, _, _⟩ := ho.formN (n := 4096) (zeros_length _) (by decide)
      have r4 := ho.cellAt (j := 0) (by rw [(zeros_length _)]; decide)
      rw [show (zeros 4096)[0]'(by rw [zeros_length]; decide) = 0 from List.getElem_replicate ..] at r4
      clear ho
      have H4 := Lib.hid (H3.out.below hb)
      have B4 := Lib.hid (bthen B3.out hb)
      have A4 := Lib.hid (A3.out.below hb)
      clear hb
      go_wp2_with fail
      refine (pending_any H4.out).mono ?_
      rintro e w' ⟨rfl, rfl⟩
      rw [show ((nD2 la)).writes.length = 1 from by rfl]
      go_wp2_with fail
      refine (crash_ok H4.out B4.out.size (keep := []) rfl 0 (-1) (ct := 0) (by omega) (fun _ _ => .inl rfl)).mono ?_
      rintro e w5 ⟨rfl, hh, tt⟩
      have H5 : Hid (DiskAt w5 w.heap.size g gb (.slice none 0 0) (nD3 la)) := hh
      have B5 := Lib.hid (B4.out.trans (tt.toBelow B4.out.size (foot_base H4.out)))
      have A5 := Lib.hid (own_touch H4.out tt A4.out)
      clear hh tt
      go_wp2_with fail
      refine (read_any H5.out 0 (show 0 < 2 by decide) (by rfl)).mono ?_
      rintro e w6 ⟨r, rfl, ho, hb⟩
      rw [show readV (nD3 la) 0 = zeros 4096 from by rfl] at ho
      obtain ⟨gR6, cR6, rfl, _, _, _, _⟩ := ho.formN (n := 4096) (zeros_length _) (by decide)
      have r6 := ho.cellAt (j := 0) (by rw [(zeros_length _)]; decide)
      rw [show (zeros 4096)[0]'(by rw [zeros_length]; decide) = 0 from List.getElem_replicate ..] at r6
      clear ho
      have H6 := Lib.hid (H5.out.below hb)
      have B6 := Lib.hid (bthen B5.out hb)
      have A6 := Lib.hid (A5.out.below hb)
      clear hb
      go_wp2_with fail
      refine (arm_ok H6.out 1 (by omega)).mono ?_
      rintro e w7 ⟨rfl, hh, tt⟩
      replace tt := tch_foot (gb := gb) (ws := .slice none 0 0) tt
      have H7 : Hid (DiskAt w7 w.heap.size g gb (.slice none 0 0) (nD4 la)) := hh
      have B7 := Lib.hid (B6.out.trans (tt.toBelow B6.out.size (foot_base H6.out)))
      have A7 := Lib.hid (own_touch H6.out tt A6.out)
      clear hh tt
      go_wp2_with fail
      refine (write_ok H7.out B7.out.size 0 ha.out cA A7.out.rd.1 (by simp) (fun w' ht => (ht.own A7.out (own_g H7.out A7.out)).rd.1) (show 0 < 2 by decide) (by rfl) (show 0 < 1000000 by decide)).mono ?_
      rintro e w8 ⟨ws8, rfl, hh, tt, _⟩
      have H8 : Hid (DiskAt w8 w.heap.size g gb (ws8) (nD5 la)) := hh
      have B8 := Lib.hid (B7.out.trans (tt.toBelow B7.out.size (foot_base H7.out)))
      have A8 := Lib.hid (own_touch H7.out tt A7.out)
      clear hh tt
      go_wp2_with fail
      refine (sync_stop H8.out (show (6 : Int) ≠ 0 by decide)).mono ?_
      rintro e w9 ⟨rfl, hh, tt⟩
      rw [show stopE (nD5 la) = 6 from by rfl]
      replace tt := tch_foot (gb := gb) (ws := ws8) tt
      have H9 : Hid (DiskAt w9 w.heap.size g gb (ws8) (nD6 la)) := hh
      have B9 := Lib.hid (B8.out.trans (tt.toBelow B8.out.size (foot_base H8.out)))
      have A9 := Lib.hid (own_touch H8.out tt A8.out)
      clear hh tt
      go_wp2_with fail
      refine (read_down H9.out 0 (show 0 < 2 by decide) (by rfl)).mono ?_
      rintro e w10 ⟨rfl, hb⟩
      have H10 := Lib.hid (H9.out.below hb)
      have B10 := Lib.hid (bthen B9.out hb)
      have A10 := Lib.hid (A9.out.below hb)
      clear hb
      go_wp2_with fail
      refine (durable_any H10.out 0 (xs := zeros 4096) (by rfl)).mono ?_
      rintro e w11 ⟨r, rfl, ho, hb⟩
      obtain ⟨gR11, cR11, rfl, _, _, _, _⟩ := ho.formN (n := 4096) (zeros_length _) (by decide)
      have r11 := ho.cellAt (j := 0) (by rw [(zeros_length _)]; decide)
      rw [show (zeros 4096)[0]'(by rw [zeros_length]; decide) = 0 from List.getElem_replicate ..] at r11
      clear ho
      have H11 := Lib.hid (H10.out.below hb)
      have B11 := Lib.hid (bthen B10.out hb)
      have A11 := Lib.hid (A10.out.below hb)
      clear hb
      go_wp2_with fail
      refine (write_stop H11.out 0 cA (show 0 < 2 by decide) (show (6 : Int) ≠ 0 by decide)).mono ?_
      rintro e w12 ⟨rfl, hh, tt⟩
      rw [show stopE (nD6 la) = 6 from by rfl]
      replace tt := tch_foot (gb := gb) (ws := ws8) tt
      have H12 : Hid (DiskAt w12 w.heap.size g gb (ws8) (nD7 la)) := hh
      have B12 := Lib.hid (B11.out.trans (tt.toBelow B11.out.size (foot_base H11.out)))
      have A12 := Lib.hid (own_touch H11.out tt A11.out)
      clear hh tt
      go_wp2_with fail
      have hl13 := Lib.hid (rdT_lit H12.out 4)
      have hb : Below w12.heap.size w12 (w12.alloc (.cells #[.bool true] 4)) := balloc (Below.refl _ _) _
      have H13 := Lib.hid (H12.out.below hb)
      have B13 := Lib.hid (bthen B12.out hb)
      have A13 := Lib.hid (A12.out.below hb)
      clear hb
      refine (crash_ok H13.out B13.out.size (keep := [true]) rfl 1 (9) (ct := 0) (by omega) hl13.out).mono ?_
      rintro e w14 ⟨rfl, hh, tt⟩
      have H14 : Hid (DiskAt w14 w.heap.size g gb (.slice none 0 0) (nD8 la)) := hh
      have B14 := Lib.hid (B13.out.trans (tt.toBelow B13.out.size (foot_base H13.out)))
      have A14 := Lib.hid (own_touch H13.out tt A13.out)
      clear hh tt
      go_wp2_with fail
      refine (read_any H14.out 0 (show 0 < 2 by decide) (by rfl)).mono ?_
      rintro e w15 ⟨r, rfl, ho, hb⟩
      rw [show readV (nD8 la) 0 = la from by rfl] at ho
      obtain ⟨gR15, cR15, rfl, _, _, _, _⟩ := ho.formN (n := 4096) ha.out (by decide)
      have r15 := ho.cellAt (j := 4095) (by rw [ha.out]; decide)
      have hq2 : la[4095]? = some 97 := by rw [HLA.out, List.getElem?_replicate, if_pos (by decide)]
      rw [List.getElem?_eq_getElem (by rw [ha.out]; decide)] at hq2
      injection hq2 with hq2
      rw [hq2] at r15
      clear hq2
      clear ho
      have H15 := Lib.hid (H14.out.below hb)
      have B15 := Lib.hid (bthen B14.out hb)
      have A15 := Lib.hid (A14.out.below hb)
      clear hb
      go_wp2_with fail
      refine (fail_ok H15.out 0 4 (by omega) (by omega)).mono ?_
      rintro e w16 ⟨rfl, hh, tt⟩
      replace tt := tch_foot (gb := gb) (ws := .slice none 0 0) tt
      have H16 : Hid (DiskAt w16 w.heap.size g gb (.slice none 0 0) (nD9 la)) := hh
      have B16 := Lib.hid (B15.out.trans (tt.toBelow B15.out.size (foot_base H15.out)))
      have A16 := Lib.hid (own_touch H15.out tt A15.out)
      clear hh tt
      go_wp2_with fail
      refine (sync_stop H16.out (show (4 : Int) ≠ 0 by decide)).mono ?_
      rintro e w17 ⟨rfl, hh, tt⟩
      rw [show stopE (nD9 la) = 4 from by rfl]
      replace tt := tch_foot (gb := gb) (ws := .slice none 0 0) tt
      have H17 : Hid (DiskAt w17 w.heap.size g gb (.slice none 0 0) (nD10 la)) := hh
      have B17 := Lib.hid (B16.out.trans (tt.toBelow B16.out.size (foot_base H16.out)))
      have A17 := Lib.hid (own_touch H16.out tt A16.out)
      clear hh tt
      go_wp2_with fail
      refine (sync_ok H17.out (by rfl)).mono ?_
      rintro e w18 ⟨rfl, hh, tt⟩
      have H18 : Hid (DiskAt w18 w.heap.size g gb (.slice none 0 0) (nD11 la)) := hh
      have B18 := Lib.hid (B17.out.trans (tt.toBelow B17.out.size (foot_base H17.out)))
      have A18 := Lib.hid (own_touch H17.out tt A17.out)
      clear hh tt
      go_wp2_with fail
      refine (fail_ok H18.out 1 5 (by omega) (by omega)).mono ?_
      rintro e w19 ⟨rfl, hh, tt⟩
      replace tt := tch_foot (gb := gb) (ws := .slice none 0 0) tt
      have H19 : Hid (DiskAt w19 w.heap.size g gb (.slice none 0 0) (nD12 la)) := hh
      have B19 := Lib.hid (B18.out.trans (tt.toBelow B18.out.size (foot_base H18.out)))
      have A19 := Lib.hid (own_touch H18.out tt A18.out)
      clear hh tt
      go_wp2_with fail
      refine (write_ok H19.out B19.out.size 1 ha.out cA A19.out.rd.1 (by simp) (fun w' ht => (ht.own A19.out (own_g H19.out A19.out)).rd.1) (show 1 < 2 by decide) (by rfl) (show 0 < 1000000 by decide)).mono ?_
      rintro e w20 ⟨ws20, rfl, hh, tt, _⟩
      have H20 : Hid (DiskAt w20 w.heap.size g gb (ws20) (nD13 la)) := hh
      have B20 := Lib.hid (B19.out.trans (tt.toBelow B19.out.size (foot_base H19.out)))
      have A20 := Lib.hid (own_touch H19.out tt A19.out)
      clear hh tt
      go_wp2_with fail
      refine (write_stop H20.out 1 cA (show 1 < 2 by decide) (show (5 : Int) ≠ 0 by decide)).mono ?_
      rintro e w21 ⟨rfl, hh, tt⟩
      rw [show stopE (nD13 la) = 5 from by rfl]
      replace tt := tch_foot (gb := gb) (ws := ws20) tt
      have H21 : Hid (DiskAt w21 w.heap.size g gb (ws20) (nD14 la)) := hh
      have B21 := Lib.hid (B20.out.trans (tt.toBelow B20.out.size (foot_base H20.out)))
      have A21 := Lib.hid (own_touch H20.out tt A20.out)
      clear hh tt
      go_wp2_with fail
      refine (pending_any H21.out).mono ?_
      rintro e w' ⟨rfl, rfl⟩
      rw [show ((nD14 la)).writes.length = 1 from by rfl]
      go_wp2_with fail
      refine (write_bad H21.out (2) cA (l := 4096) (by decide) (.inl (by show ¬ (_ ∧ _ < ((2 : Nat) : Int)); omega))).mono ?_
      rintro e w' ⟨rfl, rfl⟩
      go_wp2_with fail
      refine (write_bad H21.out (-1) cA (l := 4096) (by decide) (.inl (by show ¬ (_ ∧ _ < ((2 : Nat) : Int)); omega))).mono ?_
      rintro e w' ⟨rfl, rfl⟩
      go_wp2_with fail
      refine (write_bad H21.out (0) cA (l := 4095) (by decide) (.inr (by decide))).mono ?_
      rintro e w' ⟨rfl, rfl⟩
      go_wp2_with fail
      refine (fail_bad H21.out 0 2 (by omega)).mono ?_
      rintro e w' ⟨rfl, rfl⟩
      go_wp2_with fail
      refine (fail_bad H21.out (-1) 4 (by omega)).mono ?_
      rintro e w' ⟨rfl, rfl⟩
      go_wp2_with fail
      refine (arm_bad H21.out (-1) (by omega)).mono ?_
      rintro e w' ⟨rfl, rfl⟩
      go_wp2_with fail
      refine (crash_bad H21.out (.slice none 0 0) 0 (4097) (by omega)).mono ?_
      rintro e w22 ⟨rfl, hb⟩
      have H22 := Lib.hid (H21.out.below hb)
      have B22 := Lib.hid (bthen B21.out hb)
      have A22 := Lib.hid (A21.out.below hb)
      clear hb
      go_wp2_with fail
      refine (crash_bad H22.out (.slice none 0 0) 0 (-1) (by omega)).mono ?_
      rintro e w23 ⟨rfl, hb⟩
      have H23 := Lib.hid (H22.out.below hb)
      have B23 := Lib.hid (bthen B22.out hb)
      have A23 := Lib.hid (A22.out.below hb)
      clear hb
      go_wp2_with fail
      refine (arm_ok H23.out 0 (by omega)).mono ?_
      rintro e w24 ⟨rfl, hh, tt⟩
      replace tt := tch_foot (gb := gb) (ws := ws20) tt
      have H24 : Hid (DiskAt w24 w.heap.size g gb (ws20) (nD15 la)) := hh
      have B24 := Lib.hid (B23.out.trans (tt.toBelow B23.out.size (foot_base H23.out)))
      have A24 := Lib.hid (own_touch H23.out tt A23.out)
      clear hh tt
      go_wp2_with fail
      refine (fail_ok H24.out 0 4 (by omega) (by omega)).mono ?_
      rintro e w25 ⟨rfl, hh, tt⟩
      replace tt := tch_foot (gb := gb) (ws := ws20) tt
      have H25 : Hid (DiskAt w25 w.heap.size g gb (ws20) (nD16 la)) := hh
      have B25 := Lib.hid (B24.out.trans (tt.toBelow B24.out.size (foot_base H24.out)))
      have A25 := Lib.hid (own_touch H24.out tt A24.out)
      clear hh tt
      go_wp2_with fail
      refine (sync_stop H25.out (show (6 : Int) ≠ 0 by decide)).mono ?_
      rintro e w26 ⟨rfl, hh, tt⟩
      rw [show stopE (nD16 la) = 6 from by rfl]
      replace tt := tch_foot (gb := gb) (ws := ws20) tt
      have H26 : Hid (DiskAt w26 w.heap.size g gb (ws20) (nD17 la)) := hh
      have B26 := Lib.hid (B25.out.trans (tt.toBelow B25.out.size (foot_base H25.out)))
      have A26 := Lib.hid (own_touch H25.out tt A25.out)
      clear hh tt
      go_wp2_with fail
      refine (crash_ok H26.out B26.out.size (keep := []) rfl 0 (0) (ct := 0) (by omega) (fun _ _ => .inl rfl)).mono ?_
      rintro e w27 ⟨rfl, hh, tt⟩
      have H27 : Hid (DiskAt w27 w.heap.size g gb (.slice none 0 0) (nD18 la)) := hh
      have B27 := Lib.hid (B26.out.trans (tt.toBelow B26.out.size (foot_base H26.out)))
      have A27 := Lib.hid (own_touch H26.out tt A26.out)
      clear hh tt
      go_wp2_with fail
      refine (sync_ok H27.out (by rfl)).mono ?_
      rintro e w28 ⟨rfl, hh, tt⟩
      have H28 : Hid (DiskAt w28 w.heap.size g gb (.slice none 0 0) (nD19 la)) := hh
      have B28 := Lib.hid (B27.out.trans (tt.toBelow B27.out.size (foot_base H27.out)))
      have A28 := Lib.hid (own_touch H27.out tt A27.out)
      clear hh tt
      go_wp2_with fail
      refine (arm_ok H28.out 9223372036854775807 (by omega)).mono ?_
      rintro e w29 ⟨rfl, hh, tt⟩
      replace tt := tch_foot (gb := gb) (ws := .slice none 0 0) tt
      have H29 : Hid (DiskAt w29 w.heap.size g gb (.slice none 0 0) (nD20 la)) := hh
      have B29 := Lib.hid (B28.out.trans (tt.toBelow B28.out.size (foot_base H28.out)))
      have A29 := Lib.hid (own_touch H28.out tt A28.out)
      clear hh tt
      go_wp2_with fail
      refine (sync_ok H29.out (by rfl)).mono ?_
      rintro e w30 ⟨rfl, hh, tt⟩
      have H30 : Hid (DiskAt w30 w.heap.size g gb (.slice none 0 0) (nD21 la)) := hh
      have B30 := Lib.hid (B29.out.trans (tt.toBelow B29.out.size (foot_base H29.out)))
      have A30 := Lib.hid (own_touch H29.out tt A29.out)
      clear hh tt
      go_wp2_with fail
      refine (awake03 (w := w30)).mono ?_
      rintro e w31 ⟨rfl, hb⟩
      have H31 := Lib.hid (H30.out.below hb)
      have B31 := Lib.hid (bthen B30.out hb)
      have A31 := Lib.hid (A30.out.below hb)
      clear hb
      go_wp2_with fail
      go_ret
      exact ⟨rfl, B31.out⟩
end Go.Proofs.Ytobnomlbkhkodaa.Y
