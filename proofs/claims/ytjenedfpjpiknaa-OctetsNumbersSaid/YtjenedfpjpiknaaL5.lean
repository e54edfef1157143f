/-
  The walk of OctetsNumbers.
-/
import Derived.Test.YtjenedfpjpiknaaL3
set_option linter.unusedVariables false
set_option linter.unusedSimpArgs false
namespace Go.Proofs.Ytjenedfpjpiknaa.Y
open Go.RowKit

theorem two_no {z : Int} (hz : z ≠ 0) : numV [1, 2] z 2 = 0 ∧ numOk [1, 2] z 2 = false ∧ numV [1, 2] z 4 = 0 ∧ numOk [1, 2] z 4 = false ∧ partOk [1, 2] z = false := by
  have h1 : ¬ (0 ≤ z ∧ z + (2 : Nat) ≤ (([1, 2] : List UInt8).length : Nat)) := by simp; omega
  have h2 : ¬ (0 ≤ z ∧ z + (4 : Nat) ≤ (([1, 2] : List UInt8).length : Nat)) := by simp; omega
  refine ⟨?_, ?_, ?_, ?_, ?_⟩
  · unfold numV; rw [if_neg h1]
  · unfold numOk; exact decide_eq_false h1
  · unfold numV; rw [if_neg h2]
  · unfold numOk; exact decide_eq_false h2
  · unfold partOk numOk; rw [decide_eq_false h1]; rfl
/-- The five places. -/
theorem five {w ws : World} {g k : Nat} (hc : ws.heap[g]? = some (.cells #[.int .i64 1, .int .i64 (-1), .int .i64 2, .int .i64 9223372036854775807, .int .i64 (-9223372036854775808)] 3 (0, 0))) (hb : Below ws.heap.size ws w) (hk : k < 5) :
    ∃ z : Int, z ≠ 0 ∧ w.cell? ⟨g, k, none⟩ = some (.int .i64 z) := by
  have hlt : g < ws.heap.size := (Array.getElem?_eq_some_iff.1 hc).1
  have h2 : w.cell? ⟨g, k, none⟩ = ws.cell? ⟨g, k, none⟩ := hb.cell hlt
  rw [h2, cell_of_row ws g k _ _ _ hc]
  match k, hk with
  | 0, _ => exact ⟨1, by decide, rfl⟩
  | 1, _ => exact ⟨-1, by decide, rfl⟩
  | 2, _ => exact ⟨2, by decide, rfl⟩
  | 3, _ => exact ⟨9223372036854775807, by decide, rfl⟩
  | 4, _ => exact ⟨-9223372036854775808, by decide, rfl⟩

set_option maxHeartbeats 4000000 in
set_option maxRecDepth 100000 in
theorem octetsNumbers_walk  (w : World)
     :
    Calls Try.prog 11 #[] w fun e w' => e = .returned (.bool true) ∧ Below w.heap.size w w' := by
  have v1 : numV [1, 2] 0 2 = 513 := by decide
  have v2 : numOk [1, 2] 0 2 = true := by decide
  have v3 : numOk (zeros 7) 0 8 = false := by decide
  have v4 : numV (zeros 7) 0 8 = 0 := by decide
  have v5 : Hid (numV [1, 0, 0, 0, 0, 0, 0, 128] 0 8 = 9223372036854775809) := by show _ = _; decide
  have v6 : numOk [1, 0, 0, 0, 0, 0, 0, 128] 0 8 = true := by decide
  have hm7 := make_lit 7 7 rfl (by decide)
  have hm8 := make_lit 65536 65536 rfl (by decide)
  have hm9 := make_lit 65535 65535 rfl (by decide)
  go_enter Try.func11, Try.ntmps11
  go_wp2_with fail
  refine (u16_any (xs := [1, 2]) rfl _ (by exact rd_new (by simp) rfl) _ (by decide)).mono ?_
  rintro e w' ⟨rfl, rfl⟩
  go_wp2_with fail
  refine (u64_any (xs := zeros 7) (by simp) _ (by exact rd_zeros (by simp)) _ (by decide)).mono ?_
  rintro e w' ⟨rfl, rfl⟩
  go_wp2_with fail
  refine (u64_any (xs := [1, 0, 0, 0, 0, 0, 0, 128]) rfl _ (by exact rd_new (by simp) rfl) _ (by decide)).mono ?_
  rintro e w' ⟨rfl, rfl⟩
  rw [v5.out]
  clear v5
  go_wp2_with fail
  obtain ⟨ws, hws⟩ : ∃ ws : World, ws = (((w.alloc (.cells #[.int .u8 1, .int .u8 2] 5)).alloc (.cells (bvs (zeros 7)).toArray 5)).alloc (.cells #[.int .u8 1, .int .u8 0, .int .u8 0, .int .u8 0, .int .u8 0, .int .u8 0, .int .u8 0, .int .u8 128] 5)).alloc (.cells #[.int .i64 1, .int .i64 (-1), .int .i64 2, .int .i64 9223372036854775807, .int .i64 (-9223372036854775808)] 3) := ⟨_, rfl⟩
  have hc : ws.heap[w.heap.size + 1 + 1 + 1]? = some (.cells #[.int .i64 1, .int .i64 (-1), .int .i64 2, .int .i64 9223372036854775807, .int .i64 (-9223372036854775808)] 3 (0, 0)) := by rw [hws]; exact (by simp : w.heap.size + 1 + 1 + 1 = (((w.alloc _).alloc _).alloc _).heap.size) ▸ heap_alloc_new _ _
  have hb0 : Below w.heap.size w ws := by rw [hws]; exact (balloc (balloc (balloc (balloc (Below.refl _ _) _) _) _) _)
  have HC := Lib.hid hc
  have HB0 := Lib.hid hb0
  rw [← hws]
  clear hc hb0 hws
  go_loopw [63] (fun i wr => ∃ j : Nat, j ≤ 5 ∧ i = .int .i64 j ∧ Below ws.heap.size ws wr) (fun i _ => 5 - (intOf i).toNat)
  case atStart => exact ⟨0, by decide, rfl, Below.refl _ _⟩
  case round =>
    obtain ⟨j, hj, rfl, hbw⟩ := hrel
    have HB := Lib.hid hbw
    clear hbw
    by_cases hlt : j < 5
    · skip
      obtain ⟨z, hz, hcell⟩ := five HC.out HB.out hlt
      have HT := Lib.hid (two_no hz)
      have hj5 : (j : Int) < 5 := by omega
      go_wp2_with fail
      refine (u16_any (xs := [1, 2]) rfl _ (by exact rd_new (by simp) rfl) _ (by decide)).mono ?_
      rintro e w' ⟨rfl, rfl⟩
      rw [HT.out.1, HT.out.2.1]
      go_wp2_with fail
      refine (u32_any (xs := [1, 2]) rfl _ (by exact rd_new (by simp) rfl) _ (by decide)).mono ?_
      rintro e w' ⟨rfl, rfl⟩
      rw [HT.out.2.2.1, HT.out.2.2.2.1]
      go_wp2_with fail
      refine (part_no (xs := [1, 2]) rfl _ (by exact rd_new (by simp) rfl) _ (by decide) HT.out.2.2.2.2).mono ?_
      rintro e w' ⟨rfl, rfl⟩
      go_wp2_with fail
      go_roundw
      case rel => exact ⟨j + 1, by omega, by go_num, bthen HB.out (balloc (balloc (balloc (Below.refl _ _) _) _) _)⟩
      case measure => simp [intOf]; omega
    · obtain rfl : j = 5 := by omega
      have p1 : partOk [2, 0, 5, 6] 0 = true := by decide
      have p2 : partOk [3, 0, 5, 6] 0 = false := by decide
      have p3 : partOk [2, 0, 5, 6] 1 = false := by decide
      have p4 : numV [2, 0, 5, 6] 0 2 = 2 := by decide
      have p5 := eqB_self
      have p6 : cmpB [2] [1, 0] = 1 := by decide
      have p7 : cmpB [] [] = 0 := rfl
      go_wp2_with fail
      refine (part_yesI (xs := [2, 0, 5, 6]) rfl _ (by exact rd_new (by simp) rfl) (by decide) _ (by decide) (by decide) p1).mono ?_
      rintro e w_a ⟨rv, rfl, hvv, hbb⟩
      replace hvv : Own w_a _ rv [5, 6] := hvv
      obtain ⟨A_a, c_a, rfl, hc_a, hm_a, hr⟩ := hvv.slice
      have R_a := Lib.hid hr
      have B_a := Lib.hid hbb
      clear hvv hbb hr
      go_wp2_with fail
      refine (part_no (xs := [3, 0, 5, 6]) rfl _ (by exact rd_new (by simp) rfl) _ (by decide) p2).mono ?_
      rintro e w' ⟨rfl, rfl⟩
      go_wp2_with fail
      refine (part_no (xs := [2, 0, 5, 6]) rfl _ (by exact rd_new (by simp) rfl) _ (by decide) p3).mono ?_
      rintro e w' ⟨rfl, rfl⟩
      go_wp2_with fail
      refine (addPart_long _ _ (by decide) (by decide)).mono ?_
      rintro e w' ⟨rfl, rfl⟩
      go_wp2_with fail
      refine (addPart_any (xs := []) (ys := zeros 65535) rfl _ (Rd.nil _ _) (by show _ = _; simp) _ (by exact rd_zeros (by simp)) (by decide) (by decide)).mono ?_
      rintro e w_b ⟨rv, rfl, hvv, hbb⟩
      obtain ⟨A_b, c_b, rfl, hc_b, hm_b, hr⟩ := hvv.slice
      have O_b := Lib.hid hvv
      have R_b := Lib.hid hr
      have B_b := Lib.hid hbb
      clear hvv hbb hr
      go_wp2_with fail
      refine (sameBytes_any (xs := [5, 6]) (ys := [5, 6]) rfl rfl _ _ ((((((R_a.out.alloc _).alloc _).alloc _).alloc _).below B_b.out).alloc _) (by exact rd_new (by simp) rfl)).mono ?_
      rintro e w' ⟨rfl, rfl⟩
      go_wp2_with fail
      refine (cmp_any (xs := [2]) (ys := [1, 0]) rfl rfl _ _ (by exact (rd_new (by simp) rfl).alloc _) (by exact rd_new (by simp) rfl)).mono ?_
      rintro e w' ⟨rfl, rfl⟩
      go_wp2_with fail
      refine (cmp_any (xs := []) (ys := []) rfl rfl _ _ (by exact Rd.nil _ _) (by exact Rd.nil _ _)).mono ?_
      rintro e w' ⟨rfl, rfl⟩
      go_wp2_with fail
      refine (same_any (xs := []) (ys := []) rfl rfl _ _ (by exact Rd.nil _ _) (by exact Rd.nil _ _)).mono ?_
      rintro e w' ⟨rfl, rfl⟩
      go_wp2_with fail
      refine (awake01_any _).mono ?_
      rintro e w_z ⟨rfl, hbb⟩
      have B_z := Lib.hid hbb
      clear hbb
      go_wp2_with fail
      go_ret
      exact ⟨rfl, (HB0.out.trans (HB.out.mono HB0.out.size)).trans (Below.mono (bthen (balloc (balloc (balloc (balloc (balloc (bthen (balloc (balloc (balloc (balloc (bthen (balloc (Below.refl _ _) _) B_a.out) _) _) _) _) B_b.out) _) _) _) _) _) B_z.out) (bthen HB0.out HB.out).size)⟩
end Go.Proofs.Ytjenedfpjpiknaa.Y
