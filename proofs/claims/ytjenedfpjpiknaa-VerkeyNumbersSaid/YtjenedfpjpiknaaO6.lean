/-
  The fixed answers of layer 1 ('awake').
-/
import Derived.Test.YtjenedfpjpiknaaO5
set_option linter.unusedVariables false
set_option linter.unusedSimpArgs false
namespace Go.Proofs.Ytjenedfpjpiknaa.Y
open Go.RowKit

set_option maxHeartbeats 1600000 in
set_option maxRecDepth 100000 in
theorem awake01_any (w : World) : Calls Try.prog 18 #[] w fun e w' => e = .returned (.bool true) ∧ Below w.heap.size w w' := by
  have v1 : numV [1, 0, 0, 128] 0 4 = 2147483649 := by decide
  have v2 : numOk [1, 0, 0, 128] 0 4 = true := by decide
  have v3 : cmpB [1] [1, 0] = -1 := by decide
  have v4 := eqB_self
  go_enter Try.func18, Try.ntmps18
  go_wp2_with fail
  refine (u32_any (xs := [1, 0, 0, 128]) rfl _ (by exact rd_new (by simp) rfl) _ (by decide)).mono ?_
  rintro e w1 ⟨rfl, rfl⟩
  go_wp2_with fail
  refine (addPart_any (xs := []) (ys := [5, 6]) rfl _ (Rd.nil _ _) rfl _ (by exact rd_new (by simp) rfl) (by decide) (by decide)).mono ?_
  rintro e w2 ⟨r, rfl, hr, hb2⟩
  have hr2 : Own w2 _ r [2, 0, 5, 6] := hr
  obtain ⟨A2, c2, rfl, _, _, hR2⟩ := hr2.slice
  have B2 := Lib.hid (bthen (balloc (balloc (Below.refl _ w) _) _) hb2)
  have HR2 := Lib.hid hR2
  clear hr hr2 hb2 hR2
  go_wp2_with fail
  refine (sameBytes_any (xs := [2, 0, 5, 6]) (ys := [2, 0, 5, 6]) rfl rfl _ _ (by exact HR2.out.alloc _) (by exact rd_new (by simp) rfl)).mono ?_
  rintro e w3 ⟨rfl, rfl⟩
  go_wp2_with fail
  refine (add32_any (xs := [9]) rfl _ (by exact rd_new (by simp) rfl) 258 (by decide) (by decide)).mono ?_
  rintro e w4 ⟨r, rfl, hr, hb4⟩
  have hr4 : Own w4 _ r [9, 2, 1, 0, 0] := hr
  obtain ⟨A4, c4, rfl, _, _, hR4⟩ := hr4.slice
  have B4 := Lib.hid (bthen (balloc (balloc B2.out _) _) hb4)
  have HR4 := Lib.hid hR4
  clear hr hr4 hb4 hR4
  go_wp2_with fail
  refine (sameBytes_any (xs := [9, 2, 1, 0, 0]) (ys := [9, 2, 1, 0, 0]) rfl rfl _ _ (by exact HR4.out.alloc _) (by exact rd_new (by simp) rfl)).mono ?_
  rintro e w5 ⟨rfl, rfl⟩
  go_wp2_with fail
  refine (cmp_any (xs := [1]) (ys := [1, 0]) rfl rfl _ _ (by exact (rd_new (by simp) rfl).alloc _) (by exact rd_new (by simp) rfl)).mono ?_
  rintro e w6 ⟨rfl, rfl⟩
  go_wp2_with fail
  go_ret
  exact ⟨rfl, balloc (balloc (balloc B4.out _) _) _⟩
end Go.Proofs.Ytjenedfpjpiknaa.Y
