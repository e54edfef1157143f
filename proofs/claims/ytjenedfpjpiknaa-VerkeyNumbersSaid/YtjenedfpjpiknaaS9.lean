/-
  The walk of StampNumbers.
-/
import Derived.Test.YtjenedfpjpiknaaS8
set_option linter.unusedVariables false
set_option linter.unusedSimpArgs false
namespace Go.Proofs.Ytjenedfpjpiknaa.Y
open Go.RowKit

set_option maxHeartbeats 4000000 in
set_option maxRecDepth 100000 in
theorem stampNumbers_walk  (w : World)
     :
    Calls Try.prog 6 #[] w fun e w' => e = .returned (.bool true) ∧ Below w.heap.size w w' := by
  have hm1 := make_lit 4081 4081 rfl (by decide)
  have hm2 := make_lit 4080 4080 rfl (by decide)
  have hm3 := make_lit 4095 4095 rfl (by decide)
  have hm4 := make_lit 4096 4096 rfl (by decide)
  have hs1 : Hid ((zeros 4080).length ≤ 4080) := by show _ ≤ _; simp
  have hz6 : Hid ((zeros 4096).length = 4096) := by show _ = _; simp
  have hz6e : Hid ((zeros 4096).take 8 = (zeros 4096).drop 4088) := by show _ = _; simp [zeros]
  have hz6n : Hid (numV (zeros 4096) 0 8 = 0) := by show _ = _; rw [(ends_num hz6.out).1]; simp [zeros]; rfl
  have hpl : Hid ((((zeros 4096).drop 8).take 4080).length = 4080) := by show _ = _; simp
  have o1 := Lib.hid (show ofB (-1) (-1) = 18446744073709551615 by decide)
  have o2 := Lib.hid (show ofB (-1) 0 = 18446744069414584320 by decide)
  have eqs := eqB_self
  go_enter Try.func6, Try.ntmps6
  go_wp2_with fail
  refine (seal_long 1 (by decide) (by decide)).mono ?_
  rintro e w' ⟨rfl, rfl⟩
  go_wp2_with fail
  refine (seal_any (xs := zeros 4080) (by simp) _ (by exact rd_zeros (by simp)) 1 (by decide)).mono ?_
  rintro e w_a ⟨rv, rfl, hvv, hbb⟩
  obtain ⟨A_a, c_a, rfl, hc_a, hm_a, hr⟩ := hvv.sliceN (sealB_len 1 hs1.out)
  have B_a := Lib.hid hbb
  clear hvv hbb hr
  go_wp2_with fail
  refine (open_arg (by decide) (by decide)).mono ?_
  rintro e w' ⟨rfl, rfl⟩
  go_wp2_with fail
  refine (open_arg (by decide) (by decide)).mono ?_
  rintro e w' ⟨rfl, rfl⟩
  go_wp2_with fail
  refine (open_ok hz6 _ (Lib.hid (by exact rd_zeros (by simp))) (by decide) hz6e).mono ?_
  rintro e w_p ⟨rv, rfl, hvv, hbb⟩
  obtain ⟨A_p, c_p, rfl, hc_p, hm_p, hr⟩ := hvv.sliceN hpl.out
  have O_p := Lib.hid hvv
  have R_p := Lib.hid hr
  have B_p := Lib.hid hbb
  clear hvv hbb hr
  rw [hz6n.out]
  go_wp2_with fail
  refine (parts_any 4294967298 (by decide)).mono ?_
  rintro e w' ⟨rfl, rfl⟩
  go_wp2_with fail
  refine (of_any (-1) (-1) (by decide) (by decide) (by decide) (by decide)).mono ?_
  rintro e w' ⟨rfl, rfl⟩
  rw [o1.out]
  go_wp2_with fail
  refine (parts_any 18446744073709551615 (by decide)).mono ?_
  rintro e w' ⟨rfl, rfl⟩
  go_wp2_with fail
  refine (made_any 1 4080 (by decide) (by decide) (by decide)).mono ?_
  rintro e w_mu ⟨Mu, rv, rfl, hl, hvv, hbb⟩
  have Hu := Lib.hid (Nat.le_of_eq hl)
  obtain ⟨A_mu, c_mu, rfl, hc_mu, hm_mu, hr⟩ := hvv.sliceN hl
  have HLu := Lib.hid hl
  have R_mu := Lib.hid hr
  have B_mu := Lib.hid hbb
  clear hvv hbb hr hl
  go_wp2_with fail
  refine (seal_any HLu.out _ R_mu.out 2 (by decide)).mono ?_
  rintro e w_su ⟨rv, rfl, hvv, hbb⟩
  obtain ⟨A_su, c_su, rfl, hc_su, hm_su, hr⟩ := hvv.sliceN (sealB_len 2 Hu.out)
  have O_su := Lib.hid hvv
  have R_su := Lib.hid hr
  have B_su := Lib.hid hbb
  clear hvv hbb hr
  go_wp2_with fail
  refine (made_any 2 4080 (by decide) (by decide) (by decide)).mono ?_
  rintro e w_mv ⟨Mv, rv, rfl, hl, hvv, hbb⟩
  have Hv := Lib.hid (Nat.le_of_eq hl)
  obtain ⟨A_mv, c_mv, rfl, hc_mv, hm_mv, hr⟩ := hvv.sliceN hl
  have HLv := Lib.hid hl
  have R_mv := Lib.hid hr
  have B_mv := Lib.hid hbb
  clear hvv hbb hr hl
  go_wp2_with fail
  refine (seal_any HLv.out _ R_mv.out 3 (by decide)).mono ?_
  rintro e w_sv ⟨rv, rfl, hvv, hbb⟩
  obtain ⟨A_sv, c_sv, rfl, hc_sv, hm_sv, hr⟩ := hvv.sliceN (sealB_len 3 Hv.out)
  have O_sv := Lib.hid hvv
  have R_sv := Lib.hid hr
  have B_sv := Lib.hid hbb
  clear hvv hbb hr
  go_wp2_with fail
  obtain ⟨X, hX⟩ : ∃ X, X = sealB Mu 2 := ⟨_, rfl⟩
  obtain ⟨Y, hY⟩ : ∃ Y, Y = sealB Mv 3 := ⟨_, rfl⟩
  have hXl : Hid (X.length = 4096) := by show _ = _; rw [hX]; exact sealB_len 2 Hu.out
  have hYl : Hid (Y.length = 4096) := by show _ = _; rw [hY]; exact sealB_len 3 Hv.out
  obtain ⟨T, hT⟩ : ∃ T, T = Y.take 100 ++ X.drop 100 := ⟨_, rfl⟩
  have hTl : Hid (T.length = 4096) := by show _ = _; rw [hT, List.length_append, List.length_take, List.length_drop, hXl.out, hYl.out]; decide
  have hbad : Hid (T.take 8 ≠ T.drop 4088) := by
    show _ ≠ _
    rw [hT, torn_take (by rw [hYl.out]; decide) (by decide), torn_drop (by rw [hYl.out]; decide) (by decide), hX, hY, sealB_take8, sealB_end 2 Hu.out]
    intro h
    exact absurd (leB8_inj (by decide) (by decide) h) (by decide)
  have HT := Lib.hid hT
  have hYC : Hid ((Y.take 100).length = 100) := by show _ = _; rw [List.length_take, hYl.out]; decide
  have hXC : Hid ((X.drop 100).length = 3996) := by show _ = _; rw [List.length_drop, hXl.out]
  have z1 : (100 : Int) ≤ c_sv := by omega
  have z2 : (100 : Int) ≤ c_su := by omega
  have Ry := R_sv.out.take 100
  rw [← hY] at Ry
  have Rx := ((R_su.out.below B_mv.out).below B_sv.out).cut 100 c_su (by rw [sealB_len 2 Hu.out]; exact hc_su)
  rw [← hX] at Rx
  replace Ry := Lib.hid Ry
  replace Rx := Lib.hid Rx
  clear hX hY hT
  go_region_law (first
      | (refine step_append_bytes rfl (.tmp 82) (.tmp 84) 22 rfl w_sv.heap.size Try.underlying22 info_u8 rv (Y.take 100) (X.drop 100) rfl O_t.out (cutA A_su c_su 100) 3996 (c_su - 100) rfl hXC.out (Rx.out.below B_t.out) (by have := hYC.out; omega) B_t.out.size ?_; intro r2 w_T hvv hg; have B_T := Lib.hid (B_t.out.grown hg B_t.out.size (Own.base O_t.out)); rw [← HT.out] at hvv; have O_T := Lib.hid hvv; obtain ⟨A_T, c_T, rfl, hc_T, hm_T, hr⟩ := hvv.sliceN hTl.out; have R_T := Lib.hid hr; clear hvv hg hr)
      | (go_simp; go_at_call 17; refine (copyBytes_any (w := w_sv.drew) (xs := Y.take 100) hYC.out _ (show Rd w_sv.drew _ _ from Ry.out) (by decide)).mono ?_; rintro e w_t ⟨rv, rfl, hvv, hbb⟩; have O_t : Hid (Own w_t w_sv.heap.size rv (Y.take 100)) := hvv; have B_t : Hid (Below w_sv.heap.size w_sv w_t) := bthen (bdrew (Below.refl _ _)) hbb; clear hvv hbb)
      | (go_simp; go_at_call 27; refine (open_bad hTl _ R_T hc_T hbad).mono ?_; rintro e w_o ⟨rfl, hbb⟩; have B_o := Lib.hid (bthen B_T.out hbb); clear hbb))
  go_wp2_with fail
  refine (of_any (-1) 0 (by decide) (by decide) (by decide) (by decide)).mono ?_
  rintro e w' ⟨rfl, rfl⟩
  rw [o2.out]
  go_wp2_with fail
  refine (awake04_any _).mono ?_
  rintro e w_z ⟨rfl, hbb⟩
  have B_z := Lib.hid hbb
  clear hbb
  go_wp2_with fail
  go_ret
  exact ⟨rfl, (bthen (bthen (bthen (bthen (bthen (bthen (bthen (balloc (balloc (bthen (balloc (balloc (Below.refl _ _) _) _) B_a.out) _) _) B_p.out) B_mu.out) B_su.out) B_mv.out) B_sv.out) B_o.out) B_z.out)⟩
end Go.Proofs.Ytjenedfpjpiknaa.Y
