/-
  The walk of VerkeyBounds.
-/
import Derived.Test.YtjenedfpjpiknaaV4
set_option linter.unusedVariables false
set_option linter.unusedSimpArgs false
namespace Go.Proofs.Ytjenedfpjpiknaa.Y
open Go.RowKit

def firstB (xs : List UInt8) : List UInt8 := textB xs ++ [0, 0]
def behindB (xs : List UInt8) : List UInt8 := textB xs ++ [0, 1]
set_option maxHeartbeats 4000000 in
set_option maxRecDepth 100000 in
theorem verkeyBounds_walk (A0 : Option Addr) (c0 : Nat) (l0 : List UInt8) (A1 : Option Addr) (c1 : Nat) (l1 : List UInt8) (a2 : Int) (w : World)
    (r0 : Rd w A0 l0) (h0 : l0.length ≤ c0) (m0 : c0 ≤ maxLen) (y0 : l0.length ≤ 1048576) (r1 : Rd w A1 l1) (h1 : l1.length ≤ c1) (m1 : c1 ≤ maxLen) (y1 : l1.length ≤ 1048576) (w2 : (Lit.int .i64 a2).wf = true) :
    Calls Try.prog 10 #[.slice A0 l0.length c0, .slice A1 l1.length c1, .int .i64 a2] w fun e w' => e = .returned (.bool true) ∧ Below w.heap.size w w' := by
  have R0 := Lib.hid r0
  have R1 := Lib.hid r1
  have hw2 := wf_i64 w2
  clear r0 r1 m0 m1 w2 h0 h1
  by_cases hm1 : 0 < l1.length ∧ l1.length ≤ 128
  rotate_left
  · go_enter Try.func10, Try.ntmps10
    go_wp2_with fail
    refine (may_any _ (by omega) false (decide_eq_false hm1).symm).mono ?_
    rintro e w' ⟨rfl, rfl⟩
    go_wp2_with fail
    refine (awake13_any _).mono ?_
    rintro e w3 ⟨rfl, hb3⟩
    go_wp2_with fail
    go_ret
    exact ⟨rfl, hb3⟩
  obtain ⟨N, hN⟩ := Int.eq_ofNat_of_zero_le (Int.emod_nonneg a2 (by decide : ((4611686018427387904 : Nat) : Int) ≠ 0))
  have hN4 : N < 4611686018427387904 := by have := Int.emod_lt_of_pos a2 (by decide : (0 : Int) < ((4611686018427387904 : Nat) : Int)); omega
  have HN := Lib.hid hN
  have hF : Hid (cmpB (firstB l0) (joinB l1 N) = if l0 = l1 then -1 else cmpB l0 l1) := cmp_first l0 l1 N
  have hB : Hid (cmpB (joinB l1 N) (behindB l0) = if l0 = l1 then -1 else cmpB l1 l0) := cmp_behind l0 l1 N
  have M1 := Lib.hid hm1
  have hneg := Lib.hid (cmpB_neg l0 l1)
  have hrg := Lib.hid (cmpB_range l0 l1)
  clear hN
  go_enter Try.func10, Try.ntmps10
  go_wp2_with fail
  refine (may_any _ (by omega) true (decide_eq_true M1.out).symm).mono ?_
  rintro e w' ⟨rfl, rfl⟩
  clear hm1
  go_wp2_with fail
  refine (pick_big a2 4611686018427387904 (by decide) (by decide) (by omega) (by omega)).mono ?_
  rintro e w' ⟨rfl, rfl⟩
  rw [HN.out]
  go_wp2_with fail
  refine (join_yes rfl _ R1.out N M1.out.1 M1.out.2 (by omega)).mono ?_
  rintro e w_y ⟨rv, rfl, hvv, hbb⟩
  obtain ⟨A_y, c_y, rfl, hc_y, hm_y, hr⟩ := hvv.slice
  have O_y := Lib.hid hvv
  have R_y := Lib.hid hr
  have B_y := Lib.hid hbb
  clear hvv hbb hr
  go_wp2_with fail
  refine (first_any rfl _ (R0.out.below B_y.out) (by omega)).mono ?_
  rintro e w_f ⟨rv, rfl, hvv, hbb⟩
  replace hvv : Own w_f _ rv (firstB l0) := hvv
  obtain ⟨A_f, c_f, rfl, hc_f, hm_f, hr⟩ := hvv.slice
  have O_f := Lib.hid hvv
  have R_f := Lib.hid hr
  have B_f := Lib.hid hbb
  clear hvv hbb hr
  go_wp2_with fail
  refine (cmp_any rfl rfl _ _ R_f.out (R_y.out.below B_f.out)).mono ?_
  rintro e w' ⟨rfl, rfl⟩
  by_cases hab : l0 = l1
  · have e1 : cmpB (firstB l0) (joinB l1 N) = -1 := by rw [hF.out, if_pos hab]
    have e2 : Hid (cmpB (joinB l1 N) (behindB l0) = -1) := by show _ = _; rw [hB.out, if_pos hab]
    have e3 : Hid (cmpB l0 l1 = 0) := cmpB_zero.2 hab
    have e4 : Hid (eqB l0 l1 = true) := eqB_iff.2 hab
    rw [e1]
    clear e1 hab
    go_wp2_with fail
    refine (behind_any rfl _ ((R0.out.below B_y.out).below B_f.out) (by omega)).mono ?_
    rintro e w_b0 ⟨rv, rfl, hvv, hbb⟩
    replace hvv : Own w_b0 _ rv (behindB l0) := hvv
    obtain ⟨A_b0, c_b0, rfl, hc_b0, hm_b0, hr⟩ := hvv.slice
    have O_b0 := Lib.hid hvv
    have R_b0 := Lib.hid hr
    have B_b0 := Lib.hid hbb
    clear hvv hbb hr
    go_wp2_with fail
    refine (cmp_any rfl rfl _ _ ((R_y.out.below B_f.out).below B_b0.out) R_b0.out).mono ?_
    rintro e w' ⟨rfl, rfl⟩
    rw [e2.out]
    go_wp2_with fail
    refine (first_any rfl _ (((R0.out.below B_y.out).below B_f.out).below B_b0.out) (by omega)).mono ?_
    rintro e w_g0 ⟨rv, rfl, hvv, hbb⟩
    replace hvv : Own w_g0 _ rv (firstB l0) := hvv
    obtain ⟨A_g0, c_g0, rfl, hc_g0, hm_g0, hr⟩ := hvv.slice
    have O_g0 := Lib.hid hvv
    have R_g0 := Lib.hid hr
    have B_g0 := Lib.hid hbb
    clear hvv hbb hr
    go_wp2_with fail
    refine (cmp_any rfl rfl _ _ R_g0.out (((R_y.out.below B_f.out).below B_b0.out).below B_g0.out)).mono ?_
    rintro e w' ⟨rfl, rfl⟩
    rw [hF.out, if_pos (cmpB_zero.1 e3.out)]
    go_wp2_with fail
    refine (cmp_any rfl rfl _ _ ((((R0.out.below B_y.out).below B_f.out).below B_b0.out).below B_g0.out) ((((R1.out.below B_y.out).below B_f.out).below B_b0.out).below B_g0.out)).mono ?_
    rintro e w' ⟨rfl, rfl⟩
    rw [e3.out]
    go_wp2_with fail
    refine (same_any rfl rfl _ _ ((((R0.out.below B_y.out).below B_f.out).below B_b0.out).below B_g0.out) ((((R1.out.below B_y.out).below B_f.out).below B_b0.out).below B_g0.out)).mono ?_
    rintro e w' ⟨rfl, rfl⟩
    rw [e4.out]
    go_wp2_with fail
    refine (awake13_any _).mono ?_
    rintro e w_z0 ⟨rfl, hbb⟩
    have B_z0 := Lib.hid hbb
    clear hbb
    go_wp2_with fail
    go_ret
    exact ⟨rfl, (bthen (bthen (bthen (bthen (bthen (Below.refl _ _) B_y.out) B_f.out) B_b0.out) B_g0.out) B_z0.out)⟩
  have hz := fun e => hab (cmpB_zero.1 e)
  have e4 : Hid (eqB l0 l1 = false) := eqB_not.2 hab
  by_cases hc : cmpB l0 l1 = -1
  · have e1 : cmpB (firstB l0) (joinB l1 N) = -1 := by rw [hF.out, if_neg hab, hc]
    have e2 : Hid (cmpB (joinB l1 N) (behindB l0) = 1) := by show _ = _; rw [hB.out, if_neg hab, hneg.out, hc]; rfl
    have e3 : Hid (cmpB l0 l1 = -1) := hc
    rw [e1]
    clear e1 hab hz hc
    go_wp2_with fail
    refine (behind_any rfl _ ((R0.out.below B_y.out).below B_f.out) (by omega)).mono ?_
    rintro e w_b1 ⟨rv, rfl, hvv, hbb⟩
    replace hvv : Own w_b1 _ rv (behindB l0) := hvv
    obtain ⟨A_b1, c_b1, rfl, hc_b1, hm_b1, hr⟩ := hvv.slice
    have O_b1 := Lib.hid hvv
    have R_b1 := Lib.hid hr
    have B_b1 := Lib.hid hbb
    clear hvv hbb hr
    go_wp2_with fail
    refine (cmp_any rfl rfl _ _ ((R_y.out.below B_f.out).below B_b1.out) R_b1.out).mono ?_
    rintro e w' ⟨rfl, rfl⟩
    rw [e2.out]
    go_wp2_with fail
    refine (first_any rfl _ (((R0.out.below B_y.out).below B_f.out).below B_b1.out) (by omega)).mono ?_
    rintro e w_g1 ⟨rv, rfl, hvv, hbb⟩
    replace hvv : Own w_g1 _ rv (firstB l0) := hvv
    obtain ⟨A_g1, c_g1, rfl, hc_g1, hm_g1, hr⟩ := hvv.slice
    have O_g1 := Lib.hid hvv
    have R_g1 := Lib.hid hr
    have B_g1 := Lib.hid hbb
    clear hvv hbb hr
    go_wp2_with fail
    refine (cmp_any rfl rfl _ _ R_g1.out (((R_y.out.below B_f.out).below B_b1.out).below B_g1.out)).mono ?_
    rintro e w' ⟨rfl, rfl⟩
    rw [hF.out, if_neg (fun e => absurd (cmpB_zero.2 e) (by rw [e3.out]; decide)), e3.out]
    go_wp2_with fail
    refine (cmp_any rfl rfl _ _ ((((R0.out.below B_y.out).below B_f.out).below B_b1.out).below B_g1.out) ((((R1.out.below B_y.out).below B_f.out).below B_b1.out).below B_g1.out)).mono ?_
    rintro e w' ⟨rfl, rfl⟩
    rw [e3.out]
    go_wp2_with fail
    refine (same_any rfl rfl _ _ ((((R0.out.below B_y.out).below B_f.out).below B_b1.out).below B_g1.out) ((((R1.out.below B_y.out).below B_f.out).below B_b1.out).below B_g1.out)).mono ?_
    rintro e w' ⟨rfl, rfl⟩
    rw [e4.out]
    go_wp2_with fail
    refine (awake13_any _).mono ?_
    rintro e w_z1 ⟨rfl, hbb⟩
    have B_z1 := Lib.hid hbb
    clear hbb
    go_wp2_with fail
    go_ret
    exact ⟨rfl, (bthen (bthen (bthen (bthen (bthen (Below.refl _ _) B_y.out) B_f.out) B_b1.out) B_g1.out) B_z1.out)⟩
  · have hc1 : cmpB l0 l1 = 1 := by rcases hrg.out with h | h | h; exact absurd h hc; exact absurd h hz; exact h
    have e1 : cmpB (firstB l0) (joinB l1 N) = 1 := by rw [hF.out, if_neg hab, hc1]
    have e3 : Hid (cmpB l0 l1 = 1) := hc1
    rw [e1]
    clear e1 hab hz hc hc1
    go_wp2_with fail
    refine (first_any rfl _ ((R0.out.below B_y.out).below B_f.out) (by omega)).mono ?_
    rintro e w_g2 ⟨rv, rfl, hvv, hbb⟩
    replace hvv : Own w_g2 _ rv (firstB l0) := hvv
    obtain ⟨A_g2, c_g2, rfl, hc_g2, hm_g2, hr⟩ := hvv.slice
    have O_g2 := Lib.hid hvv
    have R_g2 := Lib.hid hr
    have B_g2 := Lib.hid hbb
    clear hvv hbb hr
    go_wp2_with fail
    refine (cmp_any rfl rfl _ _ R_g2.out ((R_y.out.below B_f.out).below B_g2.out)).mono ?_
    rintro e w' ⟨rfl, rfl⟩
    rw [hF.out, if_neg (fun e => absurd (cmpB_zero.2 e) (by rw [e3.out]; decide)), e3.out]
    go_wp2_with fail
    refine (cmp_any rfl rfl _ _ (((R0.out.below B_y.out).below B_f.out).below B_g2.out) (((R1.out.below B_y.out).below B_f.out).below B_g2.out)).mono ?_
    rintro e w' ⟨rfl, rfl⟩
    rw [e3.out]
    go_wp2_with fail
    refine (same_any rfl rfl _ _ (((R0.out.below B_y.out).below B_f.out).below B_g2.out) (((R1.out.below B_y.out).below B_f.out).below B_g2.out)).mono ?_
    rintro e w' ⟨rfl, rfl⟩
    rw [e4.out]
    go_wp2_with fail
    refine (awake13_any _).mono ?_
    rintro e w_z2 ⟨rfl, hbb⟩
    have B_z2 := Lib.hid hbb
    clear hbb
    go_wp2_with fail
    go_ret
    exact ⟨rfl, (bthen (bthen (bthen (bthen (Below.refl _ _) B_y.out) B_f.out) B_g2.out) B_z2.out)⟩
end Go.Proofs.Ytjenedfpjpiknaa.Y
