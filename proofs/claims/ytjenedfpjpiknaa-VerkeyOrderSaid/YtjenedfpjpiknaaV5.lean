/-
  The walk of VerkeyOrder.
-/
import Derived.Test.YtjenedfpjpiknaaV4
set_option linter.unusedVariables false
set_option linter.unusedSimpArgs false
namespace Go.Proofs.Ytjenedfpjpiknaa.Y
open Go.RowKit

set_option maxHeartbeats 4000000 in
set_option maxRecDepth 100000 in
theorem verkeyOrder_walk (A0 : Option Addr) (c0 : Nat) (l0 : List UInt8) (A1 : Option Addr) (c1 : Nat) (l1 : List UInt8) (a2 : Int) (a3 : Int) (w : World)
    (r0 : Rd w A0 l0) (h0 : l0.length ≤ c0) (m0 : c0 ≤ maxLen) (y0 : l0.length ≤ 140737488351232) (r1 : Rd w A1 l1) (h1 : l1.length ≤ c1) (m1 : c1 ≤ maxLen) (y1 : l1.length ≤ 140737488351232) (w2 : (Lit.int .i64 a2).wf = true) (w3 : (Lit.int .i64 a3).wf = true) :
    Calls Try.prog 9 #[.slice A0 l0.length c0, .slice A1 l1.length c1, .int .i64 a2, .int .i64 a3] w fun e w' => e = .returned (.bool true) ∧ Below w.heap.size w w' := by
  have R0 := Lib.hid r0
  have R1 := Lib.hid r1
  have hw2 := wf_i64 w2
  have hw3 := wf_i64 w3
  clear r0 r1 m0 m1 w2 w3 h0 h1
  by_cases hm0 : 0 < l0.length ∧ l0.length ≤ 128
  rotate_left
  · go_enter Try.func9, Try.ntmps9
    go_wp2_with fail
    refine (may_any _ (by omega) false (decide_eq_false hm0).symm).mono ?_
    rintro e w' ⟨rfl, rfl⟩
    go_wp2_with fail
    refine (awake13_any _).mono ?_
    rintro e w3 ⟨rfl, hb3⟩
    go_wp2_with fail
    go_ret
    exact ⟨rfl, hb3⟩
  by_cases hm1 : 0 < l1.length ∧ l1.length ≤ 128
  rotate_left
  · go_enter Try.func9, Try.ntmps9
    go_wp2_with fail
    refine (may_any _ (by omega) true (decide_eq_true hm0).symm).mono ?_
    rintro e w' ⟨rfl, rfl⟩
    go_wp2_with fail
    refine (may_any _ (by omega) false (decide_eq_false hm1).symm).mono ?_
    rintro e w' ⟨rfl, rfl⟩
    go_wp2_with fail
    refine (awake13_any _).mono ?_
    rintro e w3 ⟨rfl, hb3⟩
    go_wp2_with fail
    go_ret
    exact ⟨rfl, hb3⟩
  obtain ⟨M, hM⟩ := Int.eq_ofNat_of_zero_le (Int.emod_nonneg a2 (by decide : ((4611686018427387904 : Nat) : Int) ≠ 0))
  obtain ⟨N, hN⟩ := Int.eq_ofNat_of_zero_le (Int.emod_nonneg a3 (by decide : ((4611686018427387904 : Nat) : Int) ≠ 0))
  have hM4 : M < 4611686018427387904 := by have := Int.emod_lt_of_pos a2 (by decide : (0 : Int) < ((4611686018427387904 : Nat) : Int)); omega
  have hN4 : N < 4611686018427387904 := by have := Int.emod_lt_of_pos a3 (by decide : (0 : Int) < ((4611686018427387904 : Nat) : Int)); omega
  have HM := Lib.hid hM
  have HN := Lib.hid hN
  have hJ := Lib.hid (cmp_join l0 l1 M N (by omega) (by omega))
  have hx := joinB_length l0 M hm0.2
  have M0 := Lib.hid hm0
  have M1 := Lib.hid hm1
  clear hM hN
  go_enter Try.func9, Try.ntmps9
  go_wp2_with fail
  refine (may_any _ (by omega) true (decide_eq_true M0.out).symm).mono ?_
  rintro e w' ⟨rfl, rfl⟩
  go_wp2_with fail
  refine (may_any _ (by omega) true (decide_eq_true M1.out).symm).mono ?_
  rintro e w' ⟨rfl, rfl⟩
  clear hm0 hm1
  go_wp2_with fail
  refine (pick_big a2 4611686018427387904 (by decide) (by decide) (by omega) (by omega)).mono ?_
  rintro e w' ⟨rfl, rfl⟩
  rw [HM.out]
  go_wp2_with fail
  refine (pick_big a3 4611686018427387904 (by decide) (by decide) (by omega) (by omega)).mono ?_
  rintro e w' ⟨rfl, rfl⟩
  rw [HN.out]
  go_wp2_with fail
  refine (join_yes rfl _ R0.out M M0.out.1 M0.out.2 (by omega)).mono ?_
  rintro e w_x ⟨rv, rfl, hvv, hbb⟩
  obtain ⟨A_x, c_x, rfl, hc_x, hm_x, hr⟩ := hvv.slice
  have O_x := Lib.hid hvv
  have R_x := Lib.hid hr
  have B_x := Lib.hid hbb
  clear hvv hbb hr
  go_wp2_with fail
  refine (join_yes rfl _ (R1.out.below B_x.out) N M1.out.1 M1.out.2 (by omega)).mono ?_
  rintro e w_y ⟨rv, rfl, hvv, hbb⟩
  obtain ⟨A_y, c_y, rfl, hc_y, hm_y, hr⟩ := hvv.slice
  have O_y := Lib.hid hvv
  have R_y := Lib.hid hr
  have B_y := Lib.hid hbb
  clear hvv hbb hr
  go_wp2_with fail
  refine (cmp_any rfl rfl _ _ ((R0.out.below B_x.out).below B_y.out) ((R1.out.below B_x.out).below B_y.out)).mono ?_
  rintro e w' ⟨rfl, rfl⟩
  by_cases hab : l0 = l1
  rotate_left
  · have hz := fun e => hab (cmpB_zero.1 e)
    have hq : (cmpB l0 l1 == 0) = false := by rw [beq_eq_false_iff_ne]; exact hz
    have hJ2 : Hid (cmpB (joinB l0 M) (joinB l1 N) = cmpB l0 l1) := by show _ = _; rw [hJ.out, if_neg hab]
    have hrr : (cmpB l0 l1 == cmpB l0 l1) = true := by simp
    clear hab hz
    go_wp2_with fail
    refine (cmp_any rfl rfl _ _ (R_x.out.below B_y.out) R_y.out).mono ?_
    rintro e w' ⟨rfl, rfl⟩
    rw [hJ2.out]
    go_wp2_with fail
    refine (awake13_any _).mono ?_
    rintro e w_z0 ⟨rfl, hbb⟩
    have B_z0 := Lib.hid hbb
    clear hbb
    go_wp2_with fail
    go_ret
    exact ⟨rfl, (bthen (bthen (bthen (Below.refl _ _) B_x.out) B_y.out) B_z0.out)⟩
  have hz : cmpB l0 l1 = 0 := cmpB_zero.2 hab
  rw [hz]
  have hJ3 : Hid (cmpB (joinB l0 M) (joinB l1 N) = cmpN N M) := by show _ = _; rw [hJ.out, if_pos hab]
  clear hab hz
  by_cases hmn : M = N
  · have hJ2 : Hid (cmpB (joinB l0 M) (joinB l1 N) = 0) := by show _ = _; rw [hJ3.out, hmn]; unfold cmpN; rw [if_neg (Nat.lt_irrefl _), if_pos rfl]
    have ht : ((M : Int) != (N : Int)) = false := by rw [bne_eq_false_iff_eq, hmn]
    have ht2 : (M != N) = false := by rw [bne_eq_false_iff_eq, hmn]
    clear hmn
    go_wp2_with fail
    refine (cmp_any rfl rfl _ _ (R_x.out.below B_y.out) R_y.out).mono ?_
    rintro e w' ⟨rfl, rfl⟩
    rw [hJ2.out]
    go_wp2_with fail
    refine (awake13_any _).mono ?_
    rintro e w_z1 ⟨rfl, hbb⟩
    have B_z1 := Lib.hid hbb
    clear hbb
    go_wp2_with fail
    go_ret
    exact ⟨rfl, (bthen (bthen (bthen (Below.refl _ _) B_x.out) B_y.out) B_z1.out)⟩
  have ht : ((M : Int) != (N : Int)) = true := by rw [bne_iff_ne]; omega
  have ht2 : (M != N) = true := by rw [bne_iff_ne]; exact hmn
  by_cases hlt : N < M
  · have hJ2 : Hid (cmpB (joinB l0 M) (joinB l1 N) = -1) := by show _ = _; rw [hJ3.out]; unfold cmpN; rw [if_pos hlt]
    have hlti : ((N : Int) < M) := by omega
    clear hmn
    go_wp2_with fail
    refine (cmp_any rfl rfl _ _ (R_x.out.below B_y.out) R_y.out).mono ?_
    rintro e w' ⟨rfl, rfl⟩
    rw [hJ2.out]
    go_wp2_with fail
    refine (awake13_any _).mono ?_
    rintro e w_z2 ⟨rfl, hbb⟩
    have B_z2 := Lib.hid hbb
    clear hbb
    go_wp2_with fail
    go_ret
    exact ⟨rfl, (bthen (bthen (bthen (Below.refl _ _) B_x.out) B_y.out) B_z2.out)⟩
  · have hJ2 : Hid (cmpB (joinB l0 M) (joinB l1 N) = 1) := by show _ = _; rw [hJ3.out]; unfold cmpN; rw [if_neg hlt, if_neg (fun e => hmn e.symm)]
    have hlti : ¬ ((N : Int) < M) := by omega
    clear hmn
    go_wp2_with fail
    refine (cmp_any rfl rfl _ _ (R_x.out.below B_y.out) R_y.out).mono ?_
    rintro e w' ⟨rfl, rfl⟩
    rw [hJ2.out]
    go_wp2_with fail
    refine (awake13_any _).mono ?_
    rintro e w_z3 ⟨rfl, hbb⟩
    have B_z3 := Lib.hid hbb
    clear hbb
    go_wp2_with fail
    go_ret
    exact ⟨rfl, (bthen (bthen (bthen (Below.refl _ _) B_x.out) B_y.out) B_z3.out)⟩
end Go.Proofs.Ytjenedfpjpiknaa.Y
