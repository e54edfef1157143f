/-
  The walk of OctetsTells.
-/
import Derived.Test.YtjenedfpjpiknaaL3
set_option linter.unusedVariables false
set_option linter.unusedSimpArgs false
namespace Go.Proofs.Ytjenedfpjpiknaa.Y
open Go.RowKit

set_option maxHeartbeats 4000000 in
set_option maxRecDepth 100000 in
theorem octetsTells_walk (A0 : Option Addr) (c0 : Nat) (l0 : List UInt8) (A1 : Option Addr) (c1 : Nat) (l1 : List UInt8) (a2 : Int) (a3 : Int) (w : World)
    (r0 : Rd w A0 l0) (h0 : l0.length ≤ c0) (m0 : c0 ≤ maxLen) (y0 : l0.length ≤ 140737488351232) (r1 : Rd w A1 l1) (h1 : l1.length ≤ c1) (m1 : c1 ≤ maxLen) (y1 : l1.length ≤ 140737488351232) (w2 : (Lit.int .i64 a2).wf = true) (w3 : (Lit.int .u64 a3).wf = true) :
    Calls Try.prog 12 #[.slice A0 l0.length c0, .slice A1 l1.length c1, .int .i64 a2, .int .u64 a3] w fun e w' => e = .returned (.bool true) ∧ Below w.heap.size w w' := by
  have R0 := Lib.hid r0
  have R1 := Lib.hid r1
  obtain ⟨x, rfl⟩ := Int.eq_ofNat_of_zero_le (wf_u64 w3).1
  have hx : x < 18446744073709551616 := by have := (wf_u64 w3).2; omega
  have HX := Lib.hid hx
  have b2 : numV l0 a2 2 < 65536 := numV_lt l0 a2 2
  have b4 : numV l0 a2 4 < 4294967296 := numV_lt l0 a2 4
  have b8 : Hid (numV l0 a2 8 < 18446744073709551616) := numV_lt l0 a2 8
  have v4 := eqB_self
  have he : eqB l0 l1 = (cmpB l0 l1 == (0 : Int)) := by rw [Bool.eq_iff_iff, eqB_iff, beq_iff_eq]; exact cmpB_zero.symm
  have hw16 : IntKind.u16.wrap (x : Int) = (x : Int) % 65536 := IntKind.wrap_u16 _
  have hw32 : IntKind.u32.wrap (x : Int) = (x : Int) % 4294967296 := IntKind.wrap_u32 _
  clear r0 r1 h0 h1 m0 m1 w2 w3
  go_enter Try.func12, Try.ntmps12
  go_wp2_with fail
  refine (lent_any rfl _ R0.out (by omega)).mono ?_
  rintro e w_a ⟨rv, rfl, hvv, hbb⟩
  have L_a := Lib.hid hvv
  obtain ⟨A_a, c_a, rfl, hc_a, hm_a, hr⟩ := hvv.slice
  have R_a := Lib.hid hr
  have B_a := Lib.hid hbb
  clear hvv hbb hr
  go_wp2_with fail
  refine (lent_any rfl _ (R1.out.below B_a.out) (by omega)).mono ?_
  rintro e w_b ⟨rv, rfl, hvv, hbb⟩
  have L_b := Lib.hid hvv
  obtain ⟨A_b, c_b, rfl, hc_b, hm_b, hr⟩ := hvv.slice
  have R_b := Lib.hid hr
  have B_b := Lib.hid hbb
  clear hvv hbb hr
  go_wp2_with fail
  refine (u16_any rfl _ (R_a.out.below B_b.out) _ (by omega)).mono ?_
  rintro e w' ⟨rfl, rfl⟩
  go_wp2_with fail
  refine (u32_any rfl _ (R_a.out.below B_b.out) _ (by omega)).mono ?_
  rintro e w' ⟨rfl, rfl⟩
  go_wp2_with fail
  refine (u64_any rfl _ (R_a.out.below B_b.out) _ (by omega)).mono ?_
  rintro e w' ⟨rfl, rfl⟩
  go_wp2_with fail
  refine (refNumber_any rfl _ ((R0.out.below B_a.out).below B_b.out) _ 2 (by decide) (by omega)).mono ?_
  rintro e w' ⟨rfl, rfl⟩
  go_wp2_with fail
  refine (refNumber_any rfl _ ((R0.out.below B_a.out).below B_b.out) _ 4 (by decide) (by omega)).mono ?_
  rintro e w' ⟨rfl, rfl⟩
  go_wp2_with fail
  refine (refNumber_any rfl _ ((R0.out.below B_a.out).below B_b.out) _ 8 (by decide) (by omega)).mono ?_
  rintro e w' ⟨rfl, rfl⟩
  go_wp2_with fail
  refine (add16I rfl _ (R_a.out.below B_b.out) _ (by omega) (by omega) (by omega)).mono ?_
  rintro e w_c ⟨rv, rfl, hvv, hbb⟩
  obtain ⟨A_c, c_c, rfl, hc_c, hm_c, hr⟩ := hvv.slice
  have O_c := Lib.hid hvv
  have R_c := Lib.hid hr
  have B_c := Lib.hid hbb
  clear hvv hbb hr
  go_wp2_with fail
  refine (refAddI rfl _ (((R0.out.below B_a.out).below B_b.out).below B_c.out) _ 2 (by omega) (by omega) (by decide) (by decide) (by omega)).mono ?_
  rintro e w_d ⟨rv, rfl, hvv, hbb⟩
  obtain ⟨A_d, c_d, rfl, hc_d, hm_d, hr⟩ := hvv.slice
  have O_d := Lib.hid hvv
  have R_d := Lib.hid hr
  have B_d := Lib.hid hbb
  clear hvv hbb hr
  go_wp2_with fail
  refine (sameBytes_any (by simp) (by simp) _ _ (R_c.out.below B_d.out) R_d.out).mono ?_
  rintro e w' ⟨rfl, rfl⟩
  go_wp2_with fail
  refine (add32I rfl _ (((R_a.out.below B_b.out).below B_c.out).below B_d.out) _ (by omega) (by omega) (by omega)).mono ?_
  rintro e w_f ⟨rv, rfl, hvv, hbb⟩
  obtain ⟨A_f, c_f, rfl, hc_f, hm_f, hr⟩ := hvv.slice
  have O_f := Lib.hid hvv
  have R_f := Lib.hid hr
  have B_f := Lib.hid hbb
  clear hvv hbb hr
  go_wp2_with fail
  refine (refAddI rfl _ (((((R0.out.below B_a.out).below B_b.out).below B_c.out).below B_d.out).below B_f.out) _ 4 (by omega) (by omega) (by decide) (by decide) (by omega)).mono ?_
  rintro e w_g ⟨rv, rfl, hvv, hbb⟩
  obtain ⟨A_g, c_g, rfl, hc_g, hm_g, hr⟩ := hvv.slice
  have O_g := Lib.hid hvv
  have R_g := Lib.hid hr
  have B_g := Lib.hid hbb
  clear hvv hbb hr
  go_wp2_with fail
  refine (sameBytes_any (by simp) (by simp) _ _ (R_f.out.below B_g.out) R_g.out).mono ?_
  rintro e w' ⟨rfl, rfl⟩
  go_wp2_with fail
  refine (add64_any rfl _ (((((R_a.out.below B_b.out).below B_c.out).below B_d.out).below B_f.out).below B_g.out) _ (by omega)).mono ?_
  rintro e w_h ⟨rv, rfl, hvv, hbb⟩
  obtain ⟨A_h, c_h, rfl, hc_h, hm_h, hr⟩ := hvv.slice
  have O_h := Lib.hid hvv
  have R_h := Lib.hid hr
  have B_h := Lib.hid hbb
  clear hvv hbb hr
  go_wp2_with fail
  refine (refAddI rfl _ (((((((R0.out.below B_a.out).below B_b.out).below B_c.out).below B_d.out).below B_f.out).below B_g.out).below B_h.out) _ 8 (by omega) (by have := HX.out; omega) (by decide) (by decide) (by omega)).mono ?_
  rintro e w_i ⟨rv, rfl, hvv, hbb⟩
  obtain ⟨A_i, c_i, rfl, hc_i, hm_i, hr⟩ := hvv.slice
  have O_i := Lib.hid hvv
  have R_i := Lib.hid hr
  have B_i := Lib.hid hbb
  clear hvv hbb hr
  go_wp2_with fail
  refine (sameBytes_any (by simp) (by simp) _ _ (R_h.out.below B_i.out) R_i.out).mono ?_
  rintro e w' ⟨rfl, rfl⟩
  go_wp2_with fail
  clear hw16 hw32
  by_cases hlong : 65535 < l1.length
  · skip
    refine (addPart_long _ _ hlong (by omega)).mono ?_
    rintro e w' ⟨rfl, rfl⟩
    go_wp2_with fail
    refine (refAddPart_long _ _ hlong (by omega)).mono ?_
    rintro e w' ⟨rfl, rfl⟩
    go_wp2_with fail
    by_cases hp : partOk l0 a2 = false
    · skip
      refine (part_no rfl _ (((((((R_a.out.below B_b.out).below B_c.out).below B_d.out).below B_f.out).below B_g.out).below B_h.out).below B_i.out) _ (by omega) hp).mono ?_
      rintro e w' ⟨rfl, rfl⟩
      go_wp2_with fail
      refine (refPart_no rfl _ ((((((((R0.out.below B_a.out).below B_b.out).below B_c.out).below B_d.out).below B_f.out).below B_g.out).below B_h.out).below B_i.out) _ (by omega) hp).mono ?_
      rintro e w' ⟨rfl, rfl⟩
      go_wp2_with fail
      refine (sameBytes_any (xs := []) (ys := []) rfl rfl _ _ (by exact Rd.nil _ _) (by exact Rd.nil _ _)).mono ?_
      rintro e w' ⟨rfl, rfl⟩
      go_wp2_with fail
      refine (sameBytes_any (xs := []) (ys := []) rfl rfl _ _ (by exact Rd.nil _ _) (by exact Rd.nil _ _)).mono ?_
      rintro e w' ⟨rfl, rfl⟩
      go_wp2_with fail
      refine (refCmp_any rfl rfl _ _ ((((((((R0.out.below B_a.out).below B_b.out).below B_c.out).below B_d.out).below B_f.out).below B_g.out).below B_h.out).below B_i.out) ((((((((R1.out.below B_a.out).below B_b.out).below B_c.out).below B_d.out).below B_f.out).below B_g.out).below B_h.out).below B_i.out) (by omega) (by omega)).mono ?_
      rintro e w' ⟨rfl, q, rfl⟩
      go_wp2_with fail
      refine (cmp_any rfl rfl _ _ ((((((((R_a.out.below B_b.out).below B_c.out).below B_d.out).below B_f.out).below B_g.out).below B_h.out).below B_i.out).drewN _) (((((((R_b.out.below B_c.out).below B_d.out).below B_f.out).below B_g.out).below B_h.out).below B_i.out).drewN _)).mono ?_
      rintro e w' ⟨rfl, rfl⟩
      go_wp2_with fail
      refine (same_any rfl rfl _ _ ((((((((R_a.out.below B_b.out).below B_c.out).below B_d.out).below B_f.out).below B_g.out).below B_h.out).below B_i.out).drewN _) (((((((R_b.out.below B_c.out).below B_d.out).below B_f.out).below B_g.out).below B_h.out).below B_i.out).drewN _)).mono ?_
      rintro e w' ⟨rfl, rfl⟩
      go_wp2_with fail
      refine (kept_any rfl _ (by omega) ((((((((L_a.out.below B_b.out).below B_c.out).below B_d.out).below B_f.out).below B_g.out).below B_h.out).below B_i.out).drewN _) (((((((((R0.out.below B_a.out).below B_b.out).below B_c.out).below B_d.out).below B_f.out).below B_g.out).below B_h.out).below B_i.out).drewN _)).mono ?_
      rintro e w' ⟨rfl, rfl⟩
      go_wp2_with fail
      refine (kept_any rfl _ (by omega) (((((((L_b.out.below B_c.out).below B_d.out).below B_f.out).below B_g.out).below B_h.out).below B_i.out).drewN _) (((((((((R1.out.below B_a.out).below B_b.out).below B_c.out).below B_d.out).below B_f.out).below B_g.out).below B_h.out).below B_i.out).drewN _)).mono ?_
      rintro e w' ⟨rfl, rfl⟩
      go_wp2_with fail
      refine (awake01_any _).mono ?_
      rintro e w_z1 ⟨rfl, hbb⟩
      have B_z1 := Lib.hid hbb
      clear hbb
      go_wp2_with fail
      go_ret
      exact ⟨rfl, (bthen (bdrewN (bthen (bthen (bthen (bthen (bthen (bthen (bthen (bthen (Below.refl _ _) B_a.out) B_b.out) B_c.out) B_d.out) B_f.out) B_g.out) B_h.out) B_i.out) _) B_z1.out)⟩
    · replace hp : partOk l0 a2 = true := by simpa using hp
      have ha2 : 0 ≤ a2 := by have := hp; simp [partOk, numOk] at this; omega
      refine (part_yesI rfl _ (((((((R_a.out.below B_b.out).below B_c.out).below B_d.out).below B_f.out).below B_g.out).below B_h.out).below B_i.out) (by omega) _ ha2 (by omega) hp).mono ?_
      rintro e w_m ⟨rv, rfl, hvv, hbb⟩
      obtain ⟨A_m, c_m, rfl, hc_m, hm_m, hr⟩ := hvv.slice
      have O_m := Lib.hid hvv
      have R_m := Lib.hid hr
      have B_m := Lib.hid hbb
      clear hvv hbb hr
      go_wp2_with fail
      refine (refPart_yesI rfl _ (((((((((R0.out.below B_a.out).below B_b.out).below B_c.out).below B_d.out).below B_f.out).below B_g.out).below B_h.out).below B_i.out).below B_m.out) _ ha2 (by omega) hp).mono ?_
      rintro e w_n ⟨rv, rfl, hvv, hbb⟩
      obtain ⟨A_n, c_n, rfl, hc_n, hm_n, hr⟩ := hvv.slice
      have O_n := Lib.hid hvv
      have R_n := Lib.hid hr
      have B_n := Lib.hid hbb
      clear hvv hbb hr
      go_wp2_with fail
      refine (sameBytes_any (xs := []) (ys := []) rfl rfl _ _ (by exact Rd.nil _ _) (by exact Rd.nil _ _)).mono ?_
      rintro e w' ⟨rfl, rfl⟩
      go_wp2_with fail
      refine (sameBytes_any (by simp) (by simp) _ _ (R_m.out.below B_n.out) R_n.out).mono ?_
      rintro e w' ⟨rfl, rfl⟩
      go_wp2_with fail
      refine (refCmp_any rfl rfl _ _ ((((((((((R0.out.below B_a.out).below B_b.out).below B_c.out).below B_d.out).below B_f.out).below B_g.out).below B_h.out).below B_i.out).below B_m.out).below B_n.out) ((((((((((R1.out.below B_a.out).below B_b.out).below B_c.out).below B_d.out).below B_f.out).below B_g.out).below B_h.out).below B_i.out).below B_m.out).below B_n.out) (by omega) (by omega)).mono ?_
      rintro e w' ⟨rfl, q, rfl⟩
      go_wp2_with fail
      refine (cmp_any rfl rfl _ _ ((((((((((R_a.out.below B_b.out).below B_c.out).below B_d.out).below B_f.out).below B_g.out).below B_h.out).below B_i.out).below B_m.out).below B_n.out).drewN _) (((((((((R_b.out.below B_c.out).below B_d.out).below B_f.out).below B_g.out).below B_h.out).below B_i.out).below B_m.out).below B_n.out).drewN _)).mono ?_
      rintro e w' ⟨rfl, rfl⟩
      go_wp2_with fail
      refine (same_any rfl rfl _ _ ((((((((((R_a.out.below B_b.out).below B_c.out).below B_d.out).below B_f.out).below B_g.out).below B_h.out).below B_i.out).below B_m.out).below B_n.out).drewN _) (((((((((R_b.out.below B_c.out).below B_d.out).below B_f.out).below B_g.out).below B_h.out).below B_i.out).below B_m.out).below B_n.out).drewN _)).mono ?_
      rintro e w' ⟨rfl, rfl⟩
      go_wp2_with fail
      refine (kept_any rfl _ (by omega) ((((((((((L_a.out.below B_b.out).below B_c.out).below B_d.out).below B_f.out).below B_g.out).below B_h.out).below B_i.out).below B_m.out).below B_n.out).drewN _) (((((((((((R0.out.below B_a.out).below B_b.out).below B_c.out).below B_d.out).below B_f.out).below B_g.out).below B_h.out).below B_i.out).below B_m.out).below B_n.out).drewN _)).mono ?_
      rintro e w' ⟨rfl, rfl⟩
      go_wp2_with fail
      refine (kept_any rfl _ (by omega) (((((((((L_b.out.below B_c.out).below B_d.out).below B_f.out).below B_g.out).below B_h.out).below B_i.out).below B_m.out).below B_n.out).drewN _) (((((((((((R1.out.below B_a.out).below B_b.out).below B_c.out).below B_d.out).below B_f.out).below B_g.out).below B_h.out).below B_i.out).below B_m.out).below B_n.out).drewN _)).mono ?_
      rintro e w' ⟨rfl, rfl⟩
      go_wp2_with fail
      refine (awake01_any _).mono ?_
      rintro e w_z2 ⟨rfl, hbb⟩
      have B_z2 := Lib.hid hbb
      clear hbb
      go_wp2_with fail
      go_ret
      exact ⟨rfl, (bthen (bdrewN (bthen (bthen (bthen (bthen (bthen (bthen (bthen (bthen (bthen (bthen (Below.refl _ _) B_a.out) B_b.out) B_c.out) B_d.out) B_f.out) B_g.out) B_h.out) B_i.out) B_m.out) B_n.out) _) B_z2.out)⟩
  · have hl1 : l1.length ≤ 65535 := by omega
    clear hlong
    refine (addPart_any (rfl : l0.length = l0.length) _ (((((((R_a.out.below B_b.out).below B_c.out).below B_d.out).below B_f.out).below B_g.out).below B_h.out).below B_i.out) (rfl : l1.length = l1.length) _ ((((((R_b.out.below B_c.out).below B_d.out).below B_f.out).below B_g.out).below B_h.out).below B_i.out) hl1 (by omega)).mono ?_
    rintro e w_j ⟨rv, rfl, hvv, hbb⟩
    obtain ⟨A_j, c_j, rfl, hc_j, hm_j, hr⟩ := hvv.slice
    have O_j := Lib.hid hvv
    have R_j := Lib.hid hr
    have B_j := Lib.hid hbb
    clear hvv hbb hr
    go_wp2_with fail
    refine (refAddPart_any (rfl : l0.length = l0.length) _ (((((((((R0.out.below B_a.out).below B_b.out).below B_c.out).below B_d.out).below B_f.out).below B_g.out).below B_h.out).below B_i.out).below B_j.out) (rfl : l1.length = l1.length) _ (((((((((R1.out.below B_a.out).below B_b.out).below B_c.out).below B_d.out).below B_f.out).below B_g.out).below B_h.out).below B_i.out).below B_j.out) hl1 (by omega)).mono ?_
    rintro e w_k ⟨rv, rfl, hvv, hbb⟩
    obtain ⟨A_k, c_k, rfl, hc_k, hm_k, hr⟩ := hvv.slice
    have O_k := Lib.hid hvv
    have R_k := Lib.hid hr
    have B_k := Lib.hid hbb
    clear hvv hbb hr
    go_wp2_with fail
    by_cases hp : partOk l0 a2 = false
    · skip
      refine (part_no rfl _ (((((((((R_a.out.below B_b.out).below B_c.out).below B_d.out).below B_f.out).below B_g.out).below B_h.out).below B_i.out).below B_j.out).below B_k.out) _ (by omega) hp).mono ?_
      rintro e w' ⟨rfl, rfl⟩
      go_wp2_with fail
      refine (refPart_no rfl _ ((((((((((R0.out.below B_a.out).below B_b.out).below B_c.out).below B_d.out).below B_f.out).below B_g.out).below B_h.out).below B_i.out).below B_j.out).below B_k.out) _ (by omega) hp).mono ?_
      rintro e w' ⟨rfl, rfl⟩
      go_wp2_with fail
      refine (sameBytes_any (by simp) (by simp) _ _ (R_j.out.below B_k.out) R_k.out).mono ?_
      rintro e w' ⟨rfl, rfl⟩
      go_wp2_with fail
      refine (sameBytes_any (xs := []) (ys := []) rfl rfl _ _ (by exact Rd.nil _ _) (by exact Rd.nil _ _)).mono ?_
      rintro e w' ⟨rfl, rfl⟩
      go_wp2_with fail
      refine (refCmp_any rfl rfl _ _ ((((((((((R0.out.below B_a.out).below B_b.out).below B_c.out).below B_d.out).below B_f.out).below B_g.out).below B_h.out).below B_i.out).below B_j.out).below B_k.out) ((((((((((R1.out.below B_a.out).below B_b.out).below B_c.out).below B_d.out).below B_f.out).below B_g.out).below B_h.out).below B_i.out).below B_j.out).below B_k.out) (by omega) (by omega)).mono ?_
      rintro e w' ⟨rfl, q, rfl⟩
      go_wp2_with fail
      refine (cmp_any rfl rfl _ _ ((((((((((R_a.out.below B_b.out).below B_c.out).below B_d.out).below B_f.out).below B_g.out).below B_h.out).below B_i.out).below B_j.out).below B_k.out).drewN _) (((((((((R_b.out.below B_c.out).below B_d.out).below B_f.out).below B_g.out).below B_h.out).below B_i.out).below B_j.out).below B_k.out).drewN _)).mono ?_
      rintro e w' ⟨rfl, rfl⟩
      go_wp2_with fail
      refine (same_any rfl rfl _ _ ((((((((((R_a.out.below B_b.out).below B_c.out).below B_d.out).below B_f.out).below B_g.out).below B_h.out).below B_i.out).below B_j.out).below B_k.out).drewN _) (((((((((R_b.out.below B_c.out).below B_d.out).below B_f.out).below B_g.out).below B_h.out).below B_i.out).below B_j.out).below B_k.out).drewN _)).mono ?_
      rintro e w' ⟨rfl, rfl⟩
      go_wp2_with fail
      refine (kept_any rfl _ (by omega) ((((((((((L_a.out.below B_b.out).below B_c.out).below B_d.out).below B_f.out).below B_g.out).below B_h.out).below B_i.out).below B_j.out).below B_k.out).drewN _) (((((((((((R0.out.below B_a.out).below B_b.out).below B_c.out).below B_d.out).below B_f.out).below B_g.out).below B_h.out).below B_i.out).below B_j.out).below B_k.out).drewN _)).mono ?_
      rintro e w' ⟨rfl, rfl⟩
      go_wp2_with fail
      refine (kept_any rfl _ (by omega) (((((((((L_b.out.below B_c.out).below B_d.out).below B_f.out).below B_g.out).below B_h.out).below B_i.out).below B_j.out).below B_k.out).drewN _) (((((((((((R1.out.below B_a.out).below B_b.out).below B_c.out).below B_d.out).below B_f.out).below B_g.out).below B_h.out).below B_i.out).below B_j.out).below B_k.out).drewN _)).mono ?_
      rintro e w' ⟨rfl, rfl⟩
      go_wp2_with fail
      refine (awake01_any _).mono ?_
      rintro e w_z3 ⟨rfl, hbb⟩
      have B_z3 := Lib.hid hbb
      clear hbb
      go_wp2_with fail
      go_ret
      exact ⟨rfl, (bthen (bdrewN (bthen (bthen (bthen (bthen (bthen (bthen (bthen (bthen (bthen (bthen (Below.refl _ _) B_a.out) B_b.out) B_c.out) B_d.out) B_f.out) B_g.out) B_h.out) B_i.out) B_j.out) B_k.out) _) B_z3.out)⟩
    · replace hp : partOk l0 a2 = true := by simpa using hp
      have ha2 : 0 ≤ a2 := by have := hp; simp [partOk, numOk] at this; omega
      refine (part_yesI rfl _ (((((((((R_a.out.below B_b.out).below B_c.out).below B_d.out).below B_f.out).below B_g.out).below B_h.out).below B_i.out).below B_j.out).below B_k.out) (by omega) _ ha2 (by omega) hp).mono ?_
      rintro e w_m ⟨rv, rfl, hvv, hbb⟩
      obtain ⟨A_m, c_m, rfl, hc_m, hm_m, hr⟩ := hvv.slice
      have O_m := Lib.hid hvv
      have R_m := Lib.hid hr
      have B_m := Lib.hid hbb
      clear hvv hbb hr
      go_wp2_with fail
      refine (refPart_yesI rfl _ (((((((((((R0.out.below B_a.out).below B_b.out).below B_c.out).below B_d.out).below B_f.out).below B_g.out).below B_h.out).below B_i.out).below B_j.out).below B_k.out).below B_m.out) _ ha2 (by omega) hp).mono ?_
      rintro e w_n ⟨rv, rfl, hvv, hbb⟩
      obtain ⟨A_n, c_n, rfl, hc_n, hm_n, hr⟩ := hvv.slice
      have O_n := Lib.hid hvv
      have R_n := Lib.hid hr
      have B_n := Lib.hid hbb
      clear hvv hbb hr
      go_wp2_with fail
      refine (sameBytes_any (by simp) (by simp) _ _ (((R_j.out.below B_k.out).below B_m.out).below B_n.out) ((R_k.out.below B_m.out).below B_n.out)).mono ?_
      rintro e w' ⟨rfl, rfl⟩
      go_wp2_with fail
      refine (sameBytes_any (by simp) (by simp) _ _ (R_m.out.below B_n.out) R_n.out).mono ?_
      rintro e w' ⟨rfl, rfl⟩
      go_wp2_with fail
      refine (refCmp_any rfl rfl _ _ ((((((((((((R0.out.below B_a.out).below B_b.out).below B_c.out).below B_d.out).below B_f.out).below B_g.out).below B_h.out).below B_i.out).below B_j.out).below B_k.out).below B_m.out).below B_n.out) ((((((((((((R1.out.below B_a.out).below B_b.out).below B_c.out).below B_d.out).below B_f.out).below B_g.out).below B_h.out).below B_i.out).below B_j.out).below B_k.out).below B_m.out).below B_n.out) (by omega) (by omega)).mono ?_
      rintro e w' ⟨rfl, q, rfl⟩
      go_wp2_with fail
      refine (cmp_any rfl rfl _ _ ((((((((((((R_a.out.below B_b.out).below B_c.out).below B_d.out).below B_f.out).below B_g.out).below B_h.out).below B_i.out).below B_j.out).below B_k.out).below B_m.out).below B_n.out).drewN _) (((((((((((R_b.out.below B_c.out).below B_d.out).below B_f.out).below B_g.out).below B_h.out).below B_i.out).below B_j.out).below B_k.out).below B_m.out).below B_n.out).drewN _)).mono ?_
      rintro e w' ⟨rfl, rfl⟩
      go_wp2_with fail
      refine (same_any rfl rfl _ _ ((((((((((((R_a.out.below B_b.out).below B_c.out).below B_d.out).below B_f.out).below B_g.out).below B_h.out).below B_i.out).below B_j.out).below B_k.out).below B_m.out).below B_n.out).drewN _) (((((((((((R_b.out.below B_c.out).below B_d.out).below B_f.out).below B_g.out).below B_h.out).below B_i.out).below B_j.out).below B_k.out).below B_m.out).below B_n.out).drewN _)).mono ?_
      rintro e w' ⟨rfl, rfl⟩
      go_wp2_with fail
      refine (kept_any rfl _ (by omega) ((((((((((((L_a.out.below B_b.out).below B_c.out).below B_d.out).below B_f.out).below B_g.out).below B_h.out).below B_i.out).below B_j.out).below B_k.out).below B_m.out).below B_n.out).drewN _) (((((((((((((R0.out.below B_a.out).below B_b.out).below B_c.out).below B_d.out).below B_f.out).below B_g.out).below B_h.out).below B_i.out).below B_j.out).below B_k.out).below B_m.out).below B_n.out).drewN _)).mono ?_
      rintro e w' ⟨rfl, rfl⟩
      go_wp2_with fail
      refine (kept_any rfl _ (by omega) (((((((((((L_b.out.below B_c.out).below B_d.out).below B_f.out).below B_g.out).below B_h.out).below B_i.out).below B_j.out).below B_k.out).below B_m.out).below B_n.out).drewN _) (((((((((((((R1.out.below B_a.out).below B_b.out).below B_c.out).below B_d.out).below B_f.out).below B_g.out).below B_h.out).below B_i.out).below B_j.out).below B_k.out).below B_m.out).below B_n.out).drewN _)).mono ?_
      rintro e w' ⟨rfl, rfl⟩
      go_wp2_with fail
      refine (awake01_any _).mono ?_
      rintro e w_z4 ⟨rfl, hbb⟩
      have B_z4 := Lib.hid hbb
      clear hbb
      go_wp2_with fail
      go_ret
      exact ⟨rfl, (bthen (bdrewN (bthen (bthen (bthen (bthen (bthen (bthen (bthen (bthen (bthen (bthen (bthen (bthen (Below.refl _ _) B_a.out) B_b.out) B_c.out) B_d.out) B_f.out) B_g.out) B_h.out) B_i.out) B_j.out) B_k.out) B_m.out) B_n.out) _) B_z4.out)⟩
end Go.Proofs.Ytjenedfpjpiknaa.Y
