/-
  The walk of OctetsBack.
-/
import Derived.Test.YtjenedfpjpiknaaL2
set_option linter.unusedVariables false
set_option linter.unusedSimpArgs false
namespace Go.Proofs.Ytjenedfpjpiknaa.Y
open Go.RowKit

theorem wf_u16 {x : Int} (h : (Lit.int .u16 x).wf = true) : 0 ≤ x ∧ x < 65536 := by
  simp [Lit.wf, IntKind.min, IntKind.max, IntKind.signed, IntKind.bits] at h; omega
theorem wf_u32 {x : Int} (h : (Lit.int .u32 x).wf = true) : 0 ≤ x ∧ x < 4294967296 := by
  simp [Lit.wf, IntKind.min, IntKind.max, IntKind.signed, IntKind.bits] at h; omega
theorem wf_u64 {x : Int} (h : (Lit.int .u64 x).wf = true) : 0 ≤ x ∧ x < 18446744073709551616 := by
  simp [Lit.wf, IntKind.min, IntKind.max, IntKind.signed, IntKind.bits] at h; omega
theorem wf_i64 {x : Int} (h : (Lit.int .i64 x).wf = true) : -9223372036854775808 ≤ x ∧ x ≤ 9223372036854775807 := by
  simp [Lit.wf, IntKind.min, IntKind.max, IntKind.signed, IntKind.bits] at h; omega
theorem leN_leB (v n : Nat) (h : v < 256 ^ n) : leN (leB v n) = v := by
  have H : ∀ n : Nat, leN (leB v n) = v % 256 ^ n := by
    intro n
    induction n with
    | zero => simp [leB, leN, Nat.mod_one]
    | succ n ih =>
      unfold leB
      have e : (UInt8.ofNat (v / 256 ^ n)).toNat = v / 256 ^ n % 256 := UInt8.toNat_ofNat'
      rw [leN_snoc, ih, leB_length, e, Nat.pow_succ]
      exact Nat.mod_mul.symm
  rw [H, Nat.mod_eq_of_lt h]
/-- A number that stands behind 'xs' is read there. -/
theorem numV_at (xs ys zs : List UInt8) (k : Int) (n : Nat) (hk : k = xs.length) (hn : ys.length = n) : numV (xs ++ (ys ++ zs)) k n = leN ys ∧ numOk (xs ++ (ys ++ zs)) k n = true := by
  subst hk
  subst hn
  unfold numV numOk numAt
  have h : (0 : Int) ≤ (xs.length : Int) ∧ (xs.length : Int) + (ys.length : Nat) ≤ ((xs ++ (ys ++ zs)).length : Nat) := by simp; omega
  rw [if_pos h, Int.toNat_natCast]
  exact ⟨by simp, decide_eq_true h⟩
theorem part_at (xs p zs : List UInt8) (k : Int) (hk : k = xs.length) (hp : p.length < 65536) : numV (xs ++ (leB p.length 2 ++ (p ++ zs))) k 2 = p.length ∧ partOk (xs ++ (leB p.length 2 ++ (p ++ zs))) k = true ∧ partV (xs ++ (leB p.length 2 ++ (p ++ zs))) k = p := by
  obtain ⟨h1, h2⟩ := numV_at xs (leB p.length 2) (p ++ zs) k 2 hk (leB_length _ _)
  have h3 : numV (xs ++ (leB p.length 2 ++ (p ++ zs))) k 2 = p.length := by rw [h1, leN_leB _ _ hp]
  refine ⟨h3, ?_, ?_⟩
  · unfold partOk
    rw [h2, h3]
    simp [leB_length]
    omega
  · unfold partV
    rw [h3, hk, Int.toNat_natCast]
    have e : xs ++ (leB p.length 2 ++ (p ++ zs)) = (xs ++ leB p.length 2) ++ (p ++ zs) := by simp
    rw [e, show xs.length + 2 = (xs ++ leB p.length 2).length from by simp [leB_length], List.drop_left]
    simp

set_option maxHeartbeats 4000000 in
set_option maxRecDepth 100000 in
theorem octetsBack_walk (A0 : Option Addr) (c0 : Nat) (l0 : List UInt8) (A1 : Option Addr) (c1 : Nat) (l1 : List UInt8) (A2 : Option Addr) (c2 : Nat) (l2 : List UInt8) (a3 : Int) (a4 : Int) (a5 : Int) (w : World)
    (r0 : Rd w A0 l0) (h0 : l0.length ≤ c0) (m0 : c0 ≤ maxLen) (y0 : l0.length ≤ 140737488351232) (r1 : Rd w A1 l1) (h1 : l1.length ≤ c1) (m1 : c1 ≤ maxLen) (y1 : l1.length ≤ 140737488351232) (r2 : Rd w A2 l2) (h2 : l2.length ≤ c2) (m2 : c2 ≤ maxLen) (y2 : l2.length ≤ 140737488351232) (w3 : (Lit.int .u16 a3).wf = true) (w4 : (Lit.int .u32 a4).wf = true) (w5 : (Lit.int .u64 a5).wf = true) :
    Calls Try.prog 13 #[.slice A0 l0.length c0, .slice A1 l1.length c1, .slice A2 l2.length c2, .int .u16 a3, .int .u32 a4, .int .u64 a5] w fun e w' => e = .returned (.bool true) ∧ Below w.heap.size w w' := by
  have R0 := Lib.hid r0
  have R1 := Lib.hid r1
  have R2 := Lib.hid r2
  obtain ⟨u, rfl⟩ := Int.eq_ofNat_of_zero_le (wf_u16 w3).1
  obtain ⟨v, rfl⟩ := Int.eq_ofNat_of_zero_le (wf_u32 w4).1
  obtain ⟨x, rfl⟩ := Int.eq_ofNat_of_zero_le (wf_u64 w5).1
  have hu := wf_u16 w3
  have hv4 := wf_u32 w4
  have hx := Lib.hid (wf_u64 w5)
  clear r0 r1 r2 h0 h1 h2 m0 m1 m2 w3 w4 w5
  by_cases hlong : 65535 < l1.length ∨ 65535 < l2.length
  · by_cases hl1 : 65535 < l1.length
    · clear hlong
      go_enter Try.func13, Try.ntmps13
      go_wp2_with (go_at_call 18; refine (awake01_any _).mono ?_; rintro e w3 ⟨rfl, hb3⟩)
      go_ret
      exact ⟨rfl, hb3⟩
    · have hl2 : 65535 < l2.length := by omega
      clear hlong
      go_enter Try.func13, Try.ntmps13
      go_wp2_with (go_at_call 18; refine (awake01_any _).mono ?_; rintro e w3 ⟨rfl, hb3⟩)
      go_ret
      exact ⟨rfl, hb3⟩
  · have hl1 : l1.length ≤ 65535 := by omega
    have hl2 : l2.length ≤ 65535 := by omega
    clear hlong
    go_enter Try.func13, Try.ntmps13
    go_wp2_with fail
    refine (add16_any rfl _ R0.out u (by omega) (by omega)).mono ?_
    rintro e w_a ⟨rv, rfl, hvv, hbb⟩
    replace hvv : Own w_a _ rv (l0 ++ leB u 2) := hvv
    obtain ⟨A_a, c_a, rfl, hc_a, hm_a, hr⟩ := hvv.slice
    have O_a := Lib.hid hvv
    have R_a := Lib.hid hr
    have B_a := Lib.hid hbb
    clear hvv hbb hr
    go_wp2_with fail
    refine (add32_any (xs := l0 ++ leB u 2) (by simp) _ R_a.out v (by omega) (by omega)).mono ?_
    rintro e w_b ⟨rv, rfl, hvv, hbb⟩
    replace hvv : Own w_b _ rv (l0 ++ leB u 2 ++ leB v 4) := hvv
    obtain ⟨A_b, c_b, rfl, hc_b, hm_b, hr⟩ := hvv.slice
    have O_b := Lib.hid hvv
    have R_b := Lib.hid hr
    have B_b := Lib.hid hbb
    clear hvv hbb hr
    go_wp2_with fail
    refine (add64_any (xs := l0 ++ leB u 2 ++ leB v 4) (by simp) _ R_b.out x (by omega)).mono ?_
    rintro e w_c ⟨rv, rfl, hvv, hbb⟩
    replace hvv : Own w_c _ rv (l0 ++ leB u 2 ++ leB v 4 ++ leB x 8) := hvv
    obtain ⟨A_c, c_c, rfl, hc_c, hm_c, hr⟩ := hvv.slice
    have O_c := Lib.hid hvv
    have R_c := Lib.hid hr
    have B_c := Lib.hid hbb
    clear hvv hbb hr
    go_wp2_with fail
    refine (addPart_any (xs := (l0 ++ leB u 2 ++ leB v 4 ++ leB x 8)) (by show _ = _; simp) _ R_c.out (rfl : l1.length = l1.length) _ (((R1.out.below B_a.out).below B_b.out).below B_c.out) hl1 (by omega)).mono ?_
    rintro e w_d ⟨rv, rfl, hvv, hbb⟩
    replace hvv : Own w_d _ rv ((l0 ++ leB u 2 ++ leB v 4 ++ leB x 8) ++ leB l1.length 2 ++ l1) := hvv
    obtain ⟨A_d, c_d, rfl, hc_d, hm_d, hr⟩ := hvv.slice
    have O_d := Lib.hid hvv
    have R_d := Lib.hid hr
    have B_d := Lib.hid hbb
    clear hvv hbb hr
    go_wp2_with fail
    refine (addPart_any (xs := ((l0 ++ leB u 2 ++ leB v 4 ++ leB x 8) ++ leB l1.length 2 ++ l1)) (by show _ = _; simp) _ R_d.out (rfl : l2.length = l2.length) _ ((((R2.out.below B_a.out).below B_b.out).below B_c.out).below B_d.out) hl2 (by omega)).mono ?_
    rintro e w_f ⟨rv, rfl, hvv, hbb⟩
    obtain ⟨all, hall⟩ : ∃ all, all = (l0 ++ (leB u 2 ++ (leB v 4 ++ (leB x 8 ++ (leB l1.length 2 ++ (l1 ++ (leB l2.length 2 ++ l2))))))) := ⟨_, rfl⟩
    replace hvv : Own w_f w_d.heap.size rv all := by rw [hall]; simpa [List.append_assoc] using hvv
    have hlen : all.length = l0.length + (2 + (4 + (8 + (2 + (l1.length + (2 + l2.length)))))) := by rw [hall]; simp
    have e1 := numV_at l0 (leB u 2) (leB v 4 ++ (leB x 8 ++ (leB l1.length 2 ++ (l1 ++ (leB l2.length 2 ++ l2))))) l0.length 2 rfl (by simp)
    have e2 := numV_at (l0 ++ leB u 2) (leB v 4) (leB x 8 ++ (leB l1.length 2 ++ (l1 ++ (leB l2.length 2 ++ l2)))) ((l0.length : Int) + 2) 4 (by simp) (by simp)
    have e3 := numV_at (l0 ++ leB u 2 ++ leB v 4) (leB x 8) (leB l1.length 2 ++ (l1 ++ (leB l2.length 2 ++ l2))) ((l0.length : Int) + 6) 8 (by simp) (by simp)
    have e4 := part_at (l0 ++ leB u 2 ++ leB v 4 ++ leB x 8) l1 (leB l2.length 2 ++ l2) ((l0.length : Int) + 14) (by simp) (by omega)
    have e5 := part_at (l0 ++ leB u 2 ++ leB v 4 ++ leB x 8 ++ leB l1.length 2 ++ l1) l2 [] ((l0.length : Int) + 14 + 2 + l1.length) (by simp; omega) (by omega)
    rw [leN_leB u 2 (by omega)] at e1
    rw [leN_leB v 4 (by omega)] at e2
    rw [leN_leB x 8 (by have := hx.out; omega)] at e3
    simp only [List.append_assoc, List.append_nil, ← hall] at e1 e2 e3 e4 e5
    have ht : all.take l0.length = l0 := by rw [hall]; simp
    obtain ⟨A_f, c_f, rfl, hc_f, hm_f, hr⟩ := hvv.slice
    have O_f := Lib.hid hvv
    have R_f := Lib.hid hr
    have B_f := Lib.hid hbb
    have T_f := Lib.hid ht
    have HL := Lib.hid hlen
    clear hvv hbb hr hall ht
    rw [hlen]
    rw [hlen] at hc_f
    clear hlen
    obtain ⟨e1, e1b⟩ := e1
    obtain ⟨e2, e2b⟩ := e2
    obtain ⟨e3, e3b⟩ := e3
    obtain ⟨e4, e4b, e4c⟩ := e4
    obtain ⟨e5, e5b, e5c⟩ := e5
    go_wp2_with fail
    refine (u16_any HL.out _ R_f.out _ (by omega)).mono ?_
    rintro e w' ⟨rfl, rfl⟩
    go_wp2_with fail
    refine (u32_any HL.out _ R_f.out _ (by omega)).mono ?_
    rintro e w' ⟨rfl, rfl⟩
    go_wp2_with fail
    refine (u64_any HL.out _ R_f.out _ (by omega)).mono ?_
    rintro e w' ⟨rfl, rfl⟩
    go_wp2_with fail
    refine (part_yesI HL.out _ R_f.out (by omega) _ (by omega) (by omega) e4b).mono ?_
    rintro e w_g ⟨rv, rfl, hvv, hbb⟩
    rw [e4c] at hvv
    obtain ⟨A_g, c_g, rfl, hc_g, hm_g, hr⟩ := hvv.slice
    have R_g := Lib.hid hr
    have B_g := Lib.hid hbb
    clear hvv hbb hr e4c
    go_wp2_with fail
    refine (part_yesI HL.out _ (R_f.out.below B_g.out) (by omega) _ (by omega) (by omega) e5b).mono ?_
    rintro e w_h ⟨rv, rfl, hvv, hbb⟩
    rw [e5c] at hvv
    obtain ⟨A_h, c_h, rfl, hc_h, hm_h, hr⟩ := hvv.slice
    have R_h := Lib.hid hr
    have B_h := Lib.hid hbb
    clear hvv hbb hr e5c
    have v4 := eqB_self
    have z1 : (l0.length : Int) ≤ c_f := by omega
    have z2 : ((l0.length : Int) + 14 + 2 + l1.length + 2 + l2.length == (l0.length : Int) + (2 + (4 + (8 + (2 + (l1.length + (2 + l2.length))))))) = true := by rw [beq_iff_eq]; omega
    go_wp2_with fail
    refine (same_any rfl rfl _ _ (R_g.out.below B_h.out) (((((((R1.out.below B_a.out).below B_b.out).below B_c.out).below B_d.out).below B_f.out).below B_g.out).below B_h.out)).mono ?_
    rintro e w' ⟨rfl, rfl⟩
    go_wp2_with fail
    refine (same_any rfl rfl _ _ R_h.out (((((((R2.out.below B_a.out).below B_b.out).below B_c.out).below B_d.out).below B_f.out).below B_g.out).below B_h.out)).mono ?_
    rintro e w' ⟨rfl, rfl⟩
    go_wp2_with fail
    have rt := R_f.out.take l0.length
    rw [T_f.out] at rt
    have RT := Lib.hid rt
    clear rt
    refine (same_any rfl rfl _ _ ((RT.out.below B_g.out).below B_h.out) (((((((R0.out.below B_a.out).below B_b.out).below B_c.out).below B_d.out).below B_f.out).below B_g.out).below B_h.out)).mono ?_
    rintro e w' ⟨rfl, rfl⟩
    go_wp2_with fail
    refine (awake01_any _).mono ?_
    rintro e w_z ⟨rfl, hbb⟩
    have B_z := Lib.hid hbb
    clear hbb
    go_wp2_with fail
    go_ret
    exact ⟨rfl, (bthen (bthen (bthen (bthen (bthen (bthen (bthen (bthen (Below.refl _ _) B_a.out) B_b.out) B_c.out) B_d.out) B_f.out) B_g.out) B_h.out) B_z.out)⟩
end Go.Proofs.Ytjenedfpjpiknaa.Y
