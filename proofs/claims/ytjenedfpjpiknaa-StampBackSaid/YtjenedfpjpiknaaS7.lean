/-
  The walk of StampBack.
-/
import Derived.Test.YtjenedfpjpiknaaS6
set_option linter.unusedVariables false
set_option linter.unusedSimpArgs false
namespace Go.Proofs.Ytjenedfpjpiknaa.Y
open Go.RowKit

set_option maxHeartbeats 4000000 in
set_option maxRecDepth 100000 in
theorem stampBack_walk (A0 : Option Addr) (c0 : Nat) (l0 : List UInt8) (a1 : Int) (a2 : Int) (w : World)
    (r0 : Rd w A0 l0) (h0 : l0.length ≤ c0) (m0 : c0 ≤ maxLen) (y0 : l0.length ≤ 140737488351232) (w1 : (Lit.int .u32 a1).wf = true) (w2 : (Lit.int .u32 a2).wf = true) :
    Calls Try.prog 8 #[.slice A0 l0.length c0, .int .u32 a1, .int .u32 a2] w fun e w' => e = .returned (.bool true) ∧ Below w.heap.size w w' := by
  have R0 := Lib.hid r0
  obtain ⟨e, rfl⟩ := Int.eq_ofNat_of_zero_le (wf_u32 w1).1
  obtain ⟨c, rfl⟩ := Int.eq_ofNat_of_zero_le (wf_u32 w2).1
  have hw1 := wf_u32 w1
  have hw2 := wf_u32 w2
  clear r0 m0 w1 w2
  by_cases hlong : 4080 < l0.length
  · go_enter Try.func8, Try.ntmps8
    go_wp2_with fail
    refine (seal_long 1 hlong (by omega)).mono ?_
    rintro e w' ⟨rfl, rfl⟩
    go_wp2_with fail
    refine (awake04_any _).mono ?_
    rintro e w3 ⟨rfl, hb3⟩
    go_wp2_with fail
    go_ret
    exact ⟨rfl, hb3⟩
  · have hl0 : l0.length ≤ 4080 := by omega
    clear hlong
    have HL := Lib.hid hl0
    obtain ⟨N, hN⟩ : ∃ N, N = ofB e c := ⟨_, rfl⟩
    have hNv : N = e * 4294967296 + c := by rw [hN]; unfold ofB; omega
    have hlt : Hid (N < 18446744073709551616) := by show N < _; omega
    have hd1 : N / 4294967296 = e := by omega
    have hd2 : N % 4294967296 = c := by omega
    have HN := Lib.hid hN.symm
    have HD := Lib.hid (And.intro hd1 hd2)
    have hsl := Lib.hid (sealB_len N hl0)
    have hpl : Hid ((l0 ++ zeros (4080 - l0.length)).length = 4080) := by show _ = _; simp; omega
    have hag := Lib.hid (sealB_again N hl0)
    have eqs := eqB_self
    clear hN hNv hd1 hd2
    go_enter Try.func8, Try.ntmps8
    go_wp2_with fail
    refine (of_any (e : Nat) (c : Nat) (by omega) (by omega) (by omega) (by omega)).mono ?_
    rintro e w' ⟨rfl, rfl⟩
    rw [HN.out]
    go_wp2_with fail
    refine (seal_any rfl _ R0.out N HL.out).mono ?_
    rintro e w_b ⟨rv, rfl, hvv, hbb⟩
    obtain ⟨A_b, c_b, rfl, hc_b, hm_b, hr⟩ := hvv.sliceN hsl.out
    have O_b := Lib.hid hvv
    have R_b := Lib.hid hr
    have B_b := Lib.hid hbb
    clear hvv hbb hr
    go_wp2_with fail
    refine (open_seal HL hlt _ R_b.out hc_b).mono ?_
    rintro e w_p ⟨rv, rfl, hvv, hbb⟩
    obtain ⟨A_p, c_p, rfl, hc_p, hm_p, hr⟩ := hvv.sliceN hpl.out
    obtain ⟨b_p, o_p, rfl⟩ := hr.addr (by rw [hpl.out]; decide)
    have O_p := Lib.hid hvv
    have R_p := Lib.hid hr
    have B_p := Lib.hid hbb
    clear hvv hbb hr
    go_wp2_with fail
    refine (parts_any N hlt.out).mono ?_
    rintro e w' ⟨rfl, rfl⟩
    rw [HD.out.1, HD.out.2]
    go_wp2_with fail
    have rt := R_p.out.take l0.length
    rw [List.take_append_of_le_length (Nat.le_refl _), List.take_of_length_le (Nat.le_refl _)] at rt
    refine (sameBytes_any rfl rfl _ _ rt ((R0.out.below B_b.out).below B_p.out)).mono ?_
    rintro e w' ⟨rfl, rfl⟩
    clear rt
    go_wp2_with fail
    go_loop [17] (fun i => ∃ j : Nat, l0.length ≤ j ∧ j ≤ 4080 ∧ i = .int .i64 j) (fun i => 4080 - (intOf i).toNat)
    case atStart => exact ⟨l0.length, Nat.le_refl _, hl0, rfl⟩
    case round =>
      obtain ⟨j, hj0, hj, rfl⟩ := hrel
      by_cases hlt4 : j < 4080
      · have cj := R_p.out.at' j (u := 0) (by rw [List.getElem?_append_right hj0]; unfold zeros; rw [List.getElem?_replicate]; simp; omega)
        go_wp2_with fail
        go_round
        case rel => exact ⟨j + 1, by omega, by omega, by go_num⟩
        case measure => simp [intOf]; omega
      · obtain rfl : j = 4080 := by omega
        go_wp2_with fail
        refine (seal_any hpl.out _ R_p.out N (by decide)).mono ?_
        rintro e w_c ⟨rv, rfl, hvv, hbb⟩
        obtain ⟨A_c, c_c, rfl, hc_c, hm_c, hr⟩ := hvv.sliceN (n := 4096) (by rw [hag.out]; exact hsl.out)
        have O_c := Lib.hid hvv
        have R_c := Lib.hid hr
        have B_c := Lib.hid hbb
        clear hvv hbb hr
        go_wp2_with fail
        have rb := R_c.out
        rw [hag.out] at rb
        refine (sameBytes_any hsl.out hsl.out _ _ ((R_b.out.below B_p.out).below B_c.out) rb).mono ?_
        rintro e w' ⟨rfl, rfl⟩
        clear rb
        go_wp2_with fail
        refine (awake04_any _).mono ?_
        rintro e w_z ⟨rfl, hbb⟩
        have B_z := Lib.hid hbb
        clear hbb
        go_wp2_with fail
        go_ret
        exact ⟨rfl, (bthen (bthen (bthen (bthen (Below.refl _ _) B_b.out) B_p.out) B_c.out) B_z.out)⟩
end Go.Proofs.Ytjenedfpjpiknaa.Y
