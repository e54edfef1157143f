/-
  The walk of OctetsOrder.
-/
import Derived.Test.YtjenedfpjpiknaaL1
import Derived.Deep.DeepCutAuto
import Derived.Outline
set_option linter.unusedVariables false
set_option linter.unusedSimpArgs false
namespace Go.Proofs.Ytjenedfpjpiknaa.Y
open Go.RowKit

theorem cmpB_trans_ge {xs ys zs : List UInt8} (h1 : 0 ≤ cmpB xs ys) (h2 : 0 ≤ cmpB ys zs) : 0 ≤ cmpB xs zs := by
  have e1 := cmpB_neg xs ys
  have e2 := cmpB_neg ys zs
  have e3 := cmpB_neg xs zs
  have := cmpB_trans_le (xs := zs) (ys := ys) (zs := xs) (by omega) (by omega)
  omega

set_option maxHeartbeats 4000000 in
set_option maxRecDepth 100000 in
theorem octetsOrder_walk (A0 : Option Addr) (c0 : Nat) (l0 : List UInt8) (A1 : Option Addr) (c1 : Nat) (l1 : List UInt8) (A2 : Option Addr) (c2 : Nat) (l2 : List UInt8) (w : World)
    (r0 : Rd w A0 l0) (h0 : l0.length ≤ c0) (m0 : c0 ≤ maxLen) (y0 : l0.length ≤ 1048576) (r1 : Rd w A1 l1) (h1 : l1.length ≤ c1) (m1 : c1 ≤ maxLen) (y1 : l1.length ≤ 1048576) (r2 : Rd w A2 l2) (h2 : l2.length ≤ c2) (m2 : c2 ≤ maxLen) (y2 : l2.length ≤ 1048576) :
    Calls Try.prog 3 #[.slice A0 l0.length c0, .slice A1 l1.length c1, .slice A2 l2.length c2] w fun e w' => e = .returned (.bool true) ∧ Below w.heap.size w w' := by
  have HP := Lib.hid (cmpB_range l0 l1)
  have HQ := Lib.hid (cmpB_range l1 l2)
  have HR := Lib.hid (cmpB_range l0 l2)
  have HN := Lib.hid (cmpB_neg l0 l1)
  have HL := Lib.hid (fun h h' => cmpB_trans_le (xs := l0) (ys := l1) (zs := l2) h h')
  have HG := Lib.hid (fun h h' => cmpB_trans_ge (xs := l0) (ys := l1) (zs := l2) h h')
  have HE := Lib.hid (cmpB_zero (xs := l0) (ys := l1))
  have HS := Lib.hid (cmpB_append_same l0 l1 l2)
  have HX := Lib.hid (cmpB_prefix l0 l2)
  have R0 := Lib.hid r0
  have R1 := Lib.hid r1
  have R2 := Lib.hid r2
  have HB : Hid (eqB l0 l1 = decide (cmpB l0 l1 = 0)) := by
    show _ = _
    rw [Bool.eq_iff_iff, eqB_iff, decide_eq_true_iff]
    exact cmpB_zero.symm
  clear r0 r1 r2 h0 h1 h2 m0 m1 m2
  go_enter Try.func3, Try.ntmps3
  go_wp2_with fail
  refine (cmp_any rfl rfl _ _ R0.out R1.out).mono ?_
  rintro e w' ⟨rfl, rfl⟩
  go_wp2_with fail
  refine (cmp_any rfl rfl _ _ R1.out R0.out).mono ?_
  rintro e w' ⟨rfl, rfl⟩
  rw [HN.out]
  go_wp2_with fail
  refine (cmp_any rfl rfl _ _ R1.out R2.out).mono ?_
  rintro e w' ⟨rfl, rfl⟩
  go_wp2_with fail
  refine (cmp_any rfl rfl _ _ R0.out R2.out).mono ?_
  rintro e w' ⟨rfl, rfl⟩
  generalize cmpB l0 l1 = p at *
  generalize cmpB l1 l2 = q at *
  generalize cmpB l0 l2 = r at *
  go_upto_region 2 with fail
  go_cut [74] (fun s wx => s = .bool false ∧ wx = w)
  case first =>
    rcases HP.out with rfl | rfl | rfl <;> rcases HQ.out with rfl | rfl | rfl <;> rcases HR.out with rfl | rfl | rfl
    all_goals first
      | (exfalso; have a := HL.out; have b := HG.out; omega)
      | ((first | have he : eqB l0 l1 = false := HB.out.trans (by decide) | have he : eqB l0 l1 = true := HB.out.trans (by decide))
         clear HP HQ HR HN HL HG HE HS HX HB
         go_wp2_with (first | (go_at_call 15; refine (same_any rfl rfl _ _ R0.out R1.out).mono ?_; rintro e w' ⟨rfl, rfl⟩) | (go_at_call 16; refine (sameBytes_any rfl rfl _ _ R0.out R1.out).mono ?_; rintro e w' ⟨rfl, rfl⟩))
         go_meet
         exact ⟨rfl, rfl⟩)
  case rest =>
    obtain ⟨rfl, rfl⟩ := hcut
    clear HP HQ HR HN HL HG HE HB
    go_upto_region 4 with fail
    go_cut [92] (fun s wx => s = .bool false ∧ Below wc.heap.size wc wx)
    case first =>
      by_cases hlen : l0.length = l1.length
      · have e1 : ((l0.length : Int) == (l1.length : Int)) = true := by rw [beq_iff_eq]; omega
        have e2 : (l0.length == l1.length) = true := by rw [beq_iff_eq]; exact hlen
        have HLN := Lib.hid hlen
        clear hlen
        go_wp2_with fail
        refine (copyBytes_any rfl _ R0.out (by omega)).mono ?_
        rintro e w1 ⟨v, rfl, hv, hb⟩
        have V1 := Lib.hid hv
        have B1 := Lib.hid hb
        clear hv hb
        go_wp2_with (at_builtin; refine wpList_append_bytes (by rfl) (.tmp 82) (.tmp 83) 22 rfl wc.heap.size Try.underlying22 info_u8 v l0 l2 rfl V1.out A2 l2.length c2 rfl rfl (R2.out.below B1.out) (by omega) B1.out.size ?_; intro v2 w2 hv2 hg2 _ _; obtain ⟨A3, c3, rfl, _, _, hR3⟩ := hv2.slice; have B2 := Lib.hid (B1.out.grown hg2 B1.out.size (Own.base V1.out)); have R3 := Lib.hid hR3; clear hv2 hg2 hR3)
        refine (copyBytes_any rfl _ (R1.out.below B2.out) (by omega)).mono ?_
        rintro e w3 ⟨v, rfl, hv, hb⟩
        have V3 := Lib.hid hv
        have B3 := Lib.hid (bthen B2.out hb)
        have B23 := Lib.hid hb
        clear hv hb
        go_wp2_with (at_builtin; refine wpList_append_bytes (by rfl) (.tmp 86) (.tmp 87) 22 rfl wc.heap.size Try.underlying22 info_u8 v l1 l2 rfl (V3.out.mono B2.out.size) A2 l2.length c2 rfl rfl (R2.out.below B3.out) (by omega) B3.out.size ?_; intro v4 w4 hv4 hg4 _ _; obtain ⟨A5, c5, rfl, _, _, hR5⟩ := hv4.slice; have B4 := Lib.hid (B3.out.grown hg4 B3.out.size (Own.base (V3.out.mono B2.out.size))); have R3' := Lib.hid (R3.out.below (B23.out.grown hg4 B23.out.size (Own.base V3.out))); have R5 := Lib.hid hR5; clear hv4 hg4 hR5)
        refine (cmp_any (by simp) (by simp) _ _ R3'.out R5.out).mono ?_
        rintro e w' ⟨rfl, rfl⟩
        rw [HS.out HLN.out]
        go_wp2_with fail
        go_meet
        exact ⟨rfl, B4.out⟩
      · have e1 : ((l0.length : Int) == (l1.length : Int)) = false := by rw [beq_eq_false_iff_ne]; omega
        have e2 : (l0.length == l1.length) = false := by rw [beq_eq_false_iff_ne]; exact hlen
        clear hlen
        go_wp2_with fail
        go_meet
        exact ⟨rfl, Below.refl _ _⟩
    case rest =>
      obtain ⟨rfl, hbc⟩ := hcut
      have BC := Lib.hid hbc
      clear hbc HS
      go_wp2_with fail
      refine (copyBytes_any rfl _ (R0.out.below BC.out) (by omega)).mono ?_
      rintro e w1 ⟨v, rfl, hv, hb⟩
      have V1 := Lib.hid hv
      have B1 := Lib.hid hb
      have BW := Lib.hid (bthen BC.out hb)
      clear hv hb
      go_wp2_with (at_builtin; refine wpList_append_bytes (by rfl) (.tmp 95) (.tmp 96) 22 rfl wc.heap.size Try.underlying22 info_u8 v l0 l2 rfl V1.out A2 l2.length c2 rfl rfl (R2.out.below BW.out) (by omega) B1.out.size ?_; intro v2 w2 hv2 hg2 _ _; obtain ⟨A3, c3, rfl, _, _, hR3⟩ := hv2.slice; have B2 := Lib.hid (B1.out.grown hg2 B1.out.size (Own.base V1.out)); have R3 := Lib.hid hR3; clear hv2 hg2 hR3)
      refine (cmp_any rfl (by simp) _ _ (R0.out.below (bthen BC.out B2.out)) R3.out).mono ?_
      rintro e w' ⟨rfl, rfl⟩
      rw [HX.out]
      by_cases hl2 : l2 = []
      · subst hl2
        go_wp2_with fail
        refine (awake01_any _).mono ?_
        rintro e w3 ⟨rfl, hb3⟩
        go_wp2_with fail
        go_ret
        exact ⟨rfl, bthen (bthen BC.out B2.out) hb3⟩
      · rw [if_neg hl2]
        have hlp : 1 ≤ (l2.length : Int) := by have := List.length_pos_iff.2 hl2; omega
        clear hl2
        go_wp2_with fail
        all_goals
          refine (awake01_any _).mono ?_
          rintro e w3 ⟨rfl, hb3⟩
          go_wp2_with fail
          go_ret
          exact ⟨rfl, bthen (bthen BC.out B2.out) hb3⟩
end Go.Proofs.Ytjenedfpjpiknaa.Y
