/-
  The walk of ChangeAlong.
-/
import Derived.Test.YtobnomlbkhkodaaCD
set_option linter.unusedVariables false
set_option linter.unusedSimpArgs false
namespace Go.Proofs.Ytobnomlbkhkodaa.Y
open Go.RowKit

set_option maxHeartbeats 6400000 in
set_option maxRecDepth 100000 in
theorem changeAlong_walk (a0 : Int) (A1 : Option Addr) (c1 : Nat) (l1 : List Int) (A2 : Option Addr) (c2 : Nat) (l2 : List Int) (w : World)
    (w0 : (Lit.int .i64 a0).wf = true) (r1 : RdI w A1 l1) (i1 : Ints l1) (h1 : l1.length ≤ c1) (m1 : c1 ≤ maxLen) (y1 : l1.length ≤ 17592186043904) (r2 : RdI w A2 l2) (i2 : Ints l2) (h2 : l2.length ≤ c2) (m2 : c2 ≤ maxLen) (y2 : l2.length ≤ 17592186043904) :
    Calls Try.prog 6 #[.int .i64 a0, .slice A1 l1.length c1, .slice A2 l2.length c2] w fun e w' => e = .returned (.bool true) ∧ Below w.heap.size w w' := by
  obtain ⟨l, hl⟩ : ∃ l, l = l2.length := ⟨_, rfl⟩
  rw [← hl] at h2 y2 ⊢
  have HL := Lib.hid hl.symm
  have HA := Lib.hid r2
  have HI := Lib.hid i2
  have R1 := Lib.hid r1
  have I1 := Lib.hid i1
  clear hl r2 i2 r1 i1
  have eqs := eqB_self
  go_enter Try.func6, Try.ntmps6
  go_wp2_with fail
  refine (pages_any a0 rfl c1 R1.out I1.out (Nat.le_trans y1 (by decide)) (wf_i64 w0).1 (wf_i64 w0).2).mono ?_
  rintro e w_p ⟨X, Y, u, v, rfl, hX, hY, hu, ⟨wm, hm1, hm2, hm3, hv⟩, hbb⟩
  obtain ⟨A_x, c_x, rfl, hc_x, _, hr⟩ := hu.sliceN hX
  have R_x := Lib.hid hr
  have O_x := Lib.hid hu
  clear hr
  obtain ⟨A_y, c_y, rfl, hc_y, _, hr⟩ := hv.sliceN hY
  have R_y := Lib.hid hr
  have O_y := Lib.hid (hv.mono (B' := w.heap.size) hm1.size)
  have HXl := Lib.hid hX
  have HYl := Lib.hid hY
  have B_p := Lib.hid hbb
  clear hX hY hu hm1 hm2 hm3 hv hbb hr
  go_wp2_with fail
  refine (copyBytes_any HYl.out _ R_y.out (by decide)).mono ?_
  rintro e w2 ⟨v, rfl, hv, hb2⟩
  obtain ⟨g, c1', rfl, hgB, _, hc_z, _⟩ := hv.formN HYl.out (by decide)
  have OY := Lib.hid hv
  have BY := Lib.hid hb2
  clear hv hb2
  go_wp2_with fail
  obtain ⟨Y0, rfl⟩ : ∃ Y0, Y0 = Y := ⟨_, rfl⟩
  go_loopw [10] (fun i wr => ∃ k : Nat, k ≤ l ∧ k ≤ 200 ∧ i = .int .i64 k ∧ ∃ Y, Hid (Y.length = 4080) ∧ Hid (Own wr w_p.heap.size (.slice (some ⟨g, 0, none⟩) 4080 c1') Y) ∧ Hid (Below w_p.heap.size w_p wr)) (fun i _ => l - (intOf i).toNat)
  case atStart => exact ⟨0, Nat.zero_le _, by omega, rfl, _, HYl, OY, BY⟩
  case round =>
    obtain ⟨k, hk, hk2, rfl, Y, hYl, hY, hb⟩ := hrel
    by_cases hlt : k < l ∧ k < 200
    · obtain ⟨hlt, hlt2⟩ := hlt
      obtain ⟨gt, ot, rfl, c2⟩ := (HA.out.below (B_p.out.trans (hb.out.mono B_p.out.size))).at_ (j := k) (by rw [HL.out]; exact hlt)
      have hz := HI.out _ (List.getElem_mem (l := l2) (n := k) (by rw [HL.out]; exact hlt))
      generalize l2[k]'(by rw [HL.out]; exact hlt) = z at c2 hz
      obtain ⟨N, hN⟩ := Int.eq_ofNat_of_zero_le (Int.emod_nonneg z (by decide : ((1000003 : Nat) : Int) ≠ 0))
      have hN2 : N < 1000003 := by have := Int.emod_lt_of_pos z (by decide : (0 : Int) < ((1000003 : Nat) : Int)); omega
      obtain ⟨q, hq⟩ := Int.eq_ofNat_of_zero_le (Int.emod_nonneg (N : Int) (by decide : (4080 : Int) ≠ 0))
      have hq2 : q < 4080 := by have := Int.emod_lt_of_pos (N : Int) (by decide : (0 : Int) < 4080); omega
      obtain ⟨old, t0⟩ : ∃ u, wr.cell? ⟨g, q, none⟩ = some u := ⟨_, hY.out.cellAt (j := q) (by rw [hYl.out]; exact hq2)⟩
      have f0 := hY.out.frozenAt q
      have hs := Lib.hid (hY.out.storedI q)
      have z0 : (0 : Int) ≤ (q : Int) := by omega
      have z1 : (q : Int) < 4080 := by omega
      have z2 : (0 : Int) ≤ (N : Int) / 4080 := by omega
      have z3 : (N : Int) / 4080 < 256 := by omega
      have kk : (k : Int) < 200 := by omega
      have HN := Lib.hid hN
      clear hN
      go_wp2_with (go_at_call 30; refine (pick_big z 1000003 (by decide) (by decide) (by omega) (by omega)).mono ?_; rintro e w' ⟨rfl, rfl⟩; rw [HN.out])
      have HQ := Lib.hid hq
      clear hq
      go_roundw
      case rel =>
        obtain ⟨x, hx⟩ := hs.out ((N : Int) / 4080) (by omega) (by omega)
        exact ⟨k + 1, by omega, by omega, by go_num, Y.set q x, (List.length_set ..).trans hYl.out, hx, hb.out.setCell (p := ⟨g, q, none⟩) hgB _⟩
      case measure => simp [intOf]; omega
    · have hex : k = l ∨ k = 200 := by omega
      have kk : (l : Int) ≤ (k : Int) ∨ ((k : Int) < (l : Int) ∧ (200 : Int) ≤ (k : Int)) := by omega
      clear hlt
      rcases kk with kk | ⟨kk, kk2⟩
      all_goals
        have R_z := Lib.hid hY.out.rd.1
        obtain ⟨L1, hL1⟩ : ∃ L, L = diffL X Y0 := ⟨_, rfl⟩
        obtain ⟨n1, hn1⟩ : ∃ n, n = L1.length := ⟨_, rfl⟩
        have D1 := Lib.hid hL1
        have N1 := Lib.hid hn1
        have Z1 : n1 ≤ 4081 := by rw [hn1, hL1]; exact diffL_length _ _
        have P1 : Hid (∀ p ∈ L1, Pok p) := by show ∀ p ∈ L1, Pok p; rw [hL1]; exact diffL_pok HYl.out
        have K1 : Hid (okP L1 = true) := by show okP L1 = true; rw [hL1]; exact diffL_ok HYl.out
        have G1 : Hid (layL X L1 = Y0) := by show layL X L1 = Y0; rw [hL1]; exact lay_diff X Y0 HXl.out HYl.out
        clear hL1 hn1
        obtain ⟨L2, hL2⟩ : ∃ L, L = diffL Y0 Y := ⟨_, rfl⟩
        obtain ⟨n2, hn2⟩ : ∃ n, n = L2.length := ⟨_, rfl⟩
        have D2 := Lib.hid hL2
        have N2 := Lib.hid hn2
        have Z2 : n2 ≤ 4081 := by rw [hn2, hL2]; exact diffL_length _ _
        have P2 : Hid (∀ p ∈ L2, Pok p) := by show ∀ p ∈ L2, Pok p; rw [hL2]; exact diffL_pok hYl.out
        have K2 : Hid (okP L2 = true) := by show okP L2 = true; rw [hL2]; exact diffL_ok hYl.out
        have G2 : Hid (layL Y0 L2 = Y) := by show layL Y0 L2 = Y; rw [hL2]; exact lay_diff Y0 Y HYl.out hYl.out
        clear hL2 hn2
        obtain ⟨L3, hL3⟩ : ∃ L, L = diffL Y0 X := ⟨_, rfl⟩
        obtain ⟨n3, hn3⟩ : ∃ n, n = L3.length := ⟨_, rfl⟩
        have D3 := Lib.hid hL3
        have N3 := Lib.hid hn3
        have Z3 : n3 ≤ 4081 := by rw [hn3, hL3]; exact diffL_length _ _
        have P3 : Hid (∀ p ∈ L3, Pok p) := by show ∀ p ∈ L3, Pok p; rw [hL3]; exact diffL_pok HXl.out
        have K3 : Hid (okP L3 = true) := by show okP L3 = true; rw [hL3]; exact diffL_ok HXl.out
        have G3 : Hid (layL Y0 L3 = X) := by show layL Y0 L3 = X; rw [hL3]; exact lay_diff Y0 X HYl.out HXl.out
        clear hL3 hn3
        have G12 : Hid (layL X (L1 ++ L2) = Y) := by show _ = _; rw [layL_append, G1.out, G2.out]
        have K12 := Lib.hid (okP_append K1.out K2.out)
        have P12 : Hid (∀ p ∈ L1 ++ L2, Pok p) := fun p hp => (List.mem_append.1 hp).elim (P1.out p) (P2.out p)
        have hsz : sizeW L1 = sizeW L3 := by rw [D1.out, D3.out]; exact sizeW_diff X Y0 HXl.out HYl.out
        obtain ⟨n12, hn12⟩ : ∃ n, n = (L1 ++ L2).length := ⟨_, rfl⟩
        have N12 := Lib.hid hn12
        have Z12 : n12 ≤ 10000 := by rw [hn12, List.length_append, ← N1.out, ← N2.out]; omega
        clear hn12
        have HSZ := Lib.hid hsz
        clear hsz
        go_wp2_with fail
        refine (diff_any c_x c_y HXl.out HYl.out (R_x.out.below hb.out) (R_y.out.below hb.out) hc_y).mono ?_
        rintro e w_d1 ⟨rv, rfl, hvv, hbb⟩
        rw [← D1.out] at hvv
        obtain ⟨A_d1, c_d1, rfl⟩ := hvv.sliceN N1.out.symm
        have O_d1 := Lib.hid hvv
        have R_d1 := Lib.hid ((hvv.rd P1.out).1)
        have B_d1 := Lib.hid hbb
        clear hvv hbb
        go_wp2_with fail
        refine (diff_any c_y c1' HYl.out hYl.out ((R_y.out.below hb.out).below B_d1.out) (R_z.out.below B_d1.out) hc_z).mono ?_
        rintro e w_d2 ⟨rv, rfl, hvv, hbb⟩
        rw [← D2.out] at hvv
        obtain ⟨A_d2, c_d2, rfl⟩ := hvv.sliceN N2.out.symm
        have O_d2 := Lib.hid hvv
        have R_d2 := Lib.hid ((hvv.rd P2.out).1)
        have B_d2 := Lib.hid hbb
        clear hvv hbb
        go_wp2_with fail
        refine (copyPieces_any N1.out.symm c_d1 (R_d1.out.below B_d2.out) (by omega)).mono ?_
        rintro e w_cp ⟨rv, rfl, hvv, hbb⟩
        obtain ⟨A_cp, c_cp, rfl⟩ := hvv.sliceN N1.out.symm
        have O_cp := Lib.hid hvv
        have B_cp := Lib.hid hbb
        clear hvv hbb
        go_wp2_with (at_builtin; refine wpList_append_pieces rfl (.tmp 67) (.tmp 68) rfl w.heap.size _ L1 L2 rfl (O_cp.out.mono (bthen (bthen (bthen (bthen (Below.refl _ _) B_p.out) hb.out) B_d1.out) B_d2.out).size) rfl ((((O_d2.out.below B_cp.out)).mono (bthen (bthen (bthen (Below.refl _ _) B_p.out) hb.out) B_d1.out).size)) (by rw [← N1.out, ← N2.out]; omega) (bthen (bthen (bthen (bthen (bthen (Below.refl _ _) B_p.out) hb.out) B_d1.out) B_d2.out) B_cp.out).size ?_; intro rv w_ap hvv hg; have B_ap := Lib.hid (B_cp.out.grown hg B_cp.out.size (fun q e => O_cp.out.base q e)); obtain ⟨A_ap, c_ap, rfl⟩ := hvv.sliceN N12.out.symm; have R_ap := Lib.hid ((hvv.rd P12.out).1); clear hvv hg)
        go_wp2_with fail
        refine (apply_ok HXl.out c_x ((((R_x.out.below hb.out).below B_d1.out).below B_d2.out).below B_ap.out) (L := L1 ++ L2) N12.out.symm c_ap R_ap.out (by omega) K12.out).mono ?_
        rintro e w_ax ⟨rv, rfl, hvv, hbb⟩
        rw [G12.out] at hvv
        obtain ⟨A_ax, c_ax, rfl, hc_ax, _, hr⟩ := hvv.sliceN hYl.out
        have O_ax := Lib.hid hvv
        have R_ax := Lib.hid hr
        have B_ax := Lib.hid hbb
        clear hvv hbb hr
        go_wp2_with fail
        refine (diff_any c_y c_x HYl.out HXl.out (((((R_y.out.below hb.out).below B_d1.out).below B_d2.out).below B_ap.out).below B_ax.out) (((((R_x.out.below hb.out).below B_d1.out).below B_d2.out).below B_ap.out).below B_ax.out) hc_x).mono ?_
        rintro e w_d3 ⟨rv, rfl, hvv, hbb⟩
        rw [← D3.out] at hvv
        obtain ⟨A_d3, c_d3, rfl⟩ := hvv.sliceN N3.out.symm
        have O_d3 := Lib.hid hvv
        have R_d3 := Lib.hid ((hvv.rd P3.out).1)
        have B_d3 := Lib.hid hbb
        clear hvv hbb
        go_wp2_with fail
        refine (apply_ok HYl.out c_y ((((((R_y.out.below hb.out).below B_d1.out).below B_d2.out).below B_ap.out).below B_ax.out).below B_d3.out) (L := L3) N3.out.symm c_d3 R_d3.out (by omega) K3.out).mono ?_
        rintro e w_ay ⟨rv, rfl, hvv, hbb⟩
        rw [G3.out] at hvv
        obtain ⟨A_ay, c_ay, rfl, hc_ay, _, hr⟩ := hvv.sliceN HXl.out
        have O_ay := Lib.hid hvv
        have R_ay := Lib.hid hr
        have B_ay := Lib.hid hbb
        clear hvv hbb hr
        go_wp2_with fail
        refine (sameBytes_any hYl.out hYl.out _ _ ((R_ax.out.below B_d3.out).below B_ay.out) ((((((R_z.out.below B_d1.out).below B_d2.out).below B_ap.out).below B_ax.out).below B_d3.out).below B_ay.out)).mono ?_
        rintro e w' ⟨rfl, rfl⟩
        go_wp2_with fail
        refine (sameBytes_any HXl.out HXl.out _ _ R_ay.out (((((((R_x.out.below hb.out).below B_d1.out).below B_d2.out).below B_ap.out).below B_ax.out).below B_d3.out).below B_ay.out)).mono ?_
        rintro e w' ⟨rfl, rfl⟩
        go_wp2_with fail
        refine (size_any N1.out.symm c_d1 (((((R_d1.out.below B_d2.out).below B_ap.out).below B_ax.out).below B_d3.out).below B_ay.out) (by omega)).mono ?_
        rintro e w_s1 ⟨rfl, hbb⟩
        have B_s1 := Lib.hid hbb
        clear hbb
        go_wp2_with fail
        refine (size_any N3.out.symm c_d3 ((R_d3.out.below B_ay.out).below B_s1.out) (by omega)).mono ?_
        rintro e w_s2 ⟨rfl, hbb⟩
        have B_s2 := Lib.hid hbb
        clear hbb
        rw [HSZ.out]
        go_wp2_with fail
        refine (awake08_any _).mono ?_
        rintro e w_aw ⟨rfl, hbb⟩
        have B_aw := Lib.hid hbb
        clear hbb
        go_wp2_with fail
        go_ret
        exact ⟨rfl, (bthen (bthen (bthen (bthen (bthen (bthen (bthen (bthen (bthen (bthen (bthen (Below.refl _ _) B_p.out) hb.out) B_d1.out) B_d2.out) B_ap.out) B_ax.out) B_d3.out) B_ay.out) B_s1.out) B_s2.out) B_aw.out)⟩
end Go.Proofs.Ytobnomlbkhkodaa.Y
