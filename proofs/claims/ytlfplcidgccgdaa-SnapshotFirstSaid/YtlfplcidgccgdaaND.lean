/-
  SnapshotFirst's walk.
-/
import Derived.Test.YtlfplcidgccgdaaNC
set_option linter.unusedVariables false
set_option linter.unusedSimpArgs false
namespace Go.Proofs.Ytlfplcidgccgdaa.Y
open Go.RowKit Go.Maps
attribute [local go_sem ↓] Go.wp_at_zero Go.wp_at_succ

theorem own_cell {w : World} {B b o n c : Nat} {xs : List Int} (h : OwnI w B (.slice (some ⟨b, o, none⟩) n c) xs) {j : Nat} {x : Int} (hj : xs[j]? = some x) : w.cell? ⟨b, o + j, none⟩ = some (.int .i64 x) := by
  obtain ⟨A, c', e, hR⟩ := h.slice
  injection e with e1 _ _
  rw [← e1] at hR
  exact hR.cell_at hj
set_option maxHeartbeats 12800000 in
set_option maxRecDepth 100000 in
theorem snapshotFirst_walk (x : Int) (A1 : Option Addr) (c1 : Nat) (l1 : List Int) (sw : Bool) (w : World) (v0 : (Lit.int .i64 x).wf = true)
    (r1 : RdI w A1 l1) (i1 : Ints l1) (h1 : l1.length ≤ c1) (m1 : c1 ≤ maxLen) (y1 : l1.length ≤ 17592186043904) :
    Calls Try.prog 12 #[.int .i64 x, .slice A1 l1.length c1, .bool sw] w fun e w' => e = .returned (.bool true) ∧ Below w.heap.size w w' := by
  obtain ⟨l, hl⟩ : ∃ l, l = l1.length := ⟨_, rfl⟩
  rw [← hl] at h1 y1 ⊢
  have HL := Lib.hid hl.symm
  have HR := Lib.hid r1
  have HI := Lib.hid i1
  obtain ⟨x1, x2⟩ := int_wf64 v0
  have PK := Lib.hid (pick_any (w := w) x 9 (by decide) (by decide) x1 x2)
  obtain ⟨m, hm⟩ := Int.eq_ofNat_of_zero_le (show 0 ≤ x % ((9 : Nat) : Int) by omega)
  have hm9 : m < 9 := by omega
  have HM := Lib.hid hm
  obtain ⟨N, hN⟩ : ∃ N : Nat, N = m + 1 := ⟨_, rfl⟩
  have HN : Hid (1 + (m : Int) = (N : Int)) := by show _ = _; rw [hN]; omega
  have hN1 : 1 ≤ N := by omega
  have hN9 : N ≤ 9 := by omega
  have N0 : (0 : Int) ≤ (N : Int) := by omega
  clear hl r1 i1 m1 v0 x1 x2 hm hN
  go_enter Try.func12, Try.ntmps12
  go_wp2_with fail
  refine PK.out.mono ?_
  rintro e w' ⟨rfl, rfl⟩
  rw [HM.out]
  go_wp2_with fail
  rw [HN.out]
  refine (tnew_nil (N : Int) (by omega) (by omega) none 0).mono ?_
  rintro e w2 ⟨g, bo, bc, bd, bg, rfl, hh, hf, hb⟩
  have F0 : Hid (FST w (N : Int) g bo bc bd bg 0 (newS (N : Int)) w2) := by
    show FST _ _ _ _ _ _ _ _ _ _
    exact ⟨hh, fun k v e => (by cases e), Nat.le_refl _, Nat.le_refl _, by show (N : Int) ≤ N + ((0 : Nat) : Int); omega, hb, hf⟩
  clear hh hf hb
  go_wp2_with fail
  go_loopw [9] (fun i wr => ∃ k : Nat, k ≤ l ∧ k ≤ 20 ∧ i = .int .i64 k ∧ Hid (∃ s, FST w (N : Int) g bo bc bd bg (2 * k) s wr)) (fun i _ => 20 - (intOf i).toNat)
  case atStart => exact ⟨0, Nat.zero_le _, Nat.zero_le _, rfl, ⟨_, F0.out⟩⟩
  case round =>
    obtain ⟨k, hk, hk2, rfl, hi⟩ := hrel
    obtain ⟨s, hST⟩ := hi.out
    have F1 := Lib.hid hST
    clear hi hST
    have ks : 2 * k ≤ 1000 := by omega
    by_cases hgo : k < l ∧ k < 20
    · obtain ⟨hlt, hlt2⟩ := hgo
      have z0 : (0 : Int) ≤ (k : Int) := by omega
      have z1 : (k : Int) < (l : Int) := by omega
      go_wp2_with fail
      by_cases hs : s.so < 16
      · refine (fs_begin F1.out hs (by omega) (by omega)).mono ?_
        rintro e w3 ⟨rfl, h2, -⟩
        have F2 := Lib.hid h2
        have HO : Hid ((begS s).op s.next = some s.last) := by
          show updM _ s.next _ s.next = _
          unfold updM
          rw [if_pos rfl]
        have hkl : k < l1.length := by rw [HL.out]; exact hlt
        obtain ⟨b, o, rfl, p0⟩ := (HR.out.below F2.out.low).at_ hkl
        obtain ⟨hx1, hx2⟩ := HI.out _ (List.getElem_mem hkl)
        generalize l1[k]'hkl = z at *
        obtain ⟨y, hy⟩ : ∃ y, y = z % ((4 : Nat) : Int) := ⟨_, rfl⟩
        have PK2 := Lib.hid (pick_any (w := w3) z 4 (by decide) (by decide) hx1 hx2)
        have hy4 : y = 0 ∨ y = 1 ∨ y = 2 ∨ y = 3 := by omega
        rw [← hy] at PK2
        obtain ⟨nx, hnx⟩ : ∃ nx, nx = s.next := ⟨_, rfl⟩
        have nb : 0 ≤ nx ∧ nx ≤ 1000 := by have h1 := F1.out.nx; have h2 := F1.out.tab.ok.f1; have h3 := F1.out.tab.ok.fn; omega
        have NB : Hid (wf64 nx) := by show wf64 _; exact ⟨by omega, by omega⟩
        rw [← hnx] at HO ⊢
        clear hx1 hx2 hy h2 hnx nb
        go_wp2_with fail
        refine PK2.out.mono ?_
        rintro e w' ⟨rfl, rfl⟩
        rcases hy4 with rfl | rfl | rfl | rfl
        · go_wp2_with fail
          refine (fs_commit F2.out (by omega) _ _ NB.out HO.out).mono ?_
          rintro e w4 ⟨rfl, h3, -⟩
          have F3 := Lib.hid h3
          clear h3
          go_wp2_with fail
          go_roundw
          case rel => exact ⟨k + 1, by omega, by omega, by go_num, ⟨_, F3.out⟩⟩
          case measure => simp [intOf]; omega
        · go_wp2_with fail
          refine (fs_commit F2.out (by omega) _ _ NB.out HO.out).mono ?_
          rintro e w4 ⟨rfl, h3, -⟩
          have F3 := Lib.hid h3
          clear h3
          go_wp2_with fail
          go_roundw
          case rel => exact ⟨k + 1, by omega, by omega, by go_num, ⟨_, F3.out⟩⟩
          case measure => simp [intOf]; omega
        · go_wp2_with fail
          refine (fs_abort F2.out (by omega) _ _ NB.out HO.out).mono ?_
          rintro e w4 ⟨rfl, h3, -⟩
          have F3 := Lib.hid h3
          clear h3
          go_wp2_with fail
          go_roundw
          case rel => exact ⟨k + 1, by omega, by omega, by go_num, ⟨_, F3.out⟩⟩
          case measure => simp [intOf]; omega
        · go_wp2_with fail
          have F3 := Lib.hid F2.out.more
          go_roundw
          case rel => exact ⟨k + 1, by omega, by omega, by go_num, ⟨_, F3.out⟩⟩
          case measure => simp [intOf]; omega
      · refine (begin_full F1.out.tab (by have := F1.out.tab.ok.so16; omega)).mono ?_
        rintro e w' ⟨rfl, rfl⟩
        obtain ⟨K, hK, F⟩ : ∃ K, K ≤ 40 ∧ Hid (FST w (N : Int) g bo bc bd bg K s _) := ⟨_, by omega, F1⟩
        go_wp2_with fail
        refine (open_any F.out.tab).mono ?_
        rintro e wo ⟨v, ss, rfl, hK1, hO, hb⟩
        have FO := Lib.hid (F.out.below hb)
        have hlen := hK1.len
        have l16 := F.out.tab.ok.so16
        obtain ⟨ln, hln⟩ : ∃ ln, ln = ss.length := ⟨_, rfl⟩
        clear hb
        by_cases h12 : 12 < ln
        · obtain ⟨x0, x1, x2, x3, ts, rfl⟩ := four (xs := ss) (by omega)
          obtain ⟨Al, cl, rfl, hR⟩ := hO.slice
          obtain ⟨bl, ol, rfl, -⟩ := hR.at_ (j := 0) (by simp)
          have Q0 := Lib.hid hO
          have e0 := own_cell hO (j := 0) rfl
          rw [Nat.add_zero] at e0
          have up := hK1.up
          simp only [List.pairwise_cons, List.mem_cons, forall_eq_or_imp] at up
          have W0 := Lib.hid (hK1.wf x0 (by simp))
          have W1 := Lib.hid (hK1.wf x1 (by simp))
          have W2 := Lib.hid (hK1.wf x2 (by simp))
          have W3 := Lib.hid (hK1.wf x3 (by simp))
          obtain ⟨p0, hp0⟩ := Option.isSome_iff_exists.1 ((hK1.has x0 W0.out).1 (by simp))
          obtain ⟨p1, hp1⟩ := Option.isSome_iff_exists.1 ((hK1.has x1 W1.out).1 (by simp))
          obtain ⟨p2, hp2⟩ := Option.isSome_iff_exists.1 ((hK1.has x2 W2.out).1 (by simp))
          obtain ⟨p3, hp3⟩ := Option.isSome_iff_exists.1 ((hK1.has x3 W3.out).1 (by simp))
          have n01 : x0 < x1 := up.1.1
          have n12 : x1 < x2 := up.2.1.1
          have n23 : x2 < x3 := up.2.2.1.1
          have P0 := Lib.hid hp0
          have P1 : Hid ((aboS s x0).op x1 = some p1) := by show _ = _; rw [abo_other (by omega)]; exact hp1
          have P2 : Hid ((aboS (aboS s x0) x1).op x2 = some p2) := by show _ = _; rw [abo_other (by omega), abo_other (by omega)]; exact hp2
          have P3 : Hid ((aboS (aboS (aboS s x0) x1) x2).op x3 = some p3) := by show _ = _; rw [abo_other (by omega), abo_other (by omega), abo_other (by omega)]; exact hp3
          have A0 := FO
          rw [← hln]
          have i12 : (12 : Int) < (ln : Int) := by omega
          have i0 : (0 : Int) < (ln : Int) := by omega
          have i1 : (1 : Int) < (ln : Int) := by omega
          have i2 : (2 : Int) < (ln : Int) := by omega
          have i3 : (3 : Int) < (ln : Int) := by omega
          clear hO hR up hp0 hp1 hp2 hp3 n01 n12 n23 hK1
          go_wp2_with fail
          refine (fs_abort A0.out (by omega) x0 p0 W0.out P0.out).mono ?_
          rintro e v0 ⟨rfl, h, ho⟩
          have A1 := Lib.hid h
          have Q1 := Lib.hid (Q0.out.own A0.out.tab ho)
          have e1 := own_cell Q1.out (j := 1) rfl
          clear h ho
          go_wp2_with fail
          refine (fs_abort A1.out (by omega) x1 p1 W1.out P1.out).mono ?_
          rintro e v1 ⟨rfl, h, ho⟩
          have A2 := Lib.hid h
          have Q2 := Lib.hid (Q1.out.own A1.out.tab ho)
          have e2 := own_cell Q2.out (j := 2) rfl
          clear h ho
          go_wp2_with fail
          refine (fs_abort A2.out (by omega) x2 p2 W2.out P2.out).mono ?_
          rintro e v2 ⟨rfl, h, ho⟩
          have A3 := Lib.hid h
          have Q3 := Lib.hid (Q2.out.own A2.out.tab ho)
          have e3 := own_cell Q3.out (j := 3) rfl
          clear h ho
          go_wp2_with fail
          refine (fs_abort A3.out (by omega) x3 p3 W3.out P3.out).mono ?_
          rintro e v3 ⟨rfl, h, ho⟩
          have A4 := Lib.hid h
          clear h ho

          obtain ⟨s5, hs5⟩ : ∃ s5, s5 = aboS (aboS (aboS (aboS s x0) x1) x2) x3 := ⟨_, rfl⟩
          have so5 : s5.so ≤ 12 := by rw [hs5]; show s.so - 1 - 1 - 1 - 1 ≤ 12; omega
          have F5 := A4
          rw [← hs5] at F5
          clear hs5
          go_wp2_with fail
          refine (fs_begin F5.out (by omega) (by omega) (by omega)).mono ?_
          rintro e wa ⟨rfl, h, -⟩
          have F6 := Lib.hid h
          clear h
          go_wp2_with fail
          refine (fs_begin F6.out (by show s5.so + 1 < 16; omega) (by omega) (by omega)).mono ?_
          rintro e wb ⟨rfl, h, -⟩
          have TW := two_new F5.out.tab.ok F5.out.cml
          rw [show (begS s5).next = s5.next + 1 from rfl]
          obtain ⟨a, ha⟩ : ∃ a, a = s5.next := ⟨_, rfl⟩
          rw [← ha] at TW ⊢
          obtain ⟨b, hb⟩ : ∃ b, b = a + 1 := ⟨_, rfl⟩
          rw [← hb] at TW ⊢
          obtain ⟨s2, hs2⟩ : ∃ s2, s2 = begS (begS s5) := ⟨_, rfl⟩
          have so2 : s2.so ≤ 14 := by rw [hs2]; show s5.so + 1 + 1 ≤ 14; omega
          have nx2 := h.nx
          have a0 : 0 ≤ a := by rw [ha]; have h1 := F5.out.tab.ok.f1; have h2 := F5.out.tab.ok.fn; omega
          rw [← hs2] at TW h nx2
          have na2 := TW.nb
          obtain ⟨c, hc⟩ : ∃ c, c = s2.next := ⟨_, rfl⟩
          have HC : Hid (s2.next = c) := Lib.hid hc.symm
          have F7 := Lib.hid h
          have T2 := Lib.hid TW
          have qne : (a == b) = false := by rw [beq_eq_false_iff_ne]; omega
          rw [← hc] at nx2 na2
          have a1 : a ≤ 2000 := by omega
          have b0 : 0 ≤ b := by omega
          have b1 : b ≤ 2000 := by omega
          have cc0 : 0 ≤ c := by omega
          have cc1 : c ≤ 2000 := by omega
          clear h TW ha hb hs2 hc nx2 na2
          cases sw with
          | false =>
            have TV4 : Hid (visB (begS (comS s2 a)) c a = true) := by show _ = _; rw [← HC.out]; exact (T2.out).vis4
            have TC4 : Hid (conT (begS (comS s2 a)) c a = 0) := by show _ = _; rw [← HC.out]; exact (T2.out).con4
            have TC5 : Hid (conT (aboS (begS (comS s2 a)) b) c b = 0) := by show _ = _; rw [← HC.out]; exact (T2.out).con5
            have TV5 : Hid (visB (aboS (begS (comS s2 a)) b) c b = false) := by show _ = _; rw [← HC.out]; exact (T2.out).vis5
            have TV := Lib.hid (T2.out)
            have VA : Hid (wf64 a) := by show wf64 _; exact ⟨by omega, by omega⟩
            have VB : Hid (wf64 b) := by show wf64 _; exact ⟨by omega, by omega⟩
            have OA := Lib.hid TV.out.oa
            have OB := Lib.hid (beg_b TV.out)
            go_wp2_with fail
            refine (F7.out.vis (by omega) (by omega) a b (by omega) (by omega) (by omega) (by omega)).mono ?_
            rintro e w8 ⟨rfl, h⟩
            have F8 := Lib.hid h
            clear h
            rw [TV.out.vis]
            go_wp2_with fail
            refine (F8.out.vis (by omega) (by omega) b a (by omega) (by omega) (by omega) (by omega)).mono ?_
            rintro e w9 ⟨rfl, h⟩
            have F9 := Lib.hid h
            clear h
            rw [TV.out.swap.vis]
            go_wp2_with fail
            refine (F9.out.con (by omega) (by omega) a b (by omega) (by omega) (by omega) (by omega)).mono ?_
            rintro e w10 ⟨rfl, h⟩
            have F10 := Lib.hid h
            clear h
            rw [TV.out.con]
            go_wp2_with fail
            refine (F10.out.con (by omega) (by omega) b a (by omega) (by omega) (by omega) (by omega)).mono ?_
            rintro e w11 ⟨rfl, h⟩
            have F11 := Lib.hid h
            clear h
            rw [TV.out.swap.con]
            go_wp2_with fail
            refine (F11.out.con (by omega) (by omega) a a (by omega) (by omega) (by omega) (by omega)).mono ?_
            rintro e w12 ⟨rfl, h⟩
            have F12 := Lib.hid h
            clear h
            rw [TV.out.self]
            go_wp2_with fail
            refine (fs_commit F12.out (by omega) a _ VA.out OA.out).mono ?_
            rintro e w13 ⟨rfl, h, -⟩
            have F13 := Lib.hid h
            clear h
            go_wp2_with fail
            refine (F13.out.vis (by omega) (by omega) b a (by omega) (by omega) (by omega) (by omega)).mono ?_
            rintro e w14 ⟨rfl, h⟩
            have F14 := Lib.hid h
            clear h
            rw [TV.out.vis3]
            go_wp2_with fail
            refine (F14.out.con (by omega) (by omega) b a (by omega) (by omega) (by omega) (by omega)).mono ?_
            rintro e w15 ⟨rfl, h⟩
            have F15 := Lib.hid h
            clear h
            rw [TV.out.con3]
            go_wp2_with fail
            refine (fs_begin F15.out (by show s2.so - 1 < 16; omega) (by omega) (by omega)).mono ?_
            rintro e w16 ⟨rfl, h, -⟩
            have F16 := Lib.hid h
            clear h
            rw [show (comS s2 a).next = c from HC.out]
            go_wp2_with fail
            refine (F16.out.vis (by omega) (by omega) c a (by omega) (by omega) (by omega) (by omega)).mono ?_
            rintro e w17 ⟨rfl, h⟩
            have F17 := Lib.hid h
            clear h
            rw [TV4.out]
            go_wp2_with fail
            refine (F17.out.con (by omega) (by omega) c a (by omega) (by omega) (by omega) (by omega)).mono ?_
            rintro e w18 ⟨rfl, h⟩
            have F18 := Lib.hid h
            clear h
            rw [TC4.out]
            go_wp2_with fail
            refine (F18.out.all a (by omega) (by omega)).mono ?_
            rintro e w19 ⟨r, rfl, hr, h⟩
            have F19 := Lib.hid h
            obtain rfl : r = false := by
              cases r with
              | false => rfl
              | true => exact absurd (hr.1 rfl) (TV.out.all4 VB.out)
            clear h hr
            go_wp2_with fail
            refine (fs_abort F19.out (by omega) b _ VB.out OB.out).mono ?_
            rintro e w20 ⟨rfl, h, -⟩
            have F20 := Lib.hid h
            clear h
            go_wp2_with fail
            refine (F20.out.con (by omega) (by omega) c b (by omega) (by omega) (by omega) (by omega)).mono ?_
            rintro e w21 ⟨rfl, h⟩
            have F21 := Lib.hid h
            clear h
            rw [TC5.out]
            go_wp2_with fail
            refine (F21.out.vis (by omega) (by omega) c b (by omega) (by omega) (by omega) (by omega)).mono ?_
            rintro e w22 ⟨rfl, h⟩
            have F22 := Lib.hid h
            clear h
            rw [TV5.out]
            go_wp2_with fail
            refine (awake14 (w := _)).mono ?_
            rintro e wz ⟨rfl, hb⟩
            have BZ := Lib.hid (bthen F22.out.low hb)
            clear hb
            go_wp2_with fail
            go_ret
            exact ⟨rfl, BZ.out⟩
          | true =>
            have TV4 : Hid (visB (begS (comS s2 b)) c b = true) := by show _ = _; rw [← HC.out]; exact (T2.out.swap).vis4
            have TC4 : Hid (conT (begS (comS s2 b)) c b = 0) := by show _ = _; rw [← HC.out]; exact (T2.out.swap).con4
            have TC5 : Hid (conT (aboS (begS (comS s2 b)) a) c a = 0) := by show _ = _; rw [← HC.out]; exact (T2.out.swap).con5
            have TV5 : Hid (visB (aboS (begS (comS s2 b)) a) c a = false) := by show _ = _; rw [← HC.out]; exact (T2.out.swap).vis5
            have TV := Lib.hid (T2.out.swap)
            have VA : Hid (wf64 b) := by show wf64 _; exact ⟨by omega, by omega⟩
            have VB : Hid (wf64 a) := by show wf64 _; exact ⟨by omega, by omega⟩
            have OA := Lib.hid TV.out.oa
            have OB := Lib.hid (beg_b TV.out)
            go_wp2_with fail
            refine (F7.out.vis (by omega) (by omega) b a (by omega) (by omega) (by omega) (by omega)).mono ?_
            rintro e w8 ⟨rfl, h⟩
            have F8 := Lib.hid h
            clear h
            rw [TV.out.vis]
            go_wp2_with fail
            refine (F8.out.vis (by omega) (by omega) a b (by omega) (by omega) (by omega) (by omega)).mono ?_
            rintro e w9 ⟨rfl, h⟩
            have F9 := Lib.hid h
            clear h
            rw [TV.out.swap.vis]
            go_wp2_with fail
            refine (F9.out.con (by omega) (by omega) b a (by omega) (by omega) (by omega) (by omega)).mono ?_
            rintro e w10 ⟨rfl, h⟩
            have F10 := Lib.hid h
            clear h
            rw [TV.out.con]
            go_wp2_with fail
            refine (F10.out.con (by omega) (by omega) a b (by omega) (by omega) (by omega) (by omega)).mono ?_
            rintro e w11 ⟨rfl, h⟩
            have F11 := Lib.hid h
            clear h
            rw [TV.out.swap.con]
            go_wp2_with fail
            refine (F11.out.con (by omega) (by omega) b b (by omega) (by omega) (by omega) (by omega)).mono ?_
            rintro e w12 ⟨rfl, h⟩
            have F12 := Lib.hid h
            clear h
            rw [TV.out.self]
            go_wp2_with fail
            refine (fs_commit F12.out (by omega) b _ VA.out OA.out).mono ?_
            rintro e w13 ⟨rfl, h, -⟩
            have F13 := Lib.hid h
            clear h
            go_wp2_with fail
            refine (F13.out.vis (by omega) (by omega) a b (by omega) (by omega) (by omega) (by omega)).mono ?_
            rintro e w14 ⟨rfl, h⟩
            have F14 := Lib.hid h
            clear h
            rw [TV.out.vis3]
            go_wp2_with fail
            refine (F14.out.con (by omega) (by omega) a b (by omega) (by omega) (by omega) (by omega)).mono ?_
            rintro e w15 ⟨rfl, h⟩
            have F15 := Lib.hid h
            clear h
            rw [TV.out.con3]
            go_wp2_with fail
            refine (fs_begin F15.out (by show s2.so - 1 < 16; omega) (by omega) (by omega)).mono ?_
            rintro e w16 ⟨rfl, h, -⟩
            have F16 := Lib.hid h
            clear h
            rw [show (comS s2 b).next = c from HC.out]
            go_wp2_with fail
            refine (F16.out.vis (by omega) (by omega) c b (by omega) (by omega) (by omega) (by omega)).mono ?_
            rintro e w17 ⟨rfl, h⟩
            have F17 := Lib.hid h
            clear h
            rw [TV4.out]
            go_wp2_with fail
            refine (F17.out.con (by omega) (by omega) c b (by omega) (by omega) (by omega) (by omega)).mono ?_
            rintro e w18 ⟨rfl, h⟩
            have F18 := Lib.hid h
            clear h
            rw [TC4.out]
            go_wp2_with fail
            refine (F18.out.all b (by omega) (by omega)).mono ?_
            rintro e w19 ⟨r, rfl, hr, h⟩
            have F19 := Lib.hid h
            obtain rfl : r = false := by
              cases r with
              | false => rfl
              | true => exact absurd (hr.1 rfl) (TV.out.all4 VB.out)
            clear h hr
            go_wp2_with fail
            refine (fs_abort F19.out (by omega) a _ VB.out OB.out).mono ?_
            rintro e w20 ⟨rfl, h, -⟩
            have F20 := Lib.hid h
            clear h
            go_wp2_with fail
            refine (F20.out.con (by omega) (by omega) c a (by omega) (by omega) (by omega) (by omega)).mono ?_
            rintro e w21 ⟨rfl, h⟩
            have F21 := Lib.hid h
            clear h
            rw [TC5.out]
            go_wp2_with fail
            refine (F21.out.vis (by omega) (by omega) c a (by omega) (by omega) (by omega) (by omega)).mono ?_
            rintro e w22 ⟨rfl, h⟩
            have F22 := Lib.hid h
            clear h
            rw [TV5.out]
            go_wp2_with fail
            refine (awake14 (w := _)).mono ?_
            rintro e wz ⟨rfl, hb⟩
            have BZ := Lib.hid (bthen F22.out.low hb)
            clear hb
            go_wp2_with fail
            go_ret
            exact ⟨rfl, BZ.out⟩
        · exfalso
          omega
    · have hcase : (decide ((20 : Int) < (l : Int)) = true ∧ k = 20) ∨ k = l := by
        by_cases h1 : k < l
        · exact .inl ⟨decide_eq_true (by omega), by omega⟩
        · exact .inr (by omega)
      clear hgo
      rcases hcase with ⟨q1, rfl⟩ | rfl
      · skip
        obtain ⟨K, hK, F⟩ : ∃ K, K ≤ 40 ∧ Hid (FST w (N : Int) g bo bc bd bg K s _) := ⟨_, by omega, F1⟩
        go_wp2_with fail
        refine (open_any F.out.tab).mono ?_
        rintro e wo ⟨v, ss, rfl, hK1, hO, hb⟩
        have FO := Lib.hid (F.out.below hb)
        have hlen := hK1.len
        have l16 := F.out.tab.ok.so16
        obtain ⟨ln, hln⟩ : ∃ ln, ln = ss.length := ⟨_, rfl⟩
        clear hb
        by_cases h12 : 12 < ln
        · obtain ⟨x0, x1, x2, x3, ts, rfl⟩ := four (xs := ss) (by omega)
          obtain ⟨Al, cl, rfl, hR⟩ := hO.slice
          obtain ⟨bl, ol, rfl, -⟩ := hR.at_ (j := 0) (by simp)
          have Q0 := Lib.hid hO
          have e0 := own_cell hO (j := 0) rfl
          rw [Nat.add_zero] at e0
          have up := hK1.up
          simp only [List.pairwise_cons, List.mem_cons, forall_eq_or_imp] at up
          have W0 := Lib.hid (hK1.wf x0 (by simp))
          have W1 := Lib.hid (hK1.wf x1 (by simp))
          have W2 := Lib.hid (hK1.wf x2 (by simp))
          have W3 := Lib.hid (hK1.wf x3 (by simp))
          obtain ⟨p0, hp0⟩ := Option.isSome_iff_exists.1 ((hK1.has x0 W0.out).1 (by simp))
          obtain ⟨p1, hp1⟩ := Option.isSome_iff_exists.1 ((hK1.has x1 W1.out).1 (by simp))
          obtain ⟨p2, hp2⟩ := Option.isSome_iff_exists.1 ((hK1.has x2 W2.out).1 (by simp))
          obtain ⟨p3, hp3⟩ := Option.isSome_iff_exists.1 ((hK1.has x3 W3.out).1 (by simp))
          have n01 : x0 < x1 := up.1.1
          have n12 : x1 < x2 := up.2.1.1
          have n23 : x2 < x3 := up.2.2.1.1
          have P0 := Lib.hid hp0
          have P1 : Hid ((aboS s x0).op x1 = some p1) := by show _ = _; rw [abo_other (by omega)]; exact hp1
          have P2 : Hid ((aboS (aboS s x0) x1).op x2 = some p2) := by show _ = _; rw [abo_other (by omega), abo_other (by omega)]; exact hp2
          have P3 : Hid ((aboS (aboS (aboS s x0) x1) x2).op x3 = some p3) := by show _ = _; rw [abo_other (by omega), abo_other (by omega), abo_other (by omega)]; exact hp3
          have A0 := FO
          rw [← hln]
          have i12 : (12 : Int) < (ln : Int) := by omega
          have i0 : (0 : Int) < (ln : Int) := by omega
          have i1 : (1 : Int) < (ln : Int) := by omega
          have i2 : (2 : Int) < (ln : Int) := by omega
          have i3 : (3 : Int) < (ln : Int) := by omega
          clear hO hR up hp0 hp1 hp2 hp3 n01 n12 n23 hK1
          go_wp2_with fail
          refine (fs_abort A0.out (by omega) x0 p0 W0.out P0.out).mono ?_
          rintro e v0 ⟨rfl, h, ho⟩
          have A1 := Lib.hid h
          have Q1 := Lib.hid (Q0.out.own A0.out.tab ho)
          have e1 := own_cell Q1.out (j := 1) rfl
          clear h ho
          go_wp2_with fail
          refine (fs_abort A1.out (by omega) x1 p1 W1.out P1.out).mono ?_
          rintro e v1 ⟨rfl, h, ho⟩
          have A2 := Lib.hid h
          have Q2 := Lib.hid (Q1.out.own A1.out.tab ho)
          have e2 := own_cell Q2.out (j := 2) rfl
          clear h ho
          go_wp2_with fail
          refine (fs_abort A2.out (by omega) x2 p2 W2.out P2.out).mono ?_
          rintro e v2 ⟨rfl, h, ho⟩
          have A3 := Lib.hid h
          have Q3 := Lib.hid (Q2.out.own A2.out.tab ho)
          have e3 := own_cell Q3.out (j := 3) rfl
          clear h ho
          go_wp2_with fail
          refine (fs_abort A3.out (by omega) x3 p3 W3.out P3.out).mono ?_
          rintro e v3 ⟨rfl, h, ho⟩
          have A4 := Lib.hid h
          clear h ho

          obtain ⟨s5, hs5⟩ : ∃ s5, s5 = aboS (aboS (aboS (aboS s x0) x1) x2) x3 := ⟨_, rfl⟩
          have so5 : s5.so ≤ 12 := by rw [hs5]; show s.so - 1 - 1 - 1 - 1 ≤ 12; omega
          have F5 := A4
          rw [← hs5] at F5
          clear hs5
          go_wp2_with fail
          refine (fs_begin F5.out (by omega) (by omega) (by omega)).mono ?_
          rintro e wa ⟨rfl, h, -⟩
          have F6 := Lib.hid h
          clear h
          go_wp2_with fail
          refine (fs_begin F6.out (by show s5.so + 1 < 16; omega) (by omega) (by omega)).mono ?_
          rintro e wb ⟨rfl, h, -⟩
          have TW := two_new F5.out.tab.ok F5.out.cml
          rw [show (begS s5).next = s5.next + 1 from rfl]
          obtain ⟨a, ha⟩ : ∃ a, a = s5.next := ⟨_, rfl⟩
          rw [← ha] at TW ⊢
          obtain ⟨b, hb⟩ : ∃ b, b = a + 1 := ⟨_, rfl⟩
          rw [← hb] at TW ⊢
          obtain ⟨s2, hs2⟩ : ∃ s2, s2 = begS (begS s5) := ⟨_, rfl⟩
          have so2 : s2.so ≤ 14 := by rw [hs2]; show s5.so + 1 + 1 ≤ 14; omega
          have nx2 := h.nx
          have a0 : 0 ≤ a := by rw [ha]; have h1 := F5.out.tab.ok.f1; have h2 := F5.out.tab.ok.fn; omega
          rw [← hs2] at TW h nx2
          have na2 := TW.nb
          obtain ⟨c, hc⟩ : ∃ c, c = s2.next := ⟨_, rfl⟩
          have HC : Hid (s2.next = c) := Lib.hid hc.symm
          have F7 := Lib.hid h
          have T2 := Lib.hid TW
          have qne : (a == b) = false := by rw [beq_eq_false_iff_ne]; omega
          rw [← hc] at nx2 na2
          have a1 : a ≤ 2000 := by omega
          have b0 : 0 ≤ b := by omega
          have b1 : b ≤ 2000 := by omega
          have cc0 : 0 ≤ c := by omega
          have cc1 : c ≤ 2000 := by omega
          clear h TW ha hb hs2 hc nx2 na2
          cases sw with
          | false =>
            have TV4 : Hid (visB (begS (comS s2 a)) c a = true) := by show _ = _; rw [← HC.out]; exact (T2.out).vis4
            have TC4 : Hid (conT (begS (comS s2 a)) c a = 0) := by show _ = _; rw [← HC.out]; exact (T2.out).con4
            have TC5 : Hid (conT (aboS (begS (comS s2 a)) b) c b = 0) := by show _ = _; rw [← HC.out]; exact (T2.out).con5
            have TV5 : Hid (visB (aboS (begS (comS s2 a)) b) c b = false) := by show _ = _; rw [← HC.out]; exact (T2.out).vis5
            have TV := Lib.hid (T2.out)
            have VA : Hid (wf64 a) := by show wf64 _; exact ⟨by omega, by omega⟩
            have VB : Hid (wf64 b) := by show wf64 _; exact ⟨by omega, by omega⟩
            have OA := Lib.hid TV.out.oa
            have OB := Lib.hid (beg_b TV.out)
            go_wp2_with fail
            refine (F7.out.vis (by omega) (by omega) a b (by omega) (by omega) (by omega) (by omega)).mono ?_
            rintro e w8 ⟨rfl, h⟩
            have F8 := Lib.hid h
            clear h
            rw [TV.out.vis]
            go_wp2_with fail
            refine (F8.out.vis (by omega) (by omega) b a (by omega) (by omega) (by omega) (by omega)).mono ?_
            rintro e w9 ⟨rfl, h⟩
            have F9 := Lib.hid h
            clear h
            rw [TV.out.swap.vis]
            go_wp2_with fail
            refine (F9.out.con (by omega) (by omega) a b (by omega) (by omega) (by omega) (by omega)).mono ?_
            rintro e w10 ⟨rfl, h⟩
            have F10 := Lib.hid h
            clear h
            rw [TV.out.con]
            go_wp2_with fail
            refine (F10.out.con (by omega) (by omega) b a (by omega) (by omega) (by omega) (by omega)).mono ?_
            rintro e w11 ⟨rfl, h⟩
            have F11 := Lib.hid h
            clear h
            rw [TV.out.swap.con]
            go_wp2_with fail
            refine (F11.out.con (by omega) (by omega) a a (by omega) (by omega) (by omega) (by omega)).mono ?_
            rintro e w12 ⟨rfl, h⟩
            have F12 := Lib.hid h
            clear h
            rw [TV.out.self]
            go_wp2_with fail
            refine (fs_commit F12.out (by omega) a _ VA.out OA.out).mono ?_
            rintro e w13 ⟨rfl, h, -⟩
            have F13 := Lib.hid h
            clear h
            go_wp2_with fail
            refine (F13.out.vis (by omega) (by omega) b a (by omega) (by omega) (by omega) (by omega)).mono ?_
            rintro e w14 ⟨rfl, h⟩
            have F14 := Lib.hid h
            clear h
            rw [TV.out.vis3]
            go_wp2_with fail
            refine (F14.out.con (by omega) (by omega) b a (by omega) (by omega) (by omega) (by omega)).mono ?_
            rintro e w15 ⟨rfl, h⟩
            have F15 := Lib.hid h
            clear h
            rw [TV.out.con3]
            go_wp2_with fail
            refine (fs_begin F15.out (by show s2.so - 1 < 16; omega) (by omega) (by omega)).mono ?_
            rintro e w16 ⟨rfl, h, -⟩
            have F16 := Lib.hid h
            clear h
            rw [show (comS s2 a).next = c from HC.out]
            go_wp2_with fail
            refine (F16.out.vis (by omega) (by omega) c a (by omega) (by omega) (by omega) (by omega)).mono ?_
            rintro e w17 ⟨rfl, h⟩
            have F17 := Lib.hid h
            clear h
            rw [TV4.out]
            go_wp2_with fail
            refine (F17.out.con (by omega) (by omega) c a (by omega) (by omega) (by omega) (by omega)).mono ?_
            rintro e w18 ⟨rfl, h⟩
            have F18 := Lib.hid h
            clear h
            rw [TC4.out]
            go_wp2_with fail
            refine (F18.out.all a (by omega) (by omega)).mono ?_
            rintro e w19 ⟨r, rfl, hr, h⟩
            have F19 := Lib.hid h
            obtain rfl : r = false := by
              cases r with
              | false => rfl
              | true => exact absurd (hr.1 rfl) (TV.out.all4 VB.out)
            clear h hr
            go_wp2_with fail
            refine (fs_abort F19.out (by omega) b _ VB.out OB.out).mono ?_
            rintro e w20 ⟨rfl, h, -⟩
            have F20 := Lib.hid h
            clear h
            go_wp2_with fail
            refine (F20.out.con (by omega) (by omega) c b (by omega) (by omega) (by omega) (by omega)).mono ?_
            rintro e w21 ⟨rfl, h⟩
            have F21 := Lib.hid h
            clear h
            rw [TC5.out]
            go_wp2_with fail
            refine (F21.out.vis (by omega) (by omega) c b (by omega) (by omega) (by omega) (by omega)).mono ?_
            rintro e w22 ⟨rfl, h⟩
            have F22 := Lib.hid h
            clear h
            rw [TV5.out]
            go_wp2_with fail
            refine (awake14 (w := _)).mono ?_
            rintro e wz ⟨rfl, hb⟩
            have BZ := Lib.hid (bthen F22.out.low hb)
            clear hb
            go_wp2_with fail
            go_ret
            exact ⟨rfl, BZ.out⟩
          | true =>
            have TV4 : Hid (visB (begS (comS s2 b)) c b = true) := by show _ = _; rw [← HC.out]; exact (T2.out.swap).vis4
            have TC4 : Hid (conT (begS (comS s2 b)) c b = 0) := by show _ = _; rw [← HC.out]; exact (T2.out.swap).con4
            have TC5 : Hid (conT (aboS (begS (comS s2 b)) a) c a = 0) := by show _ = _; rw [← HC.out]; exact (T2.out.swap).con5
            have TV5 : Hid (visB (aboS (begS (comS s2 b)) a) c a = false) := by show _ = _; rw [← HC.out]; exact (T2.out.swap).vis5
            have TV := Lib.hid (T2.out.swap)
            have VA : Hid (wf64 b) := by show wf64 _; exact ⟨by omega, by omega⟩
            have VB : Hid (wf64 a) := by show wf64 _; exact ⟨by omega, by omega⟩
            have OA := Lib.hid TV.out.oa
            have OB := Lib.hid (beg_b TV.out)
            go_wp2_with fail
            refine (F7.out.vis (by omega) (by omega) b a (by omega) (by omega) (by omega) (by omega)).mono ?_
            rintro e w8 ⟨rfl, h⟩
            have F8 := Lib.hid h
            clear h
            rw [TV.out.vis]
            go_wp2_with fail
            refine (F8.out.vis (by omega) (by omega) a b (by omega) (by omega) (by omega) (by omega)).mono ?_
            rintro e w9 ⟨rfl, h⟩
            have F9 := Lib.hid h
            clear h
            rw [TV.out.swap.vis]
            go_wp2_with fail
            refine (F9.out.con (by omega) (by omega) b a (by omega) (by omega) (by omega) (by omega)).mono ?_
            rintro e w10 ⟨rfl, h⟩
            have F10 := Lib.hid h
            clear h
            rw [TV.out.con]
            go_wp2_with fail
            refine (F10.out.con (by omega) (by omega) a b (by omega) (by omega) (by omega) (by omega)).mono ?_
            rintro e w11 ⟨rfl, h⟩
            have F11 := Lib.hid h
            clear h
            rw [TV.out.swap.con]
            go_wp2_with fail
            refine (F11.out.con (by omega) (by omega) b b (by omega) (by omega) (by omega) (by omega)).mono ?_
            rintro e w12 ⟨rfl, h⟩
            have F12 := Lib.hid h
            clear h
            rw [TV.out.self]
            go_wp2_with fail
            refine (fs_commit F12.out (by omega) b _ VA.out OA.out).mono ?_
            rintro e w13 ⟨rfl, h, -⟩
            have F13 := Lib.hid h
            clear h
            go_wp2_with fail
            refine (F13.out.vis (by omega) (by omega) a b (by omega) (by omega) (by omega) (by omega)).mono ?_
            rintro e w14 ⟨rfl, h⟩
            have F14 := Lib.hid h
            clear h
            rw [TV.out.vis3]
            go_wp2_with fail
            refine (F14.out.con (by omega) (by omega) a b (by omega) (by omega) (by omega) (by omega)).mono ?_
            rintro e w15 ⟨rfl, h⟩
            have F15 := Lib.hid h
            clear h
            rw [TV.out.con3]
            go_wp2_with fail
            refine (fs_begin F15.out (by show s2.so - 1 < 16; omega) (by omega) (by omega)).mono ?_
            rintro e w16 ⟨rfl, h, -⟩
            have F16 := Lib.hid h
            clear h
            rw [show (comS s2 b).next = c from HC.out]
            go_wp2_with fail
            refine (F16.out.vis (by omega) (by omega) c b (by omega) (by omega) (by omega) (by omega)).mono ?_
            rintro e w17 ⟨rfl, h⟩
            have F17 := Lib.hid h
            clear h
            rw [TV4.out]
            go_wp2_with fail
            refine (F17.out.con (by omega) (by omega) c b (by omega) (by omega) (by omega) (by omega)).mono ?_
            rintro e w18 ⟨rfl, h⟩
            have F18 := Lib.hid h
            clear h
            rw [TC4.out]
            go_wp2_with fail
            refine (F18.out.all b (by omega) (by omega)).mono ?_
            rintro e w19 ⟨r, rfl, hr, h⟩
            have F19 := Lib.hid h
            obtain rfl : r = false := by
              cases r with
              | false => rfl
              | true => exact absurd (hr.1 rfl) (TV.out.all4 VB.out)
            clear h hr
            go_wp2_with fail
            refine (fs_abort F19.out (by omega) a _ VB.out OB.out).mono ?_
            rintro e w20 ⟨rfl, h, -⟩
            have F20 := Lib.hid h
            clear h
            go_wp2_with fail
            refine (F20.out.con (by omega) (by omega) c a (by omega) (by omega) (by omega) (by omega)).mono ?_
            rintro e w21 ⟨rfl, h⟩
            have F21 := Lib.hid h
            clear h
            rw [TC5.out]
            go_wp2_with fail
            refine (F21.out.vis (by omega) (by omega) c a (by omega) (by omega) (by omega) (by omega)).mono ?_
            rintro e w22 ⟨rfl, h⟩
            have F22 := Lib.hid h
            clear h
            rw [TV5.out]
            go_wp2_with fail
            refine (awake14 (w := _)).mono ?_
            rintro e wz ⟨rfl, hb⟩
            have BZ := Lib.hid (bthen F22.out.low hb)
            clear hb
            go_wp2_with fail
            go_ret
            exact ⟨rfl, BZ.out⟩
        · obtain ⟨Al, cl, rfl, hR⟩ := hO.slice
          have i12 : decide ((12 : Int) < (ln : Int)) = false := decide_eq_false (by omega)
          rw [← hln]
          obtain ⟨s5, rfl⟩ : ∃ s5, s5 = s := ⟨_, rfl⟩
          have so5 : s5.so ≤ 12 := by omega
          have F5 := FO
          clear hO hR hK1
          go_wp2_with fail
          refine (fs_begin F5.out (by omega) (by omega) (by omega)).mono ?_
          rintro e wa ⟨rfl, h, -⟩
          have F6 := Lib.hid h
          clear h
          go_wp2_with fail
          refine (fs_begin F6.out (by show s5.so + 1 < 16; omega) (by omega) (by omega)).mono ?_
          rintro e wb ⟨rfl, h, -⟩
          have TW := two_new F5.out.tab.ok F5.out.cml
          rw [show (begS s5).next = s5.next + 1 from rfl]
          obtain ⟨a, ha⟩ : ∃ a, a = s5.next := ⟨_, rfl⟩
          rw [← ha] at TW ⊢
          obtain ⟨b, hb⟩ : ∃ b, b = a + 1 := ⟨_, rfl⟩
          rw [← hb] at TW ⊢
          obtain ⟨s2, hs2⟩ : ∃ s2, s2 = begS (begS s5) := ⟨_, rfl⟩
          have so2 : s2.so ≤ 14 := by rw [hs2]; show s5.so + 1 + 1 ≤ 14; omega
          have nx2 := h.nx
          have a0 : 0 ≤ a := by rw [ha]; have h1 := F5.out.tab.ok.f1; have h2 := F5.out.tab.ok.fn; omega
          rw [← hs2] at TW h nx2
          have na2 := TW.nb
          obtain ⟨c, hc⟩ : ∃ c, c = s2.next := ⟨_, rfl⟩
          have HC : Hid (s2.next = c) := Lib.hid hc.symm
          have F7 := Lib.hid h
          have T2 := Lib.hid TW
          have qne : (a == b) = false := by rw [beq_eq_false_iff_ne]; omega
          rw [← hc] at nx2 na2
          have a1 : a ≤ 2000 := by omega
          have b0 : 0 ≤ b := by omega
          have b1 : b ≤ 2000 := by omega
          have cc0 : 0 ≤ c := by omega
          have cc1 : c ≤ 2000 := by omega
          clear h TW ha hb hs2 hc nx2 na2
          cases sw with
          | false =>
            have TV4 : Hid (visB (begS (comS s2 a)) c a = true) := by show _ = _; rw [← HC.out]; exact (T2.out).vis4
            have TC4 : Hid (conT (begS (comS s2 a)) c a = 0) := by show _ = _; rw [← HC.out]; exact (T2.out).con4
            have TC5 : Hid (conT (aboS (begS (comS s2 a)) b) c b = 0) := by show _ = _; rw [← HC.out]; exact (T2.out).con5
            have TV5 : Hid (visB (aboS (begS (comS s2 a)) b) c b = false) := by show _ = _; rw [← HC.out]; exact (T2.out).vis5
            have TV := Lib.hid (T2.out)
            have VA : Hid (wf64 a) := by show wf64 _; exact ⟨by omega, by omega⟩
            have VB : Hid (wf64 b) := by show wf64 _; exact ⟨by omega, by omega⟩
            have OA := Lib.hid TV.out.oa
            have OB := Lib.hid (beg_b TV.out)
            go_wp2_with fail
            refine (F7.out.vis (by omega) (by omega) a b (by omega) (by omega) (by omega) (by omega)).mono ?_
            rintro e w8 ⟨rfl, h⟩
            have F8 := Lib.hid h
            clear h
            rw [TV.out.vis]
            go_wp2_with fail
            refine (F8.out.vis (by omega) (by omega) b a (by omega) (by omega) (by omega) (by omega)).mono ?_
            rintro e w9 ⟨rfl, h⟩
            have F9 := Lib.hid h
            clear h
            rw [TV.out.swap.vis]
            go_wp2_with fail
            refine (F9.out.con (by omega) (by omega) a b (by omega) (by omega) (by omega) (by omega)).mono ?_
            rintro e w10 ⟨rfl, h⟩
            have F10 := Lib.hid h
            clear h
            rw [TV.out.con]
            go_wp2_with fail
            refine (F10.out.con (by omega) (by omega) b a (by omega) (by omega) (by omega) (by omega)).mono ?_
            rintro e w11 ⟨rfl, h⟩
            have F11 := Lib.hid h
            clear h
            rw [TV.out.swap.con]
            go_wp2_with fail
            refine (F11.out.con (by omega) (by omega) a a (by omega) (by omega) (by omega) (by omega)).mono ?_
            rintro e w12 ⟨rfl, h⟩
            have F12 := Lib.hid h
            clear h
            rw [TV.out.self]
            go_wp2_with fail
            refine (fs_commit F12.out (by omega) a _ VA.out OA.out).mono ?_
            rintro e w13 ⟨rfl, h, -⟩
            have F13 := Lib.hid h
            clear h
            go_wp2_with fail
            refine (F13.out.vis (by omega) (by omega) b a (by omega) (by omega) (by omega) (by omega)).mono ?_
            rintro e w14 ⟨rfl, h⟩
            have F14 := Lib.hid h
            clear h
            rw [TV.out.vis3]
            go_wp2_with fail
            refine (F14.out.con (by omega) (by omega) b a (by omega) (by omega) (by omega) (by omega)).mono ?_
            rintro e w15 ⟨rfl, h⟩
            have F15 := Lib.hid h
            clear h
            rw [TV.out.con3]
            go_wp2_with fail
            refine (fs_begin F15.out (by show s2.so - 1 < 16; omega) (by omega) (by omega)).mono ?_
            rintro e w16 ⟨rfl, h, -⟩
            have F16 := Lib.hid h
            clear h
            rw [show (comS s2 a).next = c from HC.out]
            go_wp2_with fail
            refine (F16.out.vis (by omega) (by omega) c a (by omega) (by omega) (by omega) (by omega)).mono ?_
            rintro e w17 ⟨rfl, h⟩
            have F17 := Lib.hid h
            clear h
            rw [TV4.out]
            go_wp2_with fail
            refine (F17.out.con (by omega) (by omega) c a (by omega) (by omega) (by omega) (by omega)).mono ?_
            rintro e w18 ⟨rfl, h⟩
            have F18 := Lib.hid h
            clear h
            rw [TC4.out]
            go_wp2_with fail
            refine (F18.out.all a (by omega) (by omega)).mono ?_
            rintro e w19 ⟨r, rfl, hr, h⟩
            have F19 := Lib.hid h
            obtain rfl : r = false := by
              cases r with
              | false => rfl
              | true => exact absurd (hr.1 rfl) (TV.out.all4 VB.out)
            clear h hr
            go_wp2_with fail
            refine (fs_abort F19.out (by omega) b _ VB.out OB.out).mono ?_
            rintro e w20 ⟨rfl, h, -⟩
            have F20 := Lib.hid h
            clear h
            go_wp2_with fail
            refine (F20.out.con (by omega) (by omega) c b (by omega) (by omega) (by omega) (by omega)).mono ?_
            rintro e w21 ⟨rfl, h⟩
            have F21 := Lib.hid h
            clear h
            rw [TC5.out]
            go_wp2_with fail
            refine (F21.out.vis (by omega) (by omega) c b (by omega) (by omega) (by omega) (by omega)).mono ?_
            rintro e w22 ⟨rfl, h⟩
            have F22 := Lib.hid h
            clear h
            rw [TV5.out]
            go_wp2_with fail
            refine (awake14 (w := _)).mono ?_
            rintro e wz ⟨rfl, hb⟩
            have BZ := Lib.hid (bthen F22.out.low hb)
            clear hb
            go_wp2_with fail
            go_ret
            exact ⟨rfl, BZ.out⟩
          | true =>
            have TV4 : Hid (visB (begS (comS s2 b)) c b = true) := by show _ = _; rw [← HC.out]; exact (T2.out.swap).vis4
            have TC4 : Hid (conT (begS (comS s2 b)) c b = 0) := by show _ = _; rw [← HC.out]; exact (T2.out.swap).con4
            have TC5 : Hid (conT (aboS (begS (comS s2 b)) a) c a = 0) := by show _ = _; rw [← HC.out]; exact (T2.out.swap).con5
            have TV5 : Hid (visB (aboS (begS (comS s2 b)) a) c a = false) := by show _ = _; rw [← HC.out]; exact (T2.out.swap).vis5
            have TV := Lib.hid (T2.out.swap)
            have VA : Hid (wf64 b) := by show wf64 _; exact ⟨by omega, by omega⟩
            have VB : Hid (wf64 a) := by show wf64 _; exact ⟨by omega, by omega⟩
            have OA := Lib.hid TV.out.oa
            have OB := Lib.hid (beg_b TV.out)
            go_wp2_with fail
            refine (F7.out.vis (by omega) (by omega) b a (by omega) (by omega) (by omega) (by omega)).mono ?_
            rintro e w8 ⟨rfl, h⟩
            have F8 := Lib.hid h
            clear h
            rw [TV.out.vis]
            go_wp2_with fail
            refine (F8.out.vis (by omega) (by omega) a b (by omega) (by omega) (by omega) (by omega)).mono ?_
            rintro e w9 ⟨rfl, h⟩
            have F9 := Lib.hid h
            clear h
            rw [TV.out.swap.vis]
            go_wp2_with fail
            refine (F9.out.con (by omega) (by omega) b a (by omega) (by omega) (by omega) (by omega)).mono ?_
            rintro e w10 ⟨rfl, h⟩
            have F10 := Lib.hid h
            clear h
            rw [TV.out.con]
            go_wp2_with fail
            refine (F10.out.con (by omega) (by omega) a b (by omega) (by omega) (by omega) (by omega)).mono ?_
            rintro e w11 ⟨rfl, h⟩
            have F11 := Lib.hid h
            clear h
            rw [TV.out.swap.con]
            go_wp2_with fail
            refine (F11.out.con (by omega) (by omega) b b (by omega) (by omega) (by omega) (by omega)).mono ?_
            rintro e w12 ⟨rfl, h⟩
            have F12 := Lib.hid h
            clear h
            rw [TV.out.self]
            go_wp2_with fail
            refine (fs_commit F12.out (by omega) b _ VA.out OA.out).mono ?_
            rintro e w13 ⟨rfl, h, -⟩
            have F13 := Lib.hid h
            clear h
            go_wp2_with fail
            refine (F13.out.vis (by omega) (by omega) a b (by omega) (by omega) (by omega) (by omega)).mono ?_
            rintro e w14 ⟨rfl, h⟩
            have F14 := Lib.hid h
            clear h
            rw [TV.out.vis3]
            go_wp2_with fail
            refine (F14.out.con (by omega) (by omega) a b (by omega) (by omega) (by omega) (by omega)).mono ?_
            rintro e w15 ⟨rfl, h⟩
            have F15 := Lib.hid h
            clear h
            rw [TV.out.con3]
            go_wp2_with fail
            refine (fs_begin F15.out (by show s2.so - 1 < 16; omega) (by omega) (by omega)).mono ?_
            rintro e w16 ⟨rfl, h, -⟩
            have F16 := Lib.hid h
            clear h
            rw [show (comS s2 b).next = c from HC.out]
            go_wp2_with fail
            refine (F16.out.vis (by omega) (by omega) c b (by omega) (by omega) (by omega) (by omega)).mono ?_
            rintro e w17 ⟨rfl, h⟩
            have F17 := Lib.hid h
            clear h
            rw [TV4.out]
            go_wp2_with fail
            refine (F17.out.con (by omega) (by omega) c b (by omega) (by omega) (by omega) (by omega)).mono ?_
            rintro e w18 ⟨rfl, h⟩
            have F18 := Lib.hid h
            clear h
            rw [TC4.out]
            go_wp2_with fail
            refine (F18.out.all b (by omega) (by omega)).mono ?_
            rintro e w19 ⟨r, rfl, hr, h⟩
            have F19 := Lib.hid h
            obtain rfl : r = false := by
              cases r with
              | false => rfl
              | true => exact absurd (hr.1 rfl) (TV.out.all4 VB.out)
            clear h hr
            go_wp2_with fail
            refine (fs_abort F19.out (by omega) a _ VB.out OB.out).mono ?_
            rintro e w20 ⟨rfl, h, -⟩
            have F20 := Lib.hid h
            clear h
            go_wp2_with fail
            refine (F20.out.con (by omega) (by omega) c a (by omega) (by omega) (by omega) (by omega)).mono ?_
            rintro e w21 ⟨rfl, h⟩
            have F21 := Lib.hid h
            clear h
            rw [TC5.out]
            go_wp2_with fail
            refine (F21.out.vis (by omega) (by omega) c a (by omega) (by omega) (by omega) (by omega)).mono ?_
            rintro e w22 ⟨rfl, h⟩
            have F22 := Lib.hid h
            clear h
            rw [TV5.out]
            go_wp2_with fail
            refine (awake14 (w := _)).mono ?_
            rintro e wz ⟨rfl, hb⟩
            have BZ := Lib.hid (bthen F22.out.low hb)
            clear hb
            go_wp2_with fail
            go_ret
            exact ⟨rfl, BZ.out⟩
      · skip
        obtain ⟨K, hK, F⟩ : ∃ K, K ≤ 40 ∧ Hid (FST w (N : Int) g bo bc bd bg K s _) := ⟨_, by omega, F1⟩
        go_wp2_with fail
        refine (open_any F.out.tab).mono ?_
        rintro e wo ⟨v, ss, rfl, hK1, hO, hb⟩
        have FO := Lib.hid (F.out.below hb)
        have hlen := hK1.len
        have l16 := F.out.tab.ok.so16
        obtain ⟨ln, hln⟩ : ∃ ln, ln = ss.length := ⟨_, rfl⟩
        clear hb
        by_cases h12 : 12 < ln
        · obtain ⟨x0, x1, x2, x3, ts, rfl⟩ := four (xs := ss) (by omega)
          obtain ⟨Al, cl, rfl, hR⟩ := hO.slice
          obtain ⟨bl, ol, rfl, -⟩ := hR.at_ (j := 0) (by simp)
          have Q0 := Lib.hid hO
          have e0 := own_cell hO (j := 0) rfl
          rw [Nat.add_zero] at e0
          have up := hK1.up
          simp only [List.pairwise_cons, List.mem_cons, forall_eq_or_imp] at up
          have W0 := Lib.hid (hK1.wf x0 (by simp))
          have W1 := Lib.hid (hK1.wf x1 (by simp))
          have W2 := Lib.hid (hK1.wf x2 (by simp))
          have W3 := Lib.hid (hK1.wf x3 (by simp))
          obtain ⟨p0, hp0⟩ := Option.isSome_iff_exists.1 ((hK1.has x0 W0.out).1 (by simp))
          obtain ⟨p1, hp1⟩ := Option.isSome_iff_exists.1 ((hK1.has x1 W1.out).1 (by simp))
          obtain ⟨p2, hp2⟩ := Option.isSome_iff_exists.1 ((hK1.has x2 W2.out).1 (by simp))
          obtain ⟨p3, hp3⟩ := Option.isSome_iff_exists.1 ((hK1.has x3 W3.out).1 (by simp))
          have n01 : x0 < x1 := up.1.1
          have n12 : x1 < x2 := up.2.1.1
          have n23 : x2 < x3 := up.2.2.1.1
          have P0 := Lib.hid hp0
          have P1 : Hid ((aboS s x0).op x1 = some p1) := by show _ = _; rw [abo_other (by omega)]; exact hp1
          have P2 : Hid ((aboS (aboS s x0) x1).op x2 = some p2) := by show _ = _; rw [abo_other (by omega), abo_other (by omega)]; exact hp2
          have P3 : Hid ((aboS (aboS (aboS s x0) x1) x2).op x3 = some p3) := by show _ = _; rw [abo_other (by omega), abo_other (by omega), abo_other (by omega)]; exact hp3
          have A0 := FO
          rw [← hln]
          have i12 : (12 : Int) < (ln : Int) := by omega
          have i0 : (0 : Int) < (ln : Int) := by omega
          have i1 : (1 : Int) < (ln : Int) := by omega
          have i2 : (2 : Int) < (ln : Int) := by omega
          have i3 : (3 : Int) < (ln : Int) := by omega
          clear hO hR up hp0 hp1 hp2 hp3 n01 n12 n23 hK1
          go_wp2_with fail
          refine (fs_abort A0.out (by omega) x0 p0 W0.out P0.out).mono ?_
          rintro e v0 ⟨rfl, h, ho⟩
          have A1 := Lib.hid h
          have Q1 := Lib.hid (Q0.out.own A0.out.tab ho)
          have e1 := own_cell Q1.out (j := 1) rfl
          clear h ho
          go_wp2_with fail
          refine (fs_abort A1.out (by omega) x1 p1 W1.out P1.out).mono ?_
          rintro e v1 ⟨rfl, h, ho⟩
          have A2 := Lib.hid h
          have Q2 := Lib.hid (Q1.out.own A1.out.tab ho)
          have e2 := own_cell Q2.out (j := 2) rfl
          clear h ho
          go_wp2_with fail
          refine (fs_abort A2.out (by omega) x2 p2 W2.out P2.out).mono ?_
          rintro e v2 ⟨rfl, h, ho⟩
          have A3 := Lib.hid h
          have Q3 := Lib.hid (Q2.out.own A2.out.tab ho)
          have e3 := own_cell Q3.out (j := 3) rfl
          clear h ho
          go_wp2_with fail
          refine (fs_abort A3.out (by omega) x3 p3 W3.out P3.out).mono ?_
          rintro e v3 ⟨rfl, h, ho⟩
          have A4 := Lib.hid h
          clear h ho

          obtain ⟨s5, hs5⟩ : ∃ s5, s5 = aboS (aboS (aboS (aboS s x0) x1) x2) x3 := ⟨_, rfl⟩
          have so5 : s5.so ≤ 12 := by rw [hs5]; show s.so - 1 - 1 - 1 - 1 ≤ 12; omega
          have F5 := A4
          rw [← hs5] at F5
          clear hs5
          go_wp2_with fail
          refine (fs_begin F5.out (by omega) (by omega) (by omega)).mono ?_
          rintro e wa ⟨rfl, h, -⟩
          have F6 := Lib.hid h
          clear h
          go_wp2_with fail
          refine (fs_begin F6.out (by show s5.so + 1 < 16; omega) (by omega) (by omega)).mono ?_
          rintro e wb ⟨rfl, h, -⟩
          have TW := two_new F5.out.tab.ok F5.out.cml
          rw [show (begS s5).next = s5.next + 1 from rfl]
          obtain ⟨a, ha⟩ : ∃ a, a = s5.next := ⟨_, rfl⟩
          rw [← ha] at TW ⊢
          obtain ⟨b, hb⟩ : ∃ b, b = a + 1 := ⟨_, rfl⟩
          rw [← hb] at TW ⊢
          obtain ⟨s2, hs2⟩ : ∃ s2, s2 = begS (begS s5) := ⟨_, rfl⟩
          have so2 : s2.so ≤ 14 := by rw [hs2]; show s5.so + 1 + 1 ≤ 14; omega
          have nx2 := h.nx
          have a0 : 0 ≤ a := by rw [ha]; have h1 := F5.out.tab.ok.f1; have h2 := F5.out.tab.ok.fn; omega
          rw [← hs2] at TW h nx2
          have na2 := TW.nb
          obtain ⟨c, hc⟩ : ∃ c, c = s2.next := ⟨_, rfl⟩
          have HC : Hid (s2.next = c) := Lib.hid hc.symm
          have F7 := Lib.hid h
          have T2 := Lib.hid TW
          have qne : (a == b) = false := by rw [beq_eq_false_iff_ne]; omega
          rw [← hc] at nx2 na2
          have a1 : a ≤ 2000 := by omega
          have b0 : 0 ≤ b := by omega
          have b1 : b ≤ 2000 := by omega
          have cc0 : 0 ≤ c := by omega
          have cc1 : c ≤ 2000 := by omega
          clear h TW ha hb hs2 hc nx2 na2
          cases sw with
          | false =>
            have TV4 : Hid (visB (begS (comS s2 a)) c a = true) := by show _ = _; rw [← HC.out]; exact (T2.out).vis4
            have TC4 : Hid (conT (begS (comS s2 a)) c a = 0) := by show _ = _; rw [← HC.out]; exact (T2.out).con4
            have TC5 : Hid (conT (aboS (begS (comS s2 a)) b) c b = 0) := by show _ = _; rw [← HC.out]; exact (T2.out).con5
            have TV5 : Hid (visB (aboS (begS (comS s2 a)) b) c b = false) := by show _ = _; rw [← HC.out]; exact (T2.out).vis5
            have TV := Lib.hid (T2.out)
            have VA : Hid (wf64 a) := by show wf64 _; exact ⟨by omega, by omega⟩
            have VB : Hid (wf64 b) := by show wf64 _; exact ⟨by omega, by omega⟩
            have OA := Lib.hid TV.out.oa
            have OB := Lib.hid (beg_b TV.out)
            go_wp2_with fail
            refine (F7.out.vis (by omega) (by omega) a b (by omega) (by omega) (by omega) (by omega)).mono ?_
            rintro e w8 ⟨rfl, h⟩
            have F8 := Lib.hid h
            clear h
            rw [TV.out.vis]
            go_wp2_with fail
            refine (F8.out.vis (by omega) (by omega) b a (by omega) (by omega) (by omega) (by omega)).mono ?_
            rintro e w9 ⟨rfl, h⟩
            have F9 := Lib.hid h
            clear h
            rw [TV.out.swap.vis]
            go_wp2_with fail
            refine (F9.out.con (by omega) (by omega) a b (by omega) (by omega) (by omega) (by omega)).mono ?_
            rintro e w10 ⟨rfl, h⟩
            have F10 := Lib.hid h
            clear h
            rw [TV.out.con]
            go_wp2_with fail
            refine (F10.out.con (by omega) (by omega) b a (by omega) (by omega) (by omega) (by omega)).mono ?_
            rintro e w11 ⟨rfl, h⟩
            have F11 := Lib.hid h
            clear h
            rw [TV.out.swap.con]
            go_wp2_with fail
            refine (F11.out.con (by omega) (by omega) a a (by omega) (by omega) (by omega) (by omega)).mono ?_
            rintro e w12 ⟨rfl, h⟩
            have F12 := Lib.hid h
            clear h
            rw [TV.out.self]
            go_wp2_with fail
            refine (fs_commit F12.out (by omega) a _ VA.out OA.out).mono ?_
            rintro e w13 ⟨rfl, h, -⟩
            have F13 := Lib.hid h
            clear h
            go_wp2_with fail
            refine (F13.out.vis (by omega) (by omega) b a (by omega) (by omega) (by omega) (by omega)).mono ?_
            rintro e w14 ⟨rfl, h⟩
            have F14 := Lib.hid h
            clear h
            rw [TV.out.vis3]
            go_wp2_with fail
            refine (F14.out.con (by omega) (by omega) b a (by omega) (by omega) (by omega) (by omega)).mono ?_
            rintro e w15 ⟨rfl, h⟩
            have F15 := Lib.hid h
            clear h
            rw [TV.out.con3]
            go_wp2_with fail
            refine (fs_begin F15.out (by show s2.so - 1 < 16; omega) (by omega) (by omega)).mono ?_
            rintro e w16 ⟨rfl, h, -⟩
            have F16 := Lib.hid h
            clear h
            rw [show (comS s2 a).next = c from HC.out]
            go_wp2_with fail
            refine (F16.out.vis (by omega) (by omega) c a (by omega) (by omega) (by omega) (by omega)).mono ?_
            rintro e w17 ⟨rfl, h⟩
            have F17 := Lib.hid h
            clear h
            rw [TV4.out]
            go_wp2_with fail
            refine (F17.out.con (by omega) (by omega) c a (by omega) (by omega) (by omega) (by omega)).mono ?_
            rintro e w18 ⟨rfl, h⟩
            have F18 := Lib.hid h
            clear h
            rw [TC4.out]
            go_wp2_with fail
            refine (F18.out.all a (by omega) (by omega)).mono ?_
            rintro e w19 ⟨r, rfl, hr, h⟩
            have F19 := Lib.hid h
            obtain rfl : r = false := by
              cases r with
              | false => rfl
              | true => exact absurd (hr.1 rfl) (TV.out.all4 VB.out)
            clear h hr
            go_wp2_with fail
            refine (fs_abort F19.out (by omega) b _ VB.out OB.out).mono ?_
            rintro e w20 ⟨rfl, h, -⟩
            have F20 := Lib.hid h
            clear h
            go_wp2_with fail
            refine (F20.out.con (by omega) (by omega) c b (by omega) (by omega) (by omega) (by omega)).mono ?_
            rintro e w21 ⟨rfl, h⟩
            have F21 := Lib.hid h
            clear h
            rw [TC5.out]
            go_wp2_with fail
            refine (F21.out.vis (by omega) (by omega) c b (by omega) (by omega) (by omega) (by omega)).mono ?_
            rintro e w22 ⟨rfl, h⟩
            have F22 := Lib.hid h
            clear h
            rw [TV5.out]
            go_wp2_with fail
            refine (awake14 (w := _)).mono ?_
            rintro e wz ⟨rfl, hb⟩
            have BZ := Lib.hid (bthen F22.out.low hb)
            clear hb
            go_wp2_with fail
            go_ret
            exact ⟨rfl, BZ.out⟩
          | true =>
            have TV4 : Hid (visB (begS (comS s2 b)) c b = true) := by show _ = _; rw [← HC.out]; exact (T2.out.swap).vis4
            have TC4 : Hid (conT (begS (comS s2 b)) c b = 0) := by show _ = _; rw [← HC.out]; exact (T2.out.swap).con4
            have TC5 : Hid (conT (aboS (begS (comS s2 b)) a) c a = 0) := by show _ = _; rw [← HC.out]; exact (T2.out.swap).con5
            have TV5 : Hid (visB (aboS (begS (comS s2 b)) a) c a = false) := by show _ = _; rw [← HC.out]; exact (T2.out.swap).vis5
            have TV := Lib.hid (T2.out.swap)
            have VA : Hid (wf64 b) := by show wf64 _; exact ⟨by omega, by omega⟩
            have VB : Hid (wf64 a) := by show wf64 _; exact ⟨by omega, by omega⟩
            have OA := Lib.hid TV.out.oa
            have OB := Lib.hid (beg_b TV.out)
            go_wp2_with fail
            refine (F7.out.vis (by omega) (by omega) b a (by omega) (by omega) (by omega) (by omega)).mono ?_
            rintro e w8 ⟨rfl, h⟩
            have F8 := Lib.hid h
            clear h
            rw [TV.out.vis]
            go_wp2_with fail
            refine (F8.out.vis (by omega) (by omega) a b (by omega) (by omega) (by omega) (by omega)).mono ?_
            rintro e w9 ⟨rfl, h⟩
            have F9 := Lib.hid h
            clear h
            rw [TV.out.swap.vis]
            go_wp2_with fail
            refine (F9.out.con (by omega) (by omega) b a (by omega) (by omega) (by omega) (by omega)).mono ?_
            rintro e w10 ⟨rfl, h⟩
            have F10 := Lib.hid h
            clear h
            rw [TV.out.con]
            go_wp2_with fail
            refine (F10.out.con (by omega) (by omega) a b (by omega) (by omega) (by omega) (by omega)).mono ?_
            rintro e w11 ⟨rfl, h⟩
            have F11 := Lib.hid h
            clear h
            rw [TV.out.swap.con]
            go_wp2_with fail
            refine (F11.out.con (by omega) (by omega) b b (by omega) (by omega) (by omega) (by omega)).mono ?_
            rintro e w12 ⟨rfl, h⟩
            have F12 := Lib.hid h
            clear h
            rw [TV.out.self]
            go_wp2_with fail
            refine (fs_commit F12.out (by omega) b _ VA.out OA.out).mono ?_
            rintro e w13 ⟨rfl, h, -⟩
            have F13 := Lib.hid h
            clear h
            go_wp2_with fail
            refine (F13.out.vis (by omega) (by omega) a b (by omega) (by omega) (by omega) (by omega)).mono ?_
            rintro e w14 ⟨rfl, h⟩
            have F14 := Lib.hid h
            clear h
            rw [TV.out.vis3]
            go_wp2_with fail
            refine (F14.out.con (by omega) (by omega) a b (by omega) (by omega) (by omega) (by omega)).mono ?_
            rintro e w15 ⟨rfl, h⟩
            have F15 := Lib.hid h
            clear h
            rw [TV.out.con3]
            go_wp2_with fail
            refine (fs_begin F15.out (by show s2.so - 1 < 16; omega) (by omega) (by omega)).mono ?_
            rintro e w16 ⟨rfl, h, -⟩
            have F16 := Lib.hid h
            clear h
            rw [show (comS s2 b).next = c from HC.out]
            go_wp2_with fail
            refine (F16.out.vis (by omega) (by omega) c b (by omega) (by omega) (by omega) (by omega)).mono ?_
            rintro e w17 ⟨rfl, h⟩
            have F17 := Lib.hid h
            clear h
            rw [TV4.out]
            go_wp2_with fail
            refine (F17.out.con (by omega) (by omega) c b (by omega) (by omega) (by omega) (by omega)).mono ?_
            rintro e w18 ⟨rfl, h⟩
            have F18 := Lib.hid h
            clear h
            rw [TC4.out]
            go_wp2_with fail
            refine (F18.out.all b (by omega) (by omega)).mono ?_
            rintro e w19 ⟨r, rfl, hr, h⟩
            have F19 := Lib.hid h
            obtain rfl : r = false := by
              cases r with
              | false => rfl
              | true => exact absurd (hr.1 rfl) (TV.out.all4 VB.out)
            clear h hr
            go_wp2_with fail
            refine (fs_abort F19.out (by omega) a _ VB.out OB.out).mono ?_
            rintro e w20 ⟨rfl, h, -⟩
            have F20 := Lib.hid h
            clear h
            go_wp2_with fail
            refine (F20.out.con (by omega) (by omega) c a (by omega) (by omega) (by omega) (by omega)).mono ?_
            rintro e w21 ⟨rfl, h⟩
            have F21 := Lib.hid h
            clear h
            rw [TC5.out]
            go_wp2_with fail
            refine (F21.out.vis (by omega) (by omega) c a (by omega) (by omega) (by omega) (by omega)).mono ?_
            rintro e w22 ⟨rfl, h⟩
            have F22 := Lib.hid h
            clear h
            rw [TV5.out]
            go_wp2_with fail
            refine (awake14 (w := _)).mono ?_
            rintro e wz ⟨rfl, hb⟩
            have BZ := Lib.hid (bthen F22.out.low hb)
            clear hb
            go_wp2_with fail
            go_ret
            exact ⟨rfl, BZ.out⟩
        · obtain ⟨Al, cl, rfl, hR⟩ := hO.slice
          have i12 : decide ((12 : Int) < (ln : Int)) = false := decide_eq_false (by omega)
          rw [← hln]
          obtain ⟨s5, rfl⟩ : ∃ s5, s5 = s := ⟨_, rfl⟩
          have so5 : s5.so ≤ 12 := by omega
          have F5 := FO
          clear hO hR hK1
          go_wp2_with fail
          refine (fs_begin F5.out (by omega) (by omega) (by omega)).mono ?_
          rintro e wa ⟨rfl, h, -⟩
          have F6 := Lib.hid h
          clear h
          go_wp2_with fail
          refine (fs_begin F6.out (by show s5.so + 1 < 16; omega) (by omega) (by omega)).mono ?_
          rintro e wb ⟨rfl, h, -⟩
          have TW := two_new F5.out.tab.ok F5.out.cml
          rw [show (begS s5).next = s5.next + 1 from rfl]
          obtain ⟨a, ha⟩ : ∃ a, a = s5.next := ⟨_, rfl⟩
          rw [← ha] at TW ⊢
          obtain ⟨b, hb⟩ : ∃ b, b = a + 1 := ⟨_, rfl⟩
          rw [← hb] at TW ⊢
          obtain ⟨s2, hs2⟩ : ∃ s2, s2 = begS (begS s5) := ⟨_, rfl⟩
          have so2 : s2.so ≤ 14 := by rw [hs2]; show s5.so + 1 + 1 ≤ 14; omega
          have nx2 := h.nx
          have a0 : 0 ≤ a := by rw [ha]; have h1 := F5.out.tab.ok.f1; have h2 := F5.out.tab.ok.fn; omega
          rw [← hs2] at TW h nx2
          have na2 := TW.nb
          obtain ⟨c, hc⟩ : ∃ c, c = s2.next := ⟨_, rfl⟩
          have HC : Hid (s2.next = c) := Lib.hid hc.symm
          have F7 := Lib.hid h
          have T2 := Lib.hid TW
          have qne : (a == b) = false := by rw [beq_eq_false_iff_ne]; omega
          rw [← hc] at nx2 na2
          have a1 : a ≤ 2000 := by omega
          have b0 : 0 ≤ b := by omega
          have b1 : b ≤ 2000 := by omega
          have cc0 : 0 ≤ c := by omega
          have cc1 : c ≤ 2000 := by omega
          clear h TW ha hb hs2 hc nx2 na2
          cases sw with
          | false =>
            have TV4 : Hid (visB (begS (comS s2 a)) c a = true) := by show _ = _; rw [← HC.out]; exact (T2.out).vis4
            have TC4 : Hid (conT (begS (comS s2 a)) c a = 0) := by show _ = _; rw [← HC.out]; exact (T2.out).con4
            have TC5 : Hid (conT (aboS (begS (comS s2 a)) b) c b = 0) := by show _ = _; rw [← HC.out]; exact (T2.out).con5
            have TV5 : Hid (visB (aboS (begS (comS s2 a)) b) c b = false) := by show _ = _; rw [← HC.out]; exact (T2.out).vis5
            have TV := Lib.hid (T2.out)
            have VA : Hid (wf64 a) := by show wf64 _; exact ⟨by omega, by omega⟩
            have VB : Hid (wf64 b) := by show wf64 _; exact ⟨by omega, by omega⟩
            have OA := Lib.hid TV.out.oa
            have OB := Lib.hid (beg_b TV.out)
            go_wp2_with fail
            refine (F7.out.vis (by omega) (by omega) a b (by omega) (by omega) (by omega) (by omega)).mono ?_
            rintro e w8 ⟨rfl, h⟩
            have F8 := Lib.hid h
            clear h
            rw [TV.out.vis]
            go_wp2_with fail
            refine (F8.out.vis (by omega) (by omega) b a (by omega) (by omega) (by omega) (by omega)).mono ?_
            rintro e w9 ⟨rfl, h⟩
            have F9 := Lib.hid h
            clear h
            rw [TV.out.swap.vis]
            go_wp2_with fail
            refine (F9.out.con (by omega) (by omega) a b (by omega) (by omega) (by omega) (by omega)).mono ?_
            rintro e w10 ⟨rfl, h⟩
            have F10 := Lib.hid h
            clear h
            rw [TV.out.con]
            go_wp2_with fail
            refine (F10.out.con (by omega) (by omega) b a (by omega) (by omega) (by omega) (by omega)).mono ?_
            rintro e w11 ⟨rfl, h⟩
            have F11 := Lib.hid h
            clear h
            rw [TV.out.swap.con]
            go_wp2_with fail
            refine (F11.out.con (by omega) (by omega) a a (by omega) (by omega) (by omega) (by omega)).mono ?_
            rintro e w12 ⟨rfl, h⟩
            have F12 := Lib.hid h
            clear h
            rw [TV.out.self]
            go_wp2_with fail
            refine (fs_commit F12.out (by omega) a _ VA.out OA.out).mono ?_
            rintro e w13 ⟨rfl, h, -⟩
            have F13 := Lib.hid h
            clear h
            go_wp2_with fail
            refine (F13.out.vis (by omega) (by omega) b a (by omega) (by omega) (by omega) (by omega)).mono ?_
            rintro e w14 ⟨rfl, h⟩
            have F14 := Lib.hid h
            clear h
            rw [TV.out.vis3]
            go_wp2_with fail
            refine (F14.out.con (by omega) (by omega) b a (by omega) (by omega) (by omega) (by omega)).mono ?_
            rintro e w15 ⟨rfl, h⟩
            have F15 := Lib.hid h
            clear h
            rw [TV.out.con3]
            go_wp2_with fail
            refine (fs_begin F15.out (by show s2.so - 1 < 16; omega) (by omega) (by omega)).mono ?_
            rintro e w16 ⟨rfl, h, -⟩
            have F16 := Lib.hid h
            clear h
            rw [show (comS s2 a).next = c from HC.out]
            go_wp2_with fail
            refine (F16.out.vis (by omega) (by omega) c a (by omega) (by omega) (by omega) (by omega)).mono ?_
            rintro e w17 ⟨rfl, h⟩
            have F17 := Lib.hid h
            clear h
            rw [TV4.out]
            go_wp2_with fail
            refine (F17.out.con (by omega) (by omega) c a (by omega) (by omega) (by omega) (by omega)).mono ?_
            rintro e w18 ⟨rfl, h⟩
            have F18 := Lib.hid h
            clear h
            rw [TC4.out]
            go_wp2_with fail
            refine (F18.out.all a (by omega) (by omega)).mono ?_
            rintro e w19 ⟨r, rfl, hr, h⟩
            have F19 := Lib.hid h
            obtain rfl : r = false := by
              cases r with
              | false => rfl
              | true => exact absurd (hr.1 rfl) (TV.out.all4 VB.out)
            clear h hr
            go_wp2_with fail
            refine (fs_abort F19.out (by omega) b _ VB.out OB.out).mono ?_
            rintro e w20 ⟨rfl, h, -⟩
            have F20 := Lib.hid h
            clear h
            go_wp2_with fail
            refine (F20.out.con (by omega) (by omega) c b (by omega) (by omega) (by omega) (by omega)).mono ?_
            rintro e w21 ⟨rfl, h⟩
            have F21 := Lib.hid h
            clear h
            rw [TC5.out]
            go_wp2_with fail
            refine (F21.out.vis (by omega) (by omega) c b (by omega) (by omega) (by omega) (by omega)).mono ?_
            rintro e w22 ⟨rfl, h⟩
            have F22 := Lib.hid h
            clear h
            rw [TV5.out]
            go_wp2_with fail
            refine (awake14 (w := _)).mono ?_
            rintro e wz ⟨rfl, hb⟩
            have BZ := Lib.hid (bthen F22.out.low hb)
            clear hb
            go_wp2_with fail
            go_ret
            exact ⟨rfl, BZ.out⟩
          | true =>
            have TV4 : Hid (visB (begS (comS s2 b)) c b = true) := by show _ = _; rw [← HC.out]; exact (T2.out.swap).vis4
            have TC4 : Hid (conT (begS (comS s2 b)) c b = 0) := by show _ = _; rw [← HC.out]; exact (T2.out.swap).con4
            have TC5 : Hid (conT (aboS (begS (comS s2 b)) a) c a = 0) := by show _ = _; rw [← HC.out]; exact (T2.out.swap).con5
            have TV5 : Hid (visB (aboS (begS (comS s2 b)) a) c a = false) := by show _ = _; rw [← HC.out]; exact (T2.out.swap).vis5
            have TV := Lib.hid (T2.out.swap)
            have VA : Hid (wf64 b) := by show wf64 _; exact ⟨by omega, by omega⟩
            have VB : Hid (wf64 a) := by show wf64 _; exact ⟨by omega, by omega⟩
            have OA := Lib.hid TV.out.oa
            have OB := Lib.hid (beg_b TV.out)
            go_wp2_with fail
            refine (F7.out.vis (by omega) (by omega) b a (by omega) (by omega) (by omega) (by omega)).mono ?_
            rintro e w8 ⟨rfl, h⟩
            have F8 := Lib.hid h
            clear h
            rw [TV.out.vis]
            go_wp2_with fail
            refine (F8.out.vis (by omega) (by omega) a b (by omega) (by omega) (by omega) (by omega)).mono ?_
            rintro e w9 ⟨rfl, h⟩
            have F9 := Lib.hid h
            clear h
            rw [TV.out.swap.vis]
            go_wp2_with fail
            refine (F9.out.con (by omega) (by omega) b a (by omega) (by omega) (by omega) (by omega)).mono ?_
            rintro e w10 ⟨rfl, h⟩
            have F10 := Lib.hid h
            clear h
            rw [TV.out.con]
            go_wp2_with fail
            refine (F10.out.con (by omega) (by omega) a b (by omega) (by omega) (by omega) (by omega)).mono ?_
            rintro e w11 ⟨rfl, h⟩
            have F11 := Lib.hid h
            clear h
            rw [TV.out.swap.con]
            go_wp2_with fail
            refine (F11.out.con (by omega) (by omega) b b (by omega) (by omega) (by omega) (by omega)).mono ?_
            rintro e w12 ⟨rfl, h⟩
            have F12 := Lib.hid h
            clear h
            rw [TV.out.self]
            go_wp2_with fail
            refine (fs_commit F12.out (by omega) b _ VA.out OA.out).mono ?_
            rintro e w13 ⟨rfl, h, -⟩
            have F13 := Lib.hid h
            clear h
            go_wp2_with fail
            refine (F13.out.vis (by omega) (by omega) a b (by omega) (by omega) (by omega) (by omega)).mono ?_
            rintro e w14 ⟨rfl, h⟩
            have F14 := Lib.hid h
            clear h
            rw [TV.out.vis3]
            go_wp2_with fail
            refine (F14.out.con (by omega) (by omega) a b (by omega) (by omega) (by omega) (by omega)).mono ?_
            rintro e w15 ⟨rfl, h⟩
            have F15 := Lib.hid h
            clear h
            rw [TV.out.con3]
            go_wp2_with fail
            refine (fs_begin F15.out (by show s2.so - 1 < 16; omega) (by omega) (by omega)).mono ?_
            rintro e w16 ⟨rfl, h, -⟩
            have F16 := Lib.hid h
            clear h
            rw [show (comS s2 b).next = c from HC.out]
            go_wp2_with fail
            refine (F16.out.vis (by omega) (by omega) c b (by omega) (by omega) (by omega) (by omega)).mono ?_
            rintro e w17 ⟨rfl, h⟩
            have F17 := Lib.hid h
            clear h
            rw [TV4.out]
            go_wp2_with fail
            refine (F17.out.con (by omega) (by omega) c b (by omega) (by omega) (by omega) (by omega)).mono ?_
            rintro e w18 ⟨rfl, h⟩
            have F18 := Lib.hid h
            clear h
            rw [TC4.out]
            go_wp2_with fail
            refine (F18.out.all b (by omega) (by omega)).mono ?_
            rintro e w19 ⟨r, rfl, hr, h⟩
            have F19 := Lib.hid h
            obtain rfl : r = false := by
              cases r with
              | false => rfl
              | true => exact absurd (hr.1 rfl) (TV.out.all4 VB.out)
            clear h hr
            go_wp2_with fail
            refine (fs_abort F19.out (by omega) a _ VB.out OB.out).mono ?_
            rintro e w20 ⟨rfl, h, -⟩
            have F20 := Lib.hid h
            clear h
            go_wp2_with fail
            refine (F20.out.con (by omega) (by omega) c a (by omega) (by omega) (by omega) (by omega)).mono ?_
            rintro e w21 ⟨rfl, h⟩
            have F21 := Lib.hid h
            clear h
            rw [TC5.out]
            go_wp2_with fail
            refine (F21.out.vis (by omega) (by omega) c a (by omega) (by omega) (by omega) (by omega)).mono ?_
            rintro e w22 ⟨rfl, h⟩
            have F22 := Lib.hid h
            clear h
            rw [TV5.out]
            go_wp2_with fail
            refine (awake14 (w := _)).mono ?_
            rintro e wz ⟨rfl, hb⟩
            have BZ := Lib.hid (bthen F22.out.low hb)
            clear hb
            go_wp2_with fail
            go_ret
            exact ⟨rfl, BZ.out⟩

end Go.Proofs.Ytlfplcidgccgdaa.Y
