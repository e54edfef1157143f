/-
  SnapshotStays' walk.
-/
import Derived.Test.YtlfplcidgccgdaaN8
set_option linter.unusedVariables false
set_option linter.unusedSimpArgs false
namespace Go.Proofs.Ytlfplcidgccgdaa.Y
open Go.RowKit Go.Maps
attribute [local go_sem ↓] Go.wp_at_zero Go.wp_at_succ

set_option maxHeartbeats 12800000 in
set_option maxRecDepth 100000 in
theorem snapshotStays_walk (x : Int) (A1 : Option Addr) (c1 : Nat) (l1 : List Int) (w : World) (v0 : (Lit.int .i64 x).wf = true)
    (r1 : RdI w A1 l1) (i1 : Ints l1) (h1 : l1.length ≤ c1) (m1 : c1 ≤ maxLen) (y1 : l1.length ≤ 17592186043904) :
    Calls Try.prog 3 #[.int .i64 x, .slice A1 l1.length c1] w fun e w' => e = .returned (.bool true) ∧ Below w.heap.size w w' := by
  obtain ⟨l, hl⟩ : ∃ l, l = l1.length := ⟨_, rfl⟩
  rw [← hl] at h1 y1 ⊢
  have HL := Lib.hid hl.symm
  have HR := Lib.hid r1
  have HI := Lib.hid i1
  obtain ⟨x1, x2⟩ := int_wf64 v0
  have PK := Lib.hid (pick_any (w := w) x 9 (by decide) (by decide) x1 x2)
  obtain ⟨m, hm⟩ := Int.eq_ofNat_of_zero_le (show 0 ≤ x % ((9 : Nat) : Int) by omega)
  have hm9 : m < 9 := by omega
  have HM := Lib.hid hm
  obtain ⟨N, hN⟩ : ∃ N : Nat, N = m + 1 := ⟨_, rfl⟩
  have HN : Hid (1 + (m : Int) = (N : Int)) := by show _ = _; rw [hN]; omega
  have hN1 : 1 ≤ N := by omega
  have hN9 : N ≤ 9 := by omega
  have N0 : (0 : Int) ≤ (N : Int) := by omega
  clear hl r1 i1 m1 v0 x1 x2 hm hN
  go_enter Try.func3, Try.ntmps3
  go_wp2_with fail
  refine PK.out.mono ?_
  rintro e w' ⟨rfl, rfl⟩
  rw [HM.out]
  go_wp2_with fail
  rw [HN.out]
  refine (tnew_nil (N : Int) (by omega) (by omega) none 0).mono ?_
  rintro e w2 ⟨g, bo, bc, bd, bg, rfl, hh, hf, hb⟩
  have H2 := Lib.hid hh
  have HF := Lib.hid hf
  have B2 := Lib.hid hb
  clear hh hf hb
  go_wp2_with fail
  refine (next_any H2.out).mono ?_
  rintro e w' ⟨rfl, rfl⟩
  rw [show (newS (N : Int)).next = (N : Int) from rfl]
  go_wp2_with fail
  refine (begin_ok H2.out (show (0 : Nat) < 16 by decide) (by show (N : Int) < _; omega)).mono ?_
  rintro e w3 ⟨rfl, hh, ht⟩
  rw [show (newS (N : Int)).next = (N : Int) from rfl]
  obtain ⟨s1, hs1⟩ : ∃ s1, s1 = begS (newS (N : Int)) := ⟨_, rfl⟩
  rw [← hs1] at hh
  have H3 := Lib.hid hh
  have B3 := Lib.hid (B2.out.trans (ht.toBelow B2.out.size (fun j e => HF.out j (e.elim .inl (fun e => .inr (.inl e))))))
  have NX1 : Hid (s1.next = (N : Int) + 1) := by show _ = _; rw [hs1]; rfl
  have IV1 : Hid (SInv N s1) := by
    show SInv _ _
    rw [hs1]
    exact ⟨hN1, rfl, by show updM _ (N : Int) _ (N : Int) = _; unfold updM; rw [if_pos rfl]; rfl, by show (N : Int) < N + 1; omega, fun k v e => (by cases e), fun k v e => (by cases e), fun k v e => (by cases e)⟩
  have CN1 : Hid (s1.sc = 0 ∧ s1.sg = 0) := by show _ ∧ _; rw [hs1]; exact ⟨rfl, rfl⟩
  clear hh ht hs1
  go_wp2_with fail
  refine (next_any H3.out).mono ?_
  rintro e w' ⟨rfl, rfl⟩
  rw [NX1.out]
  go_wp2_with fail
  go_loopw [9, 10] (fun v i wr => ∃ j : Nat, 1 ≤ j ∧ j ≤ N ∧ i = .int .i64 j ∧ Hid (OwnI wr w.heap.size v (upto (j - 1)) ∧ TableAt wr g bo bc bd bg s1) ∧ Hid (Below w.heap.size w wr)) (fun _ i _ => N - (intOf i).toNat)
  case atStart => exact ⟨1, by decide, hN1, rfl, ⟨OwnI.nil _ _, H3.out⟩, B3⟩
  case round =>
    obtain ⟨j, hj1, hj2, rfl, hO, hb⟩ := hrel
    obtain ⟨Av, cv, rfl, -⟩ := hO.out.1.slice
    rw [upto_length]
    have up : Hid (upto (j - 1) ++ [(j : Int)] = upto j) := by
      show _ = _
      obtain ⟨i, rfl⟩ : ∃ i, j = i + 1 := ⟨j - 1, by omega⟩
      rw [upto_succ, Nat.add_sub_cancel]
      rfl
    by_cases hlt : j < N
    · have z0 : (0 : Int) ≤ (j : Int) := by omega
      have z1 : (j : Int) < (N : Int) := by omega
      go_wp2_with (at_builtin; refine wpList_append_int rfl (.tmp 41) (.tmp 43) 22 rfl w.heap.size Try.underlying22 info_int (.slice Av (j - 1) cv) (upto (j - 1)) rfl (by have := hO.out.1; rw [upto_length] at this; exact this.below (balloc (Below.refl _ _) _)) wr.heap.size rfl (j : Int) (by rw [cell_of_row _ _ _ _ _ _ (heap_alloc_new wr _)]; rfl) (by rw [upto_length]; omega) (balloc hb.out _).size ?_; intro v7 w7 ho7 hg7; rw [up.out] at ho7; obtain ⟨A7, c7, rfl, -⟩ := ho7.slice; have O7 := Lib.hid ho7; have hO2 := hO.out.1.below (balloc (Below.refl _ _) (.cells #[.int .i64 (j : Int)] 3)); rw [upto_length] at hO2; have T7 := Lib.hid ((Tch.refl (fun b => (Value.slice Av (j - 1) cv).ownBlock = some b) _).grown hg7 (fun j e => .inl e)); have H7 := Lib.hid ((hO.out.2.below (balloc (Below.refl _ _) (.cells #[.int .i64 (j : Int)] 3))).kept T7.out (fun k hk e => ft_rows (hO.out.2.below (balloc (Below.refl _ _) (.cells #[.int .i64 (j : Int)] 3))) hO2 k e hk)); have B7 := Lib.hid ((balloc hb.out (.cells #[.int .i64 (j : Int)] 3)).trans (T7.out.toBelow (balloc hb.out _).size (fun k hk => (World.ownsRow.lt hO2 k hk).1))); rw [upto_length] at *; clear ho7 hg7 hO2)
      go_roundw
      case rel => exact ⟨j + 1, by omega, by omega, by go_num, ⟨O7.out, H7.out⟩, B7⟩
      case measure => simp [intOf]; omega
    · obtain rfl : N = j := by omega
      go_wp2_with (at_builtin; refine wpList_append_int rfl (.tmp 45) (.tmp 47) 22 rfl w.heap.size Try.underlying22 info_int (.slice Av (N - 1) cv) (upto (N - 1)) rfl (by have := hO.out.1; rw [upto_length] at this; exact this.below (balloc (Below.refl _ _) _)) wr.heap.size rfl (N : Int) (by rw [cell_of_row _ _ _ _ _ _ (heap_alloc_new wr _)]; rfl) (by rw [upto_length]; omega) (balloc hb.out _).size ?_; intro v7 w7 ho7 hg7; rw [up.out] at ho7; obtain ⟨AS, cS, rfl, -⟩ := ho7.slice; have O7 := Lib.hid ho7; have hO2 := hO.out.1.below (balloc (Below.refl _ _) (.cells #[.int .i64 (N : Int)] 3)); rw [upto_length] at hO2; have T7 := Lib.hid ((Tch.refl (fun b => (Value.slice Av (N - 1) cv).ownBlock = some b) _).grown hg7 (fun j e => .inl e)); have H7 := Lib.hid ((hO.out.2.below (balloc (Below.refl _ _) (.cells #[.int .i64 (N : Int)] 3))).kept T7.out (fun k hk e => ft_rows (hO.out.2.below (balloc (Below.refl _ _) (.cells #[.int .i64 (N : Int)] 3))) hO2 k e hk)); have B7 := Lib.hid ((balloc hb.out (.cells #[.int .i64 (N : Int)] 3)).trans (T7.out.toBelow (balloc hb.out _).size (fun k hk => (World.ownsRow.lt hO2 k hk).1))); rw [upto_length] at *; clear ho7 hg7 hO2)
      have S7 : Hid (ST w N g bo bc bd bg (.slice AS N cS) 0 s1 w7) := ⟨H7.out, IV1.out, O7.out, by rw [CN1.out.1]; exact Nat.le_refl _, by rw [CN1.out.2]; exact Nat.le_refl _, by rw [NX1.out]; omega, B7.out, HF.out⟩
      clear hO hb up
      go_loopw [11] (fun i wr => ∃ k : Nat, k ≤ l ∧ k ≤ 50 ∧ i = .int .i64 k ∧ Hid (∃ s, ST w N g bo bc bd bg (.slice AS N cS) k s wr)) (fun i _ => 50 - (intOf i).toNat)
      case atStart => exact ⟨0, Nat.zero_le _, Nat.zero_le _, rfl, ⟨_, S7.out⟩⟩
      case round =>
        obtain ⟨k, hk, hk2, rfl, hi⟩ := hrel
        obtain ⟨s, hST⟩ := hi.out
        have ST0 := Lib.hid hST
        clear hi hST
        by_cases hgo : k < l ∧ k < 50
        · obtain ⟨hlt, hlt2⟩ := hgo
          have hkl : k < l1.length := by rw [HL.out]; exact hlt
          obtain ⟨b, o, rfl, p0⟩ := (HR.out.below ST0.out.low).at_ hkl
          obtain ⟨hx1, hx2⟩ := HI.out _ (List.getElem_mem hkl)
          generalize l1[k]'hkl = z at *
          have z0 : (0 : Int) ≤ (k : Int) := by omega
          have z1 : (k : Int) < (l : Int) := by omega
          have PK2 := Lib.hid (pick_big (w := wr) z 1000003 (by decide) (by decide) hx1 hx2)
          obtain ⟨y, hy⟩ : ∃ y, y = z % ((1000003 : Nat) : Int) := ⟨_, rfl⟩
          have hy0 : 0 ≤ y := by omega
          have hy1 : y ≤ 1000002 := by omega
          rw [← hy] at PK2
          clear hx1 hx2 hy
          obtain ⟨nx, hnx⟩ : ∃ nx, nx = s.next := ⟨_, rfl⟩
          have HNX := Lib.hid hnx
          have n1 : (N : Int) < nx := by rw [hnx]; exact ST0.out.inv.lt
          have n2 : nx ≤ 200 := by rw [hnx]; have := ST0.out.nx; omega
          have n3 : nx - (N : Int) ≠ 0 := by omega
          have n4 : 0 < nx - (N : Int) := by omega
          have r1 : 0 ≤ y / 5 % (nx - (N : Int)) := Int.emod_nonneg _ n3
          have r2 : y / 5 % (nx - (N : Int)) < nx - (N : Int) := Int.emod_lt_of_pos _ n4
          have q5 : 0 ≤ y / 5 := by omega
          clear hnx
          go_wp2_with fail
          refine PK2.out.mono ?_
          rintro e w' ⟨rfl, rfl⟩
          go_wp2_with fail
          refine (next_any ST0.out.tab).mono ?_
          rintro e w' ⟨rfl, rfl⟩
          rw [← HNX.out]
          go_upto_region 19 with (fail)
          obtain ⟨tx, htx⟩ : ∃ tx, tx = (N : Int) + y / 5 % (nx - (N : Int)) := ⟨_, rfl⟩
          rw [← htx]
          have t1 : (N : Int) ≤ tx := by omega
          have t2 : tx ≤ 200 := by omega
          clear htx r1 r2 q5 n3 n4
          by_cases hw : tx = N
          · have qw : ((tx : Int) == (N : Int)) = true := by rw [beq_iff_eq]; exact hw
            have HW := Lib.hid hw
            clear hw
            go_wp2_with fail
            refine (st_begin ST0.out (by omega) (by omega)).mono ?_
            rintro e w3' ⟨⟨rn, rr, rfl⟩, s3, hS3⟩
            have S3 := Lib.hid hS3
            have IV3 := Lib.hid hS3.inv
            obtain ⟨n3', hn3'⟩ : ∃ n3' : Nat, (n3' : Int) = s3.next + 2 := ⟨(s3.next + 2).toNat, by have := hS3.inv.lt; omega⟩
            have HN3 := Lib.hid hn3'
            have b3a : N + 3 ≤ n3' := by have := hS3.inv.lt; omega
            have b3b : n3' ≤ 1000 := by have := hS3.nx; omega
            obtain ⟨nx3, hnx3⟩ : ∃ nx3, nx3 = s3.next := ⟨_, rfl⟩
            rw [← hnx3] at hn3'
            have HX3 := Lib.hid hnx3
            have b3c : nx3 = (n3' : Int) - 2 := by omega
            have HB3 := Lib.hid b3c
            have b3d : nx3 ≤ 1000 := by omega
            have b3e : (0 : Int) ≤ nx3 := by omega
            clear hS3 hn3' hnx3 b3c
            obtain ⟨wo, hwo⟩ : ∃ wo, wo = w3' := ⟨_, rfl⟩
            rw [← hwo] at S3 ⊢
            clear hwo
            go_wp2_with fail
            go_loopw [14, 15] (fun v i wr => ∃ j : Nat, j ≤ n3' ∧ i = .int .i64 j ∧ Hid (OwnI wr wo.heap.size v (upto (min (j - 1) N)) ∧ ST w N g bo bc bd bg (.slice AS N cS) (k + 1) s3 wr ∧ Below wo.heap.size wo wr)) (fun _ i _ => n3' - (intOf i).toNat)
            case atStart => exact ⟨0, Nat.zero_le _, rfl, (show OwnI _ _ _ (upto (min (0 - 1) N)) from (by rw [show min (0 - 1) N = 0 from by omega]; exact OwnI.nil _ _)), S3.out, Below.refl _ _⟩
            case round =>
              obtain ⟨j, hj, rfl, hO⟩ := hrel
              obtain ⟨Av2, cv2, rfl, -⟩ := hO.out.1.slice
              rw [upto_length]
              by_cases hjl : j < n3'
              · have u0 : (0 : Int) ≤ (j : Int) := by omega
                have u1 : (j : Int) < nx3 + 2 := by have := HB3.out; omega
                by_cases hv : 1 ≤ j ∧ j ≤ N
                · have VB : Hid (visB s3 N j = true) := by show _ = _; rw [IV3.out.sees]; exact decide_eq_true (by omega)
                  have mn : min (j - 1) N = j - 1 := by omega
                  have mn2 : min (j + 1 - 1) N = j := by omega
                  have up : Hid (upto (j - 1) ++ [(j : Int)] = upto j) := by
                    show _ = _
                    obtain ⟨i, rfl⟩ : ∃ i, j = i + 1 := ⟨j - 1, by omega⟩
                    rw [upto_succ, Nat.add_sub_cancel]
                    rfl
                  have hO1 := hO.out.1
                  rw [mn, upto_length] at hO1
                  rw [mn]
                  have HO1 := Lib.hid hO1
                  have MN2 := Lib.hid mn2
                  clear mn mn2 hO1 hv
                  go_wp2_with fail
                  refine (next_any hO.out.2.1.tab).mono ?_
                  rintro e w' ⟨rfl, rfl⟩
                  rw [← HX3.out]
                  go_wp2_with fail
                  refine (visible_any hO.out.2.1.tab (N : Int) (j : Int) ⟨by omega, by omega⟩ ⟨by omega, by omega⟩).mono ?_
                  rintro e w4 ⟨rfl, q, hq⟩
                  rw [VB.out]
                  have b4 : Below wr.heap.size wr w4 := by rw [hq]; exact bdrewN (Below.refl _ _) q
                  have O4 := Lib.hid (HO1.out.below b4)
                  have S4 := Lib.hid (hO.out.2.1.below b4)
                  have B4 := Lib.hid (bthen hO.out.2.2 b4)
                  clear hq b4
                  go_wp2_with (at_builtin; refine wpList_append_int rfl (.tmp 109) (.tmp 111) 22 rfl wo.heap.size Try.underlying22 info_int (.slice Av2 (j - 1) cv2) (upto (j - 1)) rfl (O4.out.below (balloc (Below.refl _ _) _)) w4.heap.size rfl (j : Int) (by rw [cell_of_row _ _ _ _ _ _ (heap_alloc_new w4 _)]; rfl) (by rw [upto_length]; omega) (balloc B4.out _).size ?_; intro v5 w5 ho5 hg5; rw [up.out] at ho5; obtain ⟨A5, c5, rfl, -⟩ := ho5.slice; rw [upto_length] at ho5; have O5 := Lib.hid ho5; have hO2 := O4.out.below (balloc (Below.refl _ _) (.cells #[.int .i64 (j : Int)] 3)); have T5 := Lib.hid ((Tch.refl (fun b => (Value.slice Av2 (j - 1) cv2).ownBlock = some b) _).grown hg5 (fun j e => .inl e)); have S5 := Lib.hid ((S4.out.below (balloc (Below.refl _ _) (.cells #[.int .i64 (j : Int)] 3))).row T5.out hO2 S3.out.low.size (fun b hb e => by have h1 := (World.ownsRow.lt S3.out.sees b hb).2; have h2 := (World.ownsRow.lt hO2 b e).1; omega)); have B5 := Lib.hid ((balloc B4.out (.cells #[.int .i64 (j : Int)] 3)).trans (T5.out.toBelow (balloc B4.out _).size (fun k hk => (World.ownsRow.lt hO2 k hk).1))); rw [upto_length] at *; clear ho5 hg5 hO2)
                  go_roundw
                  case rel => exact ⟨j + 1, by omega, by go_num, by rw [MN2.out]; exact O5.out, S5.out, B5.out⟩
                  case measure => simp [intOf]; omega
                · have VB : Hid (visB s3 N j = false) := by show _ = _; rw [IV3.out.sees]; exact decide_eq_false (by omega)
                  have mn2 : min (j + 1 - 1) N = min (j - 1) N := by omega
                  have MN2 := Lib.hid mn2
                  clear mn2 hv
                  go_wp2_with fail
                  refine (next_any hO.out.2.1.tab).mono ?_
                  rintro e w' ⟨rfl, rfl⟩
                  rw [← HX3.out]
                  go_wp2_with fail
                  refine (visible_any hO.out.2.1.tab (N : Int) (j : Int) ⟨by omega, by omega⟩ ⟨by omega, by omega⟩).mono ?_
                  rintro e w4 ⟨rfl, q, hq⟩
                  rw [VB.out]
                  have b4 : Below wr.heap.size wr w4 := by rw [hq]; exact bdrewN (Below.refl _ _) q
                  have O4 := Lib.hid (hO.out.1.below b4)
                  have S4 := Lib.hid (hO.out.2.1.below b4)
                  have B4 := Lib.hid (bthen hO.out.2.2 b4)
                  clear hq b4
                  go_wp2_with fail
                  go_roundw
                  case rel => exact ⟨j + 1, by omega, by go_num, by rw [MN2.out]; have := O4.out; rw [upto_length] at *; exact this, S4.out, B4.out⟩
                  case measure => simp [intOf]; omega
              · obtain rfl : n3' = j := by omega
                have mn : min (n3' - 1) N = N := by omega
                have hO1 := hO.out.1
                rw [mn, upto_length] at hO1
                rw [mn]
                have HO1 := Lib.hid hO1
                have hO3 := hO.out.2.1.sees
                have u1 : (n3' : Int) = nx3 + 2 := by have := HB3.out; omega
                have u2 : decide ((n3' : Int) < nx3 + 2) = false := decide_eq_false (by omega)
                obtain ⟨_, _, e1, RI1⟩ := hO1.slice
                rw [upto_length] at e1
                injection e1 with e1 _ e2
                subst e1; subst e2
                obtain ⟨_, _, e1, RI2⟩ := hO3.slice
                rw [upto_length] at e1
                injection e1 with e1 _ e2
                subst e1; subst e2
                have R1 := Lib.hid RI1
                have R2 := Lib.hid RI2
                clear mn hO1 hO3 u1 RI1 RI2
                go_wp2_with fail
                refine (next_any hO.out.2.1.tab).mono ?_
                rintro e w' ⟨rfl, rfl⟩
                rw [← HX3.out]
                go_wp2_with fail
                refine (sameInts_eq (upto_length N) _ _ R1.out R2.out (by omega)).mono ?_
                rintro e w5 ⟨rfl, hb5⟩
                have S5 := Lib.hid (hO.out.2.1.below hb5)
                clear hb5
                go_wp2_with fail
                go_roundw
                case rel => exact ⟨k + 1, by omega, by omega, by go_num, ⟨_, S5.out⟩⟩
                case measure => simp [intOf]; omega
          · have qw : ((tx : Int) == (N : Int)) = false := by rw [beq_eq_false_iff_ne]; exact hw
            have t3 : (N : Int) < tx := by omega
            clear hw
            obtain ⟨c5, hc5⟩ : ∃ c5, c5 = y % 5 := ⟨_, rfl⟩
            have HC := Lib.hid hc5
            have c50 : c5 = 0 ∨ c5 = 1 ∨ c5 = 2 ∨ c5 = 3 ∨ c5 = 4 := by omega
            clear hc5
            go_upto_region 21 with (fail)
            refine wp_region_lit ?_
            refine list_op 76 (v := .int .i64 y) (w1 := wr) rfl rfl ?_ ?_
            · go_simp
            try simp only [Act.put, List.setIfInBounds_toArray, List.set_cons_zero, List.set_cons_succ]
            refine list_op 77 (v := .int .i64 c5) (w1 := wr) rfl rfl ?_ ?_
            · rw [HC.out]; go_simp; exact Int.tmod_eq_emod_of_nonneg hy0
            try simp only [Act.put, List.setIfInBounds_toArray, List.set_cons_zero, List.set_cons_succ]
            refine wpList_nil ?_
            rcases c50 with rfl | rfl | rfl | rfl | rfl
            · go_wp2_with fail
              refine (st_begin ST0.out (by omega) (by omega)).mono ?_
              rintro e w3' ⟨⟨rn, rr, rfl⟩, s3, hS3⟩
              have S3 := Lib.hid hS3
              have IV3 := Lib.hid hS3.inv
              obtain ⟨n3', hn3'⟩ : ∃ n3' : Nat, (n3' : Int) = s3.next + 2 := ⟨(s3.next + 2).toNat, by have := hS3.inv.lt; omega⟩
              have HN3 := Lib.hid hn3'
              have b3a : N + 3 ≤ n3' := by have := hS3.inv.lt; omega
              have b3b : n3' ≤ 1000 := by have := hS3.nx; omega
              obtain ⟨nx3, hnx3⟩ : ∃ nx3, nx3 = s3.next := ⟨_, rfl⟩
              rw [← hnx3] at hn3'
              have HX3 := Lib.hid hnx3
              have b3c : nx3 = (n3' : Int) - 2 := by omega
              have HB3 := Lib.hid b3c
              have b3d : nx3 ≤ 1000 := by omega
              have b3e : (0 : Int) ≤ nx3 := by omega
              clear hS3 hn3' hnx3 b3c
              obtain ⟨wo, hwo⟩ : ∃ wo, wo = w3' := ⟨_, rfl⟩
              rw [← hwo] at S3 ⊢
              clear hwo
              go_wp2_with fail
              go_loopw [14, 15] (fun v i wr => ∃ j : Nat, j ≤ n3' ∧ i = .int .i64 j ∧ Hid (OwnI wr wo.heap.size v (upto (min (j - 1) N)) ∧ ST w N g bo bc bd bg (.slice AS N cS) (k + 1) s3 wr ∧ Below wo.heap.size wo wr)) (fun _ i _ => n3' - (intOf i).toNat)
              case atStart => exact ⟨0, Nat.zero_le _, rfl, (show OwnI _ _ _ (upto (min (0 - 1) N)) from (by rw [show min (0 - 1) N = 0 from by omega]; exact OwnI.nil _ _)), S3.out, Below.refl _ _⟩
              case round =>
                obtain ⟨j, hj, rfl, hO⟩ := hrel
                obtain ⟨Av2, cv2, rfl, -⟩ := hO.out.1.slice
                rw [upto_length]
                by_cases hjl : j < n3'
                · have u0 : (0 : Int) ≤ (j : Int) := by omega
                  have u1 : (j : Int) < nx3 + 2 := by have := HB3.out; omega
                  by_cases hv : 1 ≤ j ∧ j ≤ N
                  · have VB : Hid (visB s3 N j = true) := by show _ = _; rw [IV3.out.sees]; exact decide_eq_true (by omega)
                    have mn : min (j - 1) N = j - 1 := by omega
                    have mn2 : min (j + 1 - 1) N = j := by omega
                    have up : Hid (upto (j - 1) ++ [(j : Int)] = upto j) := by
                      show _ = _
                      obtain ⟨i, rfl⟩ : ∃ i, j = i + 1 := ⟨j - 1, by omega⟩
                      rw [upto_succ, Nat.add_sub_cancel]
                      rfl
                    have hO1 := hO.out.1
                    rw [mn, upto_length] at hO1
                    rw [mn]
                    have HO1 := Lib.hid hO1
                    have MN2 := Lib.hid mn2
                    clear mn mn2 hO1 hv
                    go_wp2_with fail
                    refine (next_any hO.out.2.1.tab).mono ?_
                    rintro e w' ⟨rfl, rfl⟩
                    rw [← HX3.out]
                    go_wp2_with fail
                    refine (visible_any hO.out.2.1.tab (N : Int) (j : Int) ⟨by omega, by omega⟩ ⟨by omega, by omega⟩).mono ?_
                    rintro e w4 ⟨rfl, q, hq⟩
                    rw [VB.out]
                    have b4 : Below wr.heap.size wr w4 := by rw [hq]; exact bdrewN (Below.refl _ _) q
                    have O4 := Lib.hid (HO1.out.below b4)
                    have S4 := Lib.hid (hO.out.2.1.below b4)
                    have B4 := Lib.hid (bthen hO.out.2.2 b4)
                    clear hq b4
                    go_wp2_with (at_builtin; refine wpList_append_int rfl (.tmp 109) (.tmp 111) 22 rfl wo.heap.size Try.underlying22 info_int (.slice Av2 (j - 1) cv2) (upto (j - 1)) rfl (O4.out.below (balloc (Below.refl _ _) _)) w4.heap.size rfl (j : Int) (by rw [cell_of_row _ _ _ _ _ _ (heap_alloc_new w4 _)]; rfl) (by rw [upto_length]; omega) (balloc B4.out _).size ?_; intro v5 w5 ho5 hg5; rw [up.out] at ho5; obtain ⟨A5, c5, rfl, -⟩ := ho5.slice; rw [upto_length] at ho5; have O5 := Lib.hid ho5; have hO2 := O4.out.below (balloc (Below.refl _ _) (.cells #[.int .i64 (j : Int)] 3)); have T5 := Lib.hid ((Tch.refl (fun b => (Value.slice Av2 (j - 1) cv2).ownBlock = some b) _).grown hg5 (fun j e => .inl e)); have S5 := Lib.hid ((S4.out.below (balloc (Below.refl _ _) (.cells #[.int .i64 (j : Int)] 3))).row T5.out hO2 S3.out.low.size (fun b hb e => by have h1 := (World.ownsRow.lt S3.out.sees b hb).2; have h2 := (World.ownsRow.lt hO2 b e).1; omega)); have B5 := Lib.hid ((balloc B4.out (.cells #[.int .i64 (j : Int)] 3)).trans (T5.out.toBelow (balloc B4.out _).size (fun k hk => (World.ownsRow.lt hO2 k hk).1))); rw [upto_length] at *; clear ho5 hg5 hO2)
                    go_roundw
                    case rel => exact ⟨j + 1, by omega, by go_num, by rw [MN2.out]; exact O5.out, S5.out, B5.out⟩
                    case measure => simp [intOf]; omega
                  · have VB : Hid (visB s3 N j = false) := by show _ = _; rw [IV3.out.sees]; exact decide_eq_false (by omega)
                    have mn2 : min (j + 1 - 1) N = min (j - 1) N := by omega
                    have MN2 := Lib.hid mn2
                    clear mn2 hv
                    go_wp2_with fail
                    refine (next_any hO.out.2.1.tab).mono ?_
                    rintro e w' ⟨rfl, rfl⟩
                    rw [← HX3.out]
                    go_wp2_with fail
                    refine (visible_any hO.out.2.1.tab (N : Int) (j : Int) ⟨by omega, by omega⟩ ⟨by omega, by omega⟩).mono ?_
                    rintro e w4 ⟨rfl, q, hq⟩
                    rw [VB.out]
                    have b4 : Below wr.heap.size wr w4 := by rw [hq]; exact bdrewN (Below.refl _ _) q
                    have O4 := Lib.hid (hO.out.1.below b4)
                    have S4 := Lib.hid (hO.out.2.1.below b4)
                    have B4 := Lib.hid (bthen hO.out.2.2 b4)
                    clear hq b4
                    go_wp2_with fail
                    go_roundw
                    case rel => exact ⟨j + 1, by omega, by go_num, by rw [MN2.out]; have := O4.out; rw [upto_length] at *; exact this, S4.out, B4.out⟩
                    case measure => simp [intOf]; omega
                · obtain rfl : n3' = j := by omega
                  have mn : min (n3' - 1) N = N := by omega
                  have hO1 := hO.out.1
                  rw [mn, upto_length] at hO1
                  rw [mn]
                  have HO1 := Lib.hid hO1
                  have hO3 := hO.out.2.1.sees
                  have u1 : (n3' : Int) = nx3 + 2 := by have := HB3.out; omega
                  have u2 : decide ((n3' : Int) < nx3 + 2) = false := decide_eq_false (by omega)
                  obtain ⟨_, _, e1, RI1⟩ := hO1.slice
                  rw [upto_length] at e1
                  injection e1 with e1 _ e2
                  subst e1; subst e2
                  obtain ⟨_, _, e1, RI2⟩ := hO3.slice
                  rw [upto_length] at e1
                  injection e1 with e1 _ e2
                  subst e1; subst e2
                  have R1 := Lib.hid RI1
                  have R2 := Lib.hid RI2
                  clear mn hO1 hO3 u1 RI1 RI2
                  go_wp2_with fail
                  refine (next_any hO.out.2.1.tab).mono ?_
                  rintro e w' ⟨rfl, rfl⟩
                  rw [← HX3.out]
                  go_wp2_with fail
                  refine (sameInts_eq (upto_length N) _ _ R1.out R2.out (by omega)).mono ?_
                  rintro e w5 ⟨rfl, hb5⟩
                  have S5 := Lib.hid (hO.out.2.1.below hb5)
                  clear hb5
                  go_wp2_with fail
                  go_roundw
                  case rel => exact ⟨k + 1, by omega, by omega, by go_num, ⟨_, S5.out⟩⟩
                  case measure => simp [intOf]; omega
            · go_wp2_with fail
              refine (st_begin ST0.out (by omega) (by omega)).mono ?_
              rintro e w3' ⟨⟨rn, rr, rfl⟩, s3, hS3⟩
              have S3 := Lib.hid hS3
              have IV3 := Lib.hid hS3.inv
              obtain ⟨n3', hn3'⟩ : ∃ n3' : Nat, (n3' : Int) = s3.next + 2 := ⟨(s3.next + 2).toNat, by have := hS3.inv.lt; omega⟩
              have HN3 := Lib.hid hn3'
              have b3a : N + 3 ≤ n3' := by have := hS3.inv.lt; omega
              have b3b : n3' ≤ 1000 := by have := hS3.nx; omega
              obtain ⟨nx3, hnx3⟩ : ∃ nx3, nx3 = s3.next := ⟨_, rfl⟩
              rw [← hnx3] at hn3'
              have HX3 := Lib.hid hnx3
              have b3c : nx3 = (n3' : Int) - 2 := by omega
              have HB3 := Lib.hid b3c
              have b3d : nx3 ≤ 1000 := by omega
              have b3e : (0 : Int) ≤ nx3 := by omega
              clear hS3 hn3' hnx3 b3c
              obtain ⟨wo, hwo⟩ : ∃ wo, wo = w3' := ⟨_, rfl⟩
              rw [← hwo] at S3 ⊢
              clear hwo
              go_wp2_with fail
              go_loopw [14, 15] (fun v i wr => ∃ j : Nat, j ≤ n3' ∧ i = .int .i64 j ∧ Hid (OwnI wr wo.heap.size v (upto (min (j - 1) N)) ∧ ST w N g bo bc bd bg (.slice AS N cS) (k + 1) s3 wr ∧ Below wo.heap.size wo wr)) (fun _ i _ => n3' - (intOf i).toNat)
              case atStart => exact ⟨0, Nat.zero_le _, rfl, (show OwnI _ _ _ (upto (min (0 - 1) N)) from (by rw [show min (0 - 1) N = 0 from by omega]; exact OwnI.nil _ _)), S3.out, Below.refl _ _⟩
              case round =>
                obtain ⟨j, hj, rfl, hO⟩ := hrel
                obtain ⟨Av2, cv2, rfl, -⟩ := hO.out.1.slice
                rw [upto_length]
                by_cases hjl : j < n3'
                · have u0 : (0 : Int) ≤ (j : Int) := by omega
                  have u1 : (j : Int) < nx3 + 2 := by have := HB3.out; omega
                  by_cases hv : 1 ≤ j ∧ j ≤ N
                  · have VB : Hid (visB s3 N j = true) := by show _ = _; rw [IV3.out.sees]; exact decide_eq_true (by omega)
                    have mn : min (j - 1) N = j - 1 := by omega
                    have mn2 : min (j + 1 - 1) N = j := by omega
                    have up : Hid (upto (j - 1) ++ [(j : Int)] = upto j) := by
                      show _ = _
                      obtain ⟨i, rfl⟩ : ∃ i, j = i + 1 := ⟨j - 1, by omega⟩
                      rw [upto_succ, Nat.add_sub_cancel]
                      rfl
                    have hO1 := hO.out.1
                    rw [mn, upto_length] at hO1
                    rw [mn]
                    have HO1 := Lib.hid hO1
                    have MN2 := Lib.hid mn2
                    clear mn mn2 hO1 hv
                    go_wp2_with fail
                    refine (next_any hO.out.2.1.tab).mono ?_
                    rintro e w' ⟨rfl, rfl⟩
                    rw [← HX3.out]
                    go_wp2_with fail
                    refine (visible_any hO.out.2.1.tab (N : Int) (j : Int) ⟨by omega, by omega⟩ ⟨by omega, by omega⟩).mono ?_
                    rintro e w4 ⟨rfl, q, hq⟩
                    rw [VB.out]
                    have b4 : Below wr.heap.size wr w4 := by rw [hq]; exact bdrewN (Below.refl _ _) q
                    have O4 := Lib.hid (HO1.out.below b4)
                    have S4 := Lib.hid (hO.out.2.1.below b4)
                    have B4 := Lib.hid (bthen hO.out.2.2 b4)
                    clear hq b4
                    go_wp2_with (at_builtin; refine wpList_append_int rfl (.tmp 109) (.tmp 111) 22 rfl wo.heap.size Try.underlying22 info_int (.slice Av2 (j - 1) cv2) (upto (j - 1)) rfl (O4.out.below (balloc (Below.refl _ _) _)) w4.heap.size rfl (j : Int) (by rw [cell_of_row _ _ _ _ _ _ (heap_alloc_new w4 _)]; rfl) (by rw [upto_length]; omega) (balloc B4.out _).size ?_; intro v5 w5 ho5 hg5; rw [up.out] at ho5; obtain ⟨A5, c5, rfl, -⟩ := ho5.slice; rw [upto_length] at ho5; have O5 := Lib.hid ho5; have hO2 := O4.out.below (balloc (Below.refl _ _) (.cells #[.int .i64 (j : Int)] 3)); have T5 := Lib.hid ((Tch.refl (fun b => (Value.slice Av2 (j - 1) cv2).ownBlock = some b) _).grown hg5 (fun j e => .inl e)); have S5 := Lib.hid ((S4.out.below (balloc (Below.refl _ _) (.cells #[.int .i64 (j : Int)] 3))).row T5.out hO2 S3.out.low.size (fun b hb e => by have h1 := (World.ownsRow.lt S3.out.sees b hb).2; have h2 := (World.ownsRow.lt hO2 b e).1; omega)); have B5 := Lib.hid ((balloc B4.out (.cells #[.int .i64 (j : Int)] 3)).trans (T5.out.toBelow (balloc B4.out _).size (fun k hk => (World.ownsRow.lt hO2 k hk).1))); rw [upto_length] at *; clear ho5 hg5 hO2)
                    go_roundw
                    case rel => exact ⟨j + 1, by omega, by go_num, by rw [MN2.out]; exact O5.out, S5.out, B5.out⟩
                    case measure => simp [intOf]; omega
                  · have VB : Hid (visB s3 N j = false) := by show _ = _; rw [IV3.out.sees]; exact decide_eq_false (by omega)
                    have mn2 : min (j + 1 - 1) N = min (j - 1) N := by omega
                    have MN2 := Lib.hid mn2
                    clear mn2 hv
                    go_wp2_with fail
                    refine (next_any hO.out.2.1.tab).mono ?_
                    rintro e w' ⟨rfl, rfl⟩
                    rw [← HX3.out]
                    go_wp2_with fail
                    refine (visible_any hO.out.2.1.tab (N : Int) (j : Int) ⟨by omega, by omega⟩ ⟨by omega, by omega⟩).mono ?_
                    rintro e w4 ⟨rfl, q, hq⟩
                    rw [VB.out]
                    have b4 : Below wr.heap.size wr w4 := by rw [hq]; exact bdrewN (Below.refl _ _) q
                    have O4 := Lib.hid (hO.out.1.below b4)
                    have S4 := Lib.hid (hO.out.2.1.below b4)
                    have B4 := Lib.hid (bthen hO.out.2.2 b4)
                    clear hq b4
                    go_wp2_with fail
                    go_roundw
                    case rel => exact ⟨j + 1, by omega, by go_num, by rw [MN2.out]; have := O4.out; rw [upto_length] at *; exact this, S4.out, B4.out⟩
                    case measure => simp [intOf]; omega
                · obtain rfl : n3' = j := by omega
                  have mn : min (n3' - 1) N = N := by omega
                  have hO1 := hO.out.1
                  rw [mn, upto_length] at hO1
                  rw [mn]
                  have HO1 := Lib.hid hO1
                  have hO3 := hO.out.2.1.sees
                  have u1 : (n3' : Int) = nx3 + 2 := by have := HB3.out; omega
                  have u2 : decide ((n3' : Int) < nx3 + 2) = false := decide_eq_false (by omega)
                  obtain ⟨_, _, e1, RI1⟩ := hO1.slice
                  rw [upto_length] at e1
                  injection e1 with e1 _ e2
                  subst e1; subst e2
                  obtain ⟨_, _, e1, RI2⟩ := hO3.slice
                  rw [upto_length] at e1
                  injection e1 with e1 _ e2
                  subst e1; subst e2
                  have R1 := Lib.hid RI1
                  have R2 := Lib.hid RI2
                  clear mn hO1 hO3 u1 RI1 RI2
                  go_wp2_with fail
                  refine (next_any hO.out.2.1.tab).mono ?_
                  rintro e w' ⟨rfl, rfl⟩
                  rw [← HX3.out]
                  go_wp2_with fail
                  refine (sameInts_eq (upto_length N) _ _ R1.out R2.out (by omega)).mono ?_
                  rintro e w5 ⟨rfl, hb5⟩
                  have S5 := Lib.hid (hO.out.2.1.below hb5)
                  clear hb5
                  go_wp2_with fail
                  go_roundw
                  case rel => exact ⟨k + 1, by omega, by omega, by go_num, ⟨_, S5.out⟩⟩
                  case measure => simp [intOf]; omega
            · go_wp2_with fail
              refine (st_commit ST0.out (by omega) tx t3 ⟨by omega, by omega⟩).mono ?_
              rintro e w3' ⟨⟨rr, rfl⟩, s3, hS3⟩
              have S3 := Lib.hid hS3
              have IV3 := Lib.hid hS3.inv
              obtain ⟨n3', hn3'⟩ : ∃ n3' : Nat, (n3' : Int) = s3.next + 2 := ⟨(s3.next + 2).toNat, by have := hS3.inv.lt; omega⟩
              have HN3 := Lib.hid hn3'
              have b3a : N + 3 ≤ n3' := by have := hS3.inv.lt; omega
              have b3b : n3' ≤ 1000 := by have := hS3.nx; omega
              obtain ⟨nx3, hnx3⟩ : ∃ nx3, nx3 = s3.next := ⟨_, rfl⟩
              rw [← hnx3] at hn3'
              have HX3 := Lib.hid hnx3
              have b3c : nx3 = (n3' : Int) - 2 := by omega
              have HB3 := Lib.hid b3c
              have b3d : nx3 ≤ 1000 := by omega
              have b3e : (0 : Int) ≤ nx3 := by omega
              clear hS3 hn3' hnx3 b3c
              obtain ⟨wo, hwo⟩ : ∃ wo, wo = w3' := ⟨_, rfl⟩
              rw [← hwo] at S3 ⊢
              clear hwo
              go_wp2_with fail
              go_loopw [14, 15] (fun v i wr => ∃ j : Nat, j ≤ n3' ∧ i = .int .i64 j ∧ Hid (OwnI wr wo.heap.size v (upto (min (j - 1) N)) ∧ ST w N g bo bc bd bg (.slice AS N cS) (k + 1) s3 wr ∧ Below wo.heap.size wo wr)) (fun _ i _ => n3' - (intOf i).toNat)
              case atStart => exact ⟨0, Nat.zero_le _, rfl, (show OwnI _ _ _ (upto (min (0 - 1) N)) from (by rw [show min (0 - 1) N = 0 from by omega]; exact OwnI.nil _ _)), S3.out, Below.refl _ _⟩
              case round =>
                obtain ⟨j, hj, rfl, hO⟩ := hrel
                obtain ⟨Av2, cv2, rfl, -⟩ := hO.out.1.slice
                rw [upto_length]
                by_cases hjl : j < n3'
                · have u0 : (0 : Int) ≤ (j : Int) := by omega
                  have u1 : (j : Int) < nx3 + 2 := by have := HB3.out; omega
                  by_cases hv : 1 ≤ j ∧ j ≤ N
                  · have VB : Hid (visB s3 N j = true) := by show _ = _; rw [IV3.out.sees]; exact decide_eq_true (by omega)
                    have mn : min (j - 1) N = j - 1 := by omega
                    have mn2 : min (j + 1 - 1) N = j := by omega
                    have up : Hid (upto (j - 1) ++ [(j : Int)] = upto j) := by
                      show _ = _
                      obtain ⟨i, rfl⟩ : ∃ i, j = i + 1 := ⟨j - 1, by omega⟩
                      rw [upto_succ, Nat.add_sub_cancel]
                      rfl
                    have hO1 := hO.out.1
                    rw [mn, upto_length] at hO1
                    rw [mn]
                    have HO1 := Lib.hid hO1
                    have MN2 := Lib.hid mn2
                    clear mn mn2 hO1 hv
                    go_wp2_with fail
                    refine (next_any hO.out.2.1.tab).mono ?_
                    rintro e w' ⟨rfl, rfl⟩
                    rw [← HX3.out]
                    go_wp2_with fail
                    refine (visible_any hO.out.2.1.tab (N : Int) (j : Int) ⟨by omega, by omega⟩ ⟨by omega, by omega⟩).mono ?_
                    rintro e w4 ⟨rfl, q, hq⟩
                    rw [VB.out]
                    have b4 : Below wr.heap.size wr w4 := by rw [hq]; exact bdrewN (Below.refl _ _) q
                    have O4 := Lib.hid (HO1.out.below b4)
                    have S4 := Lib.hid (hO.out.2.1.below b4)
                    have B4 := Lib.hid (bthen hO.out.2.2 b4)
                    clear hq b4
                    go_wp2_with (at_builtin; refine wpList_append_int rfl (.tmp 109) (.tmp 111) 22 rfl wo.heap.size Try.underlying22 info_int (.slice Av2 (j - 1) cv2) (upto (j - 1)) rfl (O4.out.below (balloc (Below.refl _ _) _)) w4.heap.size rfl (j : Int) (by rw [cell_of_row _ _ _ _ _ _ (heap_alloc_new w4 _)]; rfl) (by rw [upto_length]; omega) (balloc B4.out _).size ?_; intro v5 w5 ho5 hg5; rw [up.out] at ho5; obtain ⟨A5, c5, rfl, -⟩ := ho5.slice; rw [upto_length] at ho5; have O5 := Lib.hid ho5; have hO2 := O4.out.below (balloc (Below.refl _ _) (.cells #[.int .i64 (j : Int)] 3)); have T5 := Lib.hid ((Tch.refl (fun b => (Value.slice Av2 (j - 1) cv2).ownBlock = some b) _).grown hg5 (fun j e => .inl e)); have S5 := Lib.hid ((S4.out.below (balloc (Below.refl _ _) (.cells #[.int .i64 (j : Int)] 3))).row T5.out hO2 S3.out.low.size (fun b hb e => by have h1 := (World.ownsRow.lt S3.out.sees b hb).2; have h2 := (World.ownsRow.lt hO2 b e).1; omega)); have B5 := Lib.hid ((balloc B4.out (.cells #[.int .i64 (j : Int)] 3)).trans (T5.out.toBelow (balloc B4.out _).size (fun k hk => (World.ownsRow.lt hO2 k hk).1))); rw [upto_length] at *; clear ho5 hg5 hO2)
                    go_roundw
                    case rel => exact ⟨j + 1, by omega, by go_num, by rw [MN2.out]; exact O5.out, S5.out, B5.out⟩
                    case measure => simp [intOf]; omega
                  · have VB : Hid (visB s3 N j = false) := by show _ = _; rw [IV3.out.sees]; exact decide_eq_false (by omega)
                    have mn2 : min (j + 1 - 1) N = min (j - 1) N := by omega
                    have MN2 := Lib.hid mn2
                    clear mn2 hv
                    go_wp2_with fail
                    refine (next_any hO.out.2.1.tab).mono ?_
                    rintro e w' ⟨rfl, rfl⟩
                    rw [← HX3.out]
                    go_wp2_with fail
                    refine (visible_any hO.out.2.1.tab (N : Int) (j : Int) ⟨by omega, by omega⟩ ⟨by omega, by omega⟩).mono ?_
                    rintro e w4 ⟨rfl, q, hq⟩
                    rw [VB.out]
                    have b4 : Below wr.heap.size wr w4 := by rw [hq]; exact bdrewN (Below.refl _ _) q
                    have O4 := Lib.hid (hO.out.1.below b4)
                    have S4 := Lib.hid (hO.out.2.1.below b4)
                    have B4 := Lib.hid (bthen hO.out.2.2 b4)
                    clear hq b4
                    go_wp2_with fail
                    go_roundw
                    case rel => exact ⟨j + 1, by omega, by go_num, by rw [MN2.out]; have := O4.out; rw [upto_length] at *; exact this, S4.out, B4.out⟩
                    case measure => simp [intOf]; omega
                · obtain rfl : n3' = j := by omega
                  have mn : min (n3' - 1) N = N := by omega
                  have hO1 := hO.out.1
                  rw [mn, upto_length] at hO1
                  rw [mn]
                  have HO1 := Lib.hid hO1
                  have hO3 := hO.out.2.1.sees
                  have u1 : (n3' : Int) = nx3 + 2 := by have := HB3.out; omega
                  have u2 : decide ((n3' : Int) < nx3 + 2) = false := decide_eq_false (by omega)
                  obtain ⟨_, _, e1, RI1⟩ := hO1.slice
                  rw [upto_length] at e1
                  injection e1 with e1 _ e2
                  subst e1; subst e2
                  obtain ⟨_, _, e1, RI2⟩ := hO3.slice
                  rw [upto_length] at e1
                  injection e1 with e1 _ e2
                  subst e1; subst e2
                  have R1 := Lib.hid RI1
                  have R2 := Lib.hid RI2
                  clear mn hO1 hO3 u1 RI1 RI2
                  go_wp2_with fail
                  refine (next_any hO.out.2.1.tab).mono ?_
                  rintro e w' ⟨rfl, rfl⟩
                  rw [← HX3.out]
                  go_wp2_with fail
                  refine (sameInts_eq (upto_length N) _ _ R1.out R2.out (by omega)).mono ?_
                  rintro e w5 ⟨rfl, hb5⟩
                  have S5 := Lib.hid (hO.out.2.1.below hb5)
                  clear hb5
                  go_wp2_with fail
                  go_roundw
                  case rel => exact ⟨k + 1, by omega, by omega, by go_num, ⟨_, S5.out⟩⟩
                  case measure => simp [intOf]; omega
            · go_wp2_with fail
              refine (st_abort ST0.out (by omega) tx t3 ⟨by omega, by omega⟩).mono ?_
              rintro e w3' ⟨⟨rr, rfl⟩, s3, hS3⟩
              have S3 := Lib.hid hS3
              have IV3 := Lib.hid hS3.inv
              obtain ⟨n3', hn3'⟩ : ∃ n3' : Nat, (n3' : Int) = s3.next + 2 := ⟨(s3.next + 2).toNat, by have := hS3.inv.lt; omega⟩
              have HN3 := Lib.hid hn3'
              have b3a : N + 3 ≤ n3' := by have := hS3.inv.lt; omega
              have b3b : n3' ≤ 1000 := by have := hS3.nx; omega
              obtain ⟨nx3, hnx3⟩ : ∃ nx3, nx3 = s3.next := ⟨_, rfl⟩
              rw [← hnx3] at hn3'
              have HX3 := Lib.hid hnx3
              have b3c : nx3 = (n3' : Int) - 2 := by omega
              have HB3 := Lib.hid b3c
              have b3d : nx3 ≤ 1000 := by omega
              have b3e : (0 : Int) ≤ nx3 := by omega
              clear hS3 hn3' hnx3 b3c
              obtain ⟨wo, hwo⟩ : ∃ wo, wo = w3' := ⟨_, rfl⟩
              rw [← hwo] at S3 ⊢
              clear hwo
              go_wp2_with fail
              go_loopw [14, 15] (fun v i wr => ∃ j : Nat, j ≤ n3' ∧ i = .int .i64 j ∧ Hid (OwnI wr wo.heap.size v (upto (min (j - 1) N)) ∧ ST w N g bo bc bd bg (.slice AS N cS) (k + 1) s3 wr ∧ Below wo.heap.size wo wr)) (fun _ i _ => n3' - (intOf i).toNat)
              case atStart => exact ⟨0, Nat.zero_le _, rfl, (show OwnI _ _ _ (upto (min (0 - 1) N)) from (by rw [show min (0 - 1) N = 0 from by omega]; exact OwnI.nil _ _)), S3.out, Below.refl _ _⟩
              case round =>
                obtain ⟨j, hj, rfl, hO⟩ := hrel
                obtain ⟨Av2, cv2, rfl, -⟩ := hO.out.1.slice
                rw [upto_length]
                by_cases hjl : j < n3'
                · have u0 : (0 : Int) ≤ (j : Int) := by omega
                  have u1 : (j : Int) < nx3 + 2 := by have := HB3.out; omega
                  by_cases hv : 1 ≤ j ∧ j ≤ N
                  · have VB : Hid (visB s3 N j = true) := by show _ = _; rw [IV3.out.sees]; exact decide_eq_true (by omega)
                    have mn : min (j - 1) N = j - 1 := by omega
                    have mn2 : min (j + 1 - 1) N = j := by omega
                    have up : Hid (upto (j - 1) ++ [(j : Int)] = upto j) := by
                      show _ = _
                      obtain ⟨i, rfl⟩ : ∃ i, j = i + 1 := ⟨j - 1, by omega⟩
                      rw [upto_succ, Nat.add_sub_cancel]
                      rfl
                    have hO1 := hO.out.1
                    rw [mn, upto_length] at hO1
                    rw [mn]
                    have HO1 := Lib.hid hO1
                    have MN2 := Lib.hid mn2
                    clear mn mn2 hO1 hv
                    go_wp2_with fail
                    refine (next_any hO.out.2.1.tab).mono ?_
                    rintro e w' ⟨rfl, rfl⟩
                    rw [← HX3.out]
                    go_wp2_with fail
                    refine (visible_any hO.out.2.1.tab (N : Int) (j : Int) ⟨by omega, by omega⟩ ⟨by omega, by omega⟩).mono ?_
                    rintro e w4 ⟨rfl, q, hq⟩
                    rw [VB.out]
                    have b4 : Below wr.heap.size wr w4 := by rw [hq]; exact bdrewN (Below.refl _ _) q
                    have O4 := Lib.hid (HO1.out.below b4)
                    have S4 := Lib.hid (hO.out.2.1.below b4)
                    have B4 := Lib.hid (bthen hO.out.2.2 b4)
                    clear hq b4
                    go_wp2_with (at_builtin; refine wpList_append_int rfl (.tmp 109) (.tmp 111) 22 rfl wo.heap.size Try.underlying22 info_int (.slice Av2 (j - 1) cv2) (upto (j - 1)) rfl (O4.out.below (balloc (Below.refl _ _) _)) w4.heap.size rfl (j : Int) (by rw [cell_of_row _ _ _ _ _ _ (heap_alloc_new w4 _)]; rfl) (by rw [upto_length]; omega) (balloc B4.out _).size ?_; intro v5 w5 ho5 hg5; rw [up.out] at ho5; obtain ⟨A5, c5, rfl, -⟩ := ho5.slice; rw [upto_length] at ho5; have O5 := Lib.hid ho5; have hO2 := O4.out.below (balloc (Below.refl _ _) (.cells #[.int .i64 (j : Int)] 3)); have T5 := Lib.hid ((Tch.refl (fun b => (Value.slice Av2 (j - 1) cv2).ownBlock = some b) _).grown hg5 (fun j e => .inl e)); have S5 := Lib.hid ((S4.out.below (balloc (Below.refl _ _) (.cells #[.int .i64 (j : Int)] 3))).row T5.out hO2 S3.out.low.size (fun b hb e => by have h1 := (World.ownsRow.lt S3.out.sees b hb).2; have h2 := (World.ownsRow.lt hO2 b e).1; omega)); have B5 := Lib.hid ((balloc B4.out (.cells #[.int .i64 (j : Int)] 3)).trans (T5.out.toBelow (balloc B4.out _).size (fun k hk => (World.ownsRow.lt hO2 k hk).1))); rw [upto_length] at *; clear ho5 hg5 hO2)
                    go_roundw
                    case rel => exact ⟨j + 1, by omega, by go_num, by rw [MN2.out]; exact O5.out, S5.out, B5.out⟩
                    case measure => simp [intOf]; omega
                  · have VB : Hid (visB s3 N j = false) := by show _ = _; rw [IV3.out.sees]; exact decide_eq_false (by omega)
                    have mn2 : min (j + 1 - 1) N = min (j - 1) N := by omega
                    have MN2 := Lib.hid mn2
                    clear mn2 hv
                    go_wp2_with fail
                    refine (next_any hO.out.2.1.tab).mono ?_
                    rintro e w' ⟨rfl, rfl⟩
                    rw [← HX3.out]
                    go_wp2_with fail
                    refine (visible_any hO.out.2.1.tab (N : Int) (j : Int) ⟨by omega, by omega⟩ ⟨by omega, by omega⟩).mono ?_
                    rintro e w4 ⟨rfl, q, hq⟩
                    rw [VB.out]
                    have b4 : Below wr.heap.size wr w4 := by rw [hq]; exact bdrewN (Below.refl _ _) q
                    have O4 := Lib.hid (hO.out.1.below b4)
                    have S4 := Lib.hid (hO.out.2.1.below b4)
                    have B4 := Lib.hid (bthen hO.out.2.2 b4)
                    clear hq b4
                    go_wp2_with fail
                    go_roundw
                    case rel => exact ⟨j + 1, by omega, by go_num, by rw [MN2.out]; have := O4.out; rw [upto_length] at *; exact this, S4.out, B4.out⟩
                    case measure => simp [intOf]; omega
                · obtain rfl : n3' = j := by omega
                  have mn : min (n3' - 1) N = N := by omega
                  have hO1 := hO.out.1
                  rw [mn, upto_length] at hO1
                  rw [mn]
                  have HO1 := Lib.hid hO1
                  have hO3 := hO.out.2.1.sees
                  have u1 : (n3' : Int) = nx3 + 2 := by have := HB3.out; omega
                  have u2 : decide ((n3' : Int) < nx3 + 2) = false := decide_eq_false (by omega)
                  obtain ⟨_, _, e1, RI1⟩ := hO1.slice
                  rw [upto_length] at e1
                  injection e1 with e1 _ e2
                  subst e1; subst e2
                  obtain ⟨_, _, e1, RI2⟩ := hO3.slice
                  rw [upto_length] at e1
                  injection e1 with e1 _ e2
                  subst e1; subst e2
                  have R1 := Lib.hid RI1
                  have R2 := Lib.hid RI2
                  clear mn hO1 hO3 u1 RI1 RI2
                  go_wp2_with fail
                  refine (next_any hO.out.2.1.tab).mono ?_
                  rintro e w' ⟨rfl, rfl⟩
                  rw [← HX3.out]
                  go_wp2_with fail
                  refine (sameInts_eq (upto_length N) _ _ R1.out R2.out (by omega)).mono ?_
                  rintro e w5 ⟨rfl, hb5⟩
                  have S5 := Lib.hid (hO.out.2.1.below hb5)
                  clear hb5
                  go_wp2_with fail
                  go_roundw
                  case rel => exact ⟨k + 1, by omega, by omega, by go_num, ⟨_, S5.out⟩⟩
                  case measure => simp [intOf]; omega
            · go_wp2_with fail
              refine (st_kill ST0.out (by omega) tx t3 ⟨by omega, by omega⟩).mono ?_
              rintro e w3' ⟨⟨rr, rfl⟩, s3, hS3⟩
              have S3 := Lib.hid hS3
              have IV3 := Lib.hid hS3.inv
              obtain ⟨n3', hn3'⟩ : ∃ n3' : Nat, (n3' : Int) = s3.next + 2 := ⟨(s3.next + 2).toNat, by have := hS3.inv.lt; omega⟩
              have HN3 := Lib.hid hn3'
              have b3a : N + 3 ≤ n3' := by have := hS3.inv.lt; omega
              have b3b : n3' ≤ 1000 := by have := hS3.nx; omega
              obtain ⟨nx3, hnx3⟩ : ∃ nx3, nx3 = s3.next := ⟨_, rfl⟩
              rw [← hnx3] at hn3'
              have HX3 := Lib.hid hnx3
              have b3c : nx3 = (n3' : Int) - 2 := by omega
              have HB3 := Lib.hid b3c
              have b3d : nx3 ≤ 1000 := by omega
              have b3e : (0 : Int) ≤ nx3 := by omega
              clear hS3 hn3' hnx3 b3c
              obtain ⟨wo, hwo⟩ : ∃ wo, wo = w3' := ⟨_, rfl⟩
              rw [← hwo] at S3 ⊢
              clear hwo
              go_wp2_with fail
              go_loopw [14, 15] (fun v i wr => ∃ j : Nat, j ≤ n3' ∧ i = .int .i64 j ∧ Hid (OwnI wr wo.heap.size v (upto (min (j - 1) N)) ∧ ST w N g bo bc bd bg (.slice AS N cS) (k + 1) s3 wr ∧ Below wo.heap.size wo wr)) (fun _ i _ => n3' - (intOf i).toNat)
              case atStart => exact ⟨0, Nat.zero_le _, rfl, (show OwnI _ _ _ (upto (min (0 - 1) N)) from (by rw [show min (0 - 1) N = 0 from by omega]; exact OwnI.nil _ _)), S3.out, Below.refl _ _⟩
              case round =>
                obtain ⟨j, hj, rfl, hO⟩ := hrel
                obtain ⟨Av2, cv2, rfl, -⟩ := hO.out.1.slice
                rw [upto_length]
                by_cases hjl : j < n3'
                · have u0 : (0 : Int) ≤ (j : Int) := by omega
                  have u1 : (j : Int) < nx3 + 2 := by have := HB3.out; omega
                  by_cases hv : 1 ≤ j ∧ j ≤ N
                  · have VB : Hid (visB s3 N j = true) := by show _ = _; rw [IV3.out.sees]; exact decide_eq_true (by omega)
                    have mn : min (j - 1) N = j - 1 := by omega
                    have mn2 : min (j + 1 - 1) N = j := by omega
                    have up : Hid (upto (j - 1) ++ [(j : Int)] = upto j) := by
                      show _ = _
                      obtain ⟨i, rfl⟩ : ∃ i, j = i + 1 := ⟨j - 1, by omega⟩
                      rw [upto_succ, Nat.add_sub_cancel]
                      rfl
                    have hO1 := hO.out.1
                    rw [mn, upto_length] at hO1
                    rw [mn]
                    have HO1 := Lib.hid hO1
                    have MN2 := Lib.hid mn2
                    clear mn mn2 hO1 hv
                    go_wp2_with fail
                    refine (next_any hO.out.2.1.tab).mono ?_
                    rintro e w' ⟨rfl, rfl⟩
                    rw [← HX3.out]
                    go_wp2_with fail
                    refine (visible_any hO.out.2.1.tab (N : Int) (j : Int) ⟨by omega, by omega⟩ ⟨by omega, by omega⟩).mono ?_
                    rintro e w4 ⟨rfl, q, hq⟩
                    rw [VB.out]
                    have b4 : Below wr.heap.size wr w4 := by rw [hq]; exact bdrewN (Below.refl _ _) q
                    have O4 := Lib.hid (HO1.out.below b4)
                    have S4 := Lib.hid (hO.out.2.1.below b4)
                    have B4 := Lib.hid (bthen hO.out.2.2 b4)
                    clear hq b4
                    go_wp2_with (at_builtin; refine wpList_append_int rfl (.tmp 109) (.tmp 111) 22 rfl wo.heap.size Try.underlying22 info_int (.slice Av2 (j - 1) cv2) (upto (j - 1)) rfl (O4.out.below (balloc (Below.refl _ _) _)) w4.heap.size rfl (j : Int) (by rw [cell_of_row _ _ _ _ _ _ (heap_alloc_new w4 _)]; rfl) (by rw [upto_length]; omega) (balloc B4.out _).size ?_; intro v5 w5 ho5 hg5; rw [up.out] at ho5; obtain ⟨A5, c5, rfl, -⟩ := ho5.slice; rw [upto_length] at ho5; have O5 := Lib.hid ho5; have hO2 := O4.out.below (balloc (Below.refl _ _) (.cells #[.int .i64 (j : Int)] 3)); have T5 := Lib.hid ((Tch.refl (fun b => (Value.slice Av2 (j - 1) cv2).ownBlock = some b) _).grown hg5 (fun j e => .inl e)); have S5 := Lib.hid ((S4.out.below (balloc (Below.refl _ _) (.cells #[.int .i64 (j : Int)] 3))).row T5.out hO2 S3.out.low.size (fun b hb e => by have h1 := (World.ownsRow.lt S3.out.sees b hb).2; have h2 := (World.ownsRow.lt hO2 b e).1; omega)); have B5 := Lib.hid ((balloc B4.out (.cells #[.int .i64 (j : Int)] 3)).trans (T5.out.toBelow (balloc B4.out _).size (fun k hk => (World.ownsRow.lt hO2 k hk).1))); rw [upto_length] at *; clear ho5 hg5 hO2)
                    go_roundw
                    case rel => exact ⟨j + 1, by omega, by go_num, by rw [MN2.out]; exact O5.out, S5.out, B5.out⟩
                    case measure => simp [intOf]; omega
                  · have VB : Hid (visB s3 N j = false) := by show _ = _; rw [IV3.out.sees]; exact decide_eq_false (by omega)
                    have mn2 : min (j + 1 - 1) N = min (j - 1) N := by omega
                    have MN2 := Lib.hid mn2
                    clear mn2 hv
                    go_wp2_with fail
                    refine (next_any hO.out.2.1.tab).mono ?_
                    rintro e w' ⟨rfl, rfl⟩
                    rw [← HX3.out]
                    go_wp2_with fail
                    refine (visible_any hO.out.2.1.tab (N : Int) (j : Int) ⟨by omega, by omega⟩ ⟨by omega, by omega⟩).mono ?_
                    rintro e w4 ⟨rfl, q, hq⟩
                    rw [VB.out]
                    have b4 : Below wr.heap.size wr w4 := by rw [hq]; exact bdrewN (Below.refl _ _) q
                    have O4 := Lib.hid (hO.out.1.below b4)
                    have S4 := Lib.hid (hO.out.2.1.below b4)
                    have B4 := Lib.hid (bthen hO.out.2.2 b4)
                    clear hq b4
                    go_wp2_with fail
                    go_roundw
                    case rel => exact ⟨j + 1, by omega, by go_num, by rw [MN2.out]; have := O4.out; rw [upto_length] at *; exact this, S4.out, B4.out⟩
                    case measure => simp [intOf]; omega
                · obtain rfl : n3' = j := by omega
                  have mn : min (n3' - 1) N = N := by omega
                  have hO1 := hO.out.1
                  rw [mn, upto_length] at hO1
                  rw [mn]
                  have HO1 := Lib.hid hO1
                  have hO3 := hO.out.2.1.sees
                  have u1 : (n3' : Int) = nx3 + 2 := by have := HB3.out; omega
                  have u2 : decide ((n3' : Int) < nx3 + 2) = false := decide_eq_false (by omega)
                  obtain ⟨_, _, e1, RI1⟩ := hO1.slice
                  rw [upto_length] at e1
                  injection e1 with e1 _ e2
                  subst e1; subst e2
                  obtain ⟨_, _, e1, RI2⟩ := hO3.slice
                  rw [upto_length] at e1
                  injection e1 with e1 _ e2
                  subst e1; subst e2
                  have R1 := Lib.hid RI1
                  have R2 := Lib.hid RI2
                  clear mn hO1 hO3 u1 RI1 RI2
                  go_wp2_with fail
                  refine (next_any hO.out.2.1.tab).mono ?_
                  rintro e w' ⟨rfl, rfl⟩
                  rw [← HX3.out]
                  go_wp2_with fail
                  refine (sameInts_eq (upto_length N) _ _ R1.out R2.out (by omega)).mono ?_
                  rintro e w5 ⟨rfl, hb5⟩
                  have S5 := Lib.hid (hO.out.2.1.below hb5)
                  clear hb5
                  go_wp2_with fail
                  go_roundw
                  case rel => exact ⟨k + 1, by omega, by omega, by go_num, ⟨_, S5.out⟩⟩
                  case measure => simp [intOf]; omega
        · have hcase : (decide ((50 : Int) < (l : Int)) = true ∧ k = 50) ∨ k = l := by
            by_cases h1 : k < l
            · exact .inl ⟨decide_eq_true (by omega), by omega⟩
            · exact .inr (by omega)
          clear hgo
          have OM : Hid ((s.op N).isSome = true) := by show _ = _; rw [ST0.out.inv.me]; rfl
          rcases hcase with ⟨q1, rfl⟩ | rfl
          all_goals
            go_wp2_with fail
            refine (isOpen_any ST0.out.tab (N : Int) ⟨by omega, by omega⟩).mono ?_
            rintro e w' ⟨rfl, rfl⟩
            rw [OM.out]
            go_wp2_with fail
            refine (awake14 (w := _)).mono ?_
            rintro e wz ⟨rfl, hb⟩
            have BZ := Lib.hid (bthen ST0.out.low hb)
            clear hb
            go_wp2_with fail
            go_ret
            exact ⟨rfl, BZ.out⟩
end Go.Proofs.Ytlfplcidgccgdaa.Y
