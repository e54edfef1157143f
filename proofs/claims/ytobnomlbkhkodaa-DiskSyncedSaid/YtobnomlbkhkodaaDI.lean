/-
  DiskSynced's walk.
-/
import Derived.Test.YtobnomlbkhkodaaDJ
set_option linter.unusedVariables false
set_option linter.unusedSimpArgs false
namespace Go.Proofs.Ytobnomlbkhkodaa.Y
open Go.RowKit
attribute [local go_sem ↓] Go.wp_at_zero Go.wp_at_succ

set_option maxHeartbeats 12800000 in
set_option maxRecDepth 100000 in
theorem diskSynced_walk (A0 : Option Addr) (c0 : Nat) (l0 : List Int) (A1 : Option Addr) (c1 : Nat) (l1 : List Bool) (torn cut : Int) (w : World)
    (r0 : RdI w A0 l0) (i0 : Ints l0) (h0 : l0.length ≤ c0) (m0 : c0 ≤ maxLen) (y0 : l0.length ≤ 17592186043904) (r1 : RdT w A1 l1) (h1 : l1.length ≤ c1) (m1 : c1 ≤ maxLen) (v1 : (Lit.int .i64 torn).wf = true) (x1 : (Lit.int .i64 cut).wf = true) :
    Calls Try.prog 8 #[.slice A0 l0.length c0, .agg #[.slice A1 l1.length c1, .int .i64 torn, .int .i64 cut]] w fun e w' => e = .returned (.bool true) ∧ Below w.heap.size w w' := by
  obtain ⟨l, hl⟩ : ∃ l, l = l0.length := ⟨_, rfl⟩
  obtain ⟨n1, hn1⟩ : ∃ n1, n1 = l1.length := ⟨_, rfl⟩
  rw [← hl] at h0 y0 ⊢
  rw [← hn1]
  have HL := Lib.hid hl.symm
  have HN1 := Lib.hid hn1.symm
  have HR := Lib.hid r0
  have HI := Lib.hid i0
  have HT := Lib.hid r1
  obtain ⟨k1, k2⟩ := int_wf64 x1
  obtain ⟨ct, hct⟩ := Int.eq_ofNat_of_zero_le (show 0 ≤ cut % ((4097 : Nat) : Int) by omega)
  have hct2 : ct ≤ 4096 := by omega
  have HCT := Lib.hid hct
  obtain ⟨W0, hW0⟩ : ∃ W0, W0 = w.alloc (.cells #[.slice A1 n1 c1, .int .i64 torn, .int .i64 cut] 56) := ⟨_, rfl⟩
  have OC0 : Hid (Ob W0 w.heap.size 56 [.slice A1 n1 c1, .int .i64 torn, .int .i64 cut]) := by show Ob _ _ _ _; rw [hW0]; exact heap_alloc_new _ _
  have BW0 : Hid (Below w.heap.size w W0) := by show Below _ _ _; rw [hW0]; exact balloc (Below.refl _ _) _
  have HW0 := Lib.hid hW0
  have PK := Lib.hid (pick_any (w := W0) cut 4097 (by decide) (by decide) k1 k2)
  have f2 := OC0.out.frozen 2
  have q2 := OC0.out.cell (j := 2) rfl
  clear hl hn1 r0 i0 r1 m0 m1 v1 x1 h1 hct hW0 k1 k2
  go_enter Try.func8, Try.ntmps8
  go_wp2_with fail
  rw [← HW0.out]
  refine PK.out.mono ?_
  rintro e w' ⟨rfl, rfl⟩
  rw [HCT.out]
  go_wp2_with fail
  have OC1 := Lib.hid (OC0.out.set 2 (.int .i64 (ct : Int)))
  have BW1 : Hid (Below w.heap.size w (W0.setCell ⟨w.heap.size, 2, none⟩ (.int .i64 (ct : Int)))) := BW0.out.setCell (by simp) _
  generalize W0.setCell ⟨w.heap.size, 2, none⟩ (.int .i64 (ct : Int)) = W1 at *
  refine (new_any 4 (by omega) (by omega)).mono ?_
  rintro e w2 ⟨g, gb, rfl, hh, hb⟩
  have B2 := Lib.hid (bthen BW1.out hb)
  have OC2 : Hid (Ob w2 w.heap.size 56 [.slice A1 n1 c1, .int .i64 torn, .int .i64 (ct : Int)]) := OC1.out.below hb
  have H2 : Hid (DiskAt w2 W1.heap.size g gb (.slice none 0 0) (newD 4)) := hh
  have B2H : Hid (W1.heap.size ≤ w2.heap.size) := hb.size
  have LG : Hid (g < w2.heap.size) := H2.out.obj.lt
  have LGB : Hid (gb < w2.heap.size) := by show _ < _; obtain ⟨_, hgbo, _⟩ := H2.out.row; exact hgbo.lt
  have NE : Hid (w.heap.size ≠ w2.heap.size) := by show _ ≠ _; have := OC2.out.lt; omega
  clear hh hb
  have hmk := make_lit 4096 4096 rfl (by decide)
  go_wp2_with fail
  obtain ⟨w3, hw3⟩ : ∃ w3, w3 = w2.alloc (.cells #[.slice none 0 0, .slice none 0 0, .slice none 0 0, .slice none 0 0] 61) := ⟨_, rfl⟩
  rw [← hw3]
  have OA3 : Hid (Ob w3 w2.heap.size 61 [.slice none 0 0, .slice none 0 0, .slice none 0 0, .slice none 0 0]) := by show Ob _ _ _ _; rw [hw3]; exact heap_alloc_new _ _
  have BA3 : Hid (Below w2.heap.size w2 w3) := by show Below _ _ _; rw [hw3]; exact balloc (Below.refl _ _) _
  have sz3 : w3.heap.size = w2.heap.size + 1 := by rw [hw3]; simp
  clear hw3
  go_loopw [8] (fun i wr => ∃ k : Nat, k ≤ 4 ∧ i = .int .i64 k ∧ Hid (∃ vs : List Value, vs.length = 4 ∧ Ob wr w2.heap.size 61 vs ∧ MRows wr (w2.heap.size + 1) vs k (fun _ => [zeros 4096])) ∧ Hid (Below w2.heap.size w2 wr) ∧ Hid (w2.heap.size < wr.heap.size)) (fun i _ => 4 - (intOf i).toNat)
  case atStart => exact ⟨0, by omega, rfl, ⟨_, rfl, OA3.out, fun b v hb _ => absurd hb (by omega), fun b c u v hb _ _ _ _ => absurd hb (by omega)⟩, BA3, by show _ < _; omega⟩
  case round =>
    obtain ⟨k, hk, rfl, hi, hb, hsz⟩ := hrel
    obtain ⟨vs, hvl, hoa, hmr⟩ := hi.out
    by_cases hlt : k < 4
    · have hlv : k < vs.length := by omega
      have lt0 : w2.heap.size < wr.heap.size := hsz.out
      have oa1 := Lib.hid (hoa.below (balloc (balloc (Below.refl _ wr) (.cells (bvs (zeros 4096)).toArray 5)) (.cells #[.slice (some ⟨wr.heap.size, 0, none⟩) 4096 4096] 23)))
      have co := oa1.out.cell (j := k) (List.getElem?_eq_getElem hlv)
      have fo := oa1.out.frozen k
      have cq := hoa.cell (j := k) (List.getElem?_eq_getElem hlv)
      have z0 : (0 : Int) ≤ (k : Int) := by omega
      have z1 : (k : Int) < 4 := by omega
      have HMR := Lib.hid hmr
      have HVL := Lib.hid hvl
      generalize vs[k]'hlv = old at co cq
      clear hi hoa hmr hvl hlv
      go_wp2_with fail
      have ho := Blk.own (Blk.new wr (zeros 4096)) (B := w2.heap.size + 1) lt0 (n := 4096) (by simp) (by simp; decide)
      rw [zeros_length, List.take_of_length_le (by simp)] at ho
      have hone := BRow.one ho (zeros_length _) (by simp; omega)
      rw [World.size_alloc] at hone
      have hset := (HMR.out.below (balloc (balloc (Below.refl _ wr) (.cells (bvs (zeros 4096)).toArray 5)) (.cells #[.slice (some ⟨wr.heap.size, 0, none⟩) 4096 4096] 23))).set (k' := k + 1) (b := k) (M' := fun _ => [zeros 4096]) hone (fun c hc => by omega) (fun _ _ => rfl) (fun c v hc _ hv hq => by
        obtain ⟨vals, hv1, _⟩ := HMR.out.row c v hc hv
        obtain ⟨g9, off9, cap9, rfl, _, hg9, _⟩ := hv1.cells
        simp [Value.ownBlock] at hq
        omega)
      have TT : Tch (fun j => j = w2.heap.size) _ _ := (Tch.refl _ ((wr.alloc (.cells (bvs (zeros 4096)).toArray 5)).alloc (.cells #[.slice (some ⟨wr.heap.size, 0, none⟩) 4096 4096] 23))).grown (set_grown _ w2.heap.size k (.slice (some ⟨wr.heap.size + 1, 0, none⟩) 1 1)) (fun j e => .inl (by injection e with e; exact e.symm))
      have hset2 := hset.kept TT (fun c v j hc hv hj e => by
        obtain ⟨vals, hv1, _⟩ := hset.row c v hc hv
        obtain ⟨g9, off9, cap9, rfl, hB9, _⟩ := hv1.cells
        simp [Value.ownBlock] at hj
        omega) (fun ho j hj e => by have := (World.ownsRow.lt ho j hj).1; omega)
      have hoS := oa1.out.set k (.slice (some ⟨wr.heap.size + 1, 0, none⟩) 1 1)
      have hbS : Below w2.heap.size w2 (((wr.alloc (.cells (bvs (zeros 4096)).toArray 5)).alloc (.cells #[.slice (some ⟨wr.heap.size, 0, none⟩) 4096 4096] 23)).setCell ⟨w2.heap.size, k, none⟩ (.slice (some ⟨wr.heap.size + 1, 0, none⟩) 1 1)) := (balloc (balloc hb.out _) _).setCell (by simp) _
      have eqW : ((wr.alloc (.cells (bvs (zeros 4096)).toArray 5)).alloc (.cells #[.slice (some ⟨wr.heap.size, 0, none⟩) 4096 4096] 23)).setCell ⟨w2.heap.size, k, none⟩ (.slice (some ⟨wr.heap.size + 1, 0, none⟩) 1 1) = ((wr.setCell ⟨w2.heap.size, k, none⟩ (.slice (some ⟨wr.heap.size + 1, 0, none⟩) 1 1)).alloc (.cells (bvs (zeros 4096)).toArray 5)).alloc (.cells #[.slice (some ⟨wr.heap.size, 0, none⟩) 4096 4096] 23) := by go_simp
      rw [eqW] at hset2 hoS hbS
      go_roundw
      case rel => exact ⟨k + 1, by omega, by go_num, ⟨vs.set k _, by rw [List.length_set]; exact HVL.out, hoS, hset2⟩, hbS, by show _ < _; simp [World.setCell]; omega⟩
      case measure => simp [intOf]; omega
    · obtain rfl : k = 4 := by omega
      have S0 : Hid (SI l1 torn ct W1.heap.size g gb w2.heap.size w.heap.size 0 [.slice A1 n1 c1, .int .i64 torn, .int .i64 (ct : Int)] (.int .i64 0) wr (newD 4) (.slice none 0 0) (fun _ => [zeros 4096]) vs) := ⟨H2.out.below hb.out, ⟨rfl, rfl, rfl⟩, rfl, rfl, Nat.zero_le _, SModel.new _ _ _ _, hoa, hvl, hmr, fun b _ => by simp, OC2.out.below hb.out⟩
      have B4 := Lib.hid (bthen B2.out (hb.out.mono (Nat.le_refl _)))
      have SZ4 := hsz.out
      obtain ⟨w4, hw4⟩ : ∃ w4, w4 = wr := ⟨_, rfl⟩
      rw [← hw4] at S0 B4 SZ4
      subst hw4
      clear hi hoa hmr hvl hb hsz
      go_wp2_with fail
      rw [show ((4 : Nat) : Int) = 4 from rfl]
      go_loopw [9, 10] (fun nv i wr => ∃ k : Nat, k ≤ l ∧ k ≤ 30 ∧ i = .int .i64 k ∧ Hid (∃ D ws M vs, SI l1 torn ct W1.heap.size g gb w2.heap.size w.heap.size k [.slice A1 n1 c1, .int .i64 torn, .int .i64 (ct : Int)] nv wr D ws M vs) ∧ Hid (Below w.heap.size w wr) ∧ Hid (w2.heap.size < wr.heap.size)) (fun _ i _ => 30 - (intOf i).toNat)
      case atStart => exact ⟨0, Nat.zero_le _, Nat.zero_le _, rfl, ⟨_, _, _, _, S0.out⟩, B4, SZ4⟩
      case round =>
        obtain ⟨k, hk, hk2, rfl, hi, hb, hsz⟩ := hrel
        obtain ⟨D, ws, M, vs2, hSI⟩ := hi.out
        have SIH := Lib.hid hSI
        have hnv := hSI.cnt
        subst hnv
        obtain ⟨n, hn⟩ : ∃ n, n = D.writes.length := ⟨_, rfl⟩
        rw [← hn]
        have HN := Lib.hid hn
        clear hi hSI hn
        by_cases hgo : k < l ∧ k < 30
        · obtain ⟨hlt, hlt2⟩ := hgo
          have hkl0 : k < l0.length := by rw [HL.out]; exact hlt
          obtain ⟨b, o, rfl, p0⟩ := (HR.out.below hb.out).at_ hkl0
          obtain ⟨b2, o2, e2, p2⟩ := HR.out.at_ hkl0
          have hbw : b < w.heap.size := by injection e2 with e2; injection e2 with e2; rw [e2]; exact World.block_lt_of_cell? w _ p2
          clear e2 p2
          obtain ⟨hx1, hx2⟩ := HI.out _ (List.getElem_mem hkl0)
          generalize l0[k]'hkl0 = x at *
          have z0 : (0 : Int) ≤ (k : Int) := by omega
          have z1 : (k : Int) < (l : Int) := by omega
          have PK2 := Lib.hid (pick_any (w := wr) x 11 (by decide) (by decide) hx1 hx2)
          by_cases hp : x % ((11 : Nat) : Int) = 0
          · have PH := Lib.hid hp
            clear hp
            go_wp2_with fail
            refine PK2.out.mono ?_
            rintro e w' ⟨rfl, rfl⟩
            rw [PH.out]
            go_wp2_with fail
            refine (sync_ok SIH.out.at_ SIH.out.calm.stop).mono ?_
            rintro e w5 ⟨rfl, h5, t5⟩
            rw [SIH.out.calm.same] at h5
            have S5 : Hid (SR g gb w2.heap.size w.heap.size [.slice A1 n1 c1, .int .i64 torn, .int .i64 (ct : Int)] W1.heap.size w5 (syncD D) (.slice none 0 0) (cutM D M 0) vs2) := ((SIH.out.sr LG.out LGB.out NE.out).foot h5 t5).congr (fun b _ => by unfold cutM; rw [if_neg (Nat.not_lt_zero _)])
            have B5 : Hid (Below w.heap.size w w5) := hb.out.trans (t5.toBelow hb.out.size (fun j hj => Nat.le_trans BW1.out.size (foot_base SIH.out.at_ j hj)))
            have Z5 : Hid (w2.heap.size < w5.heap.size) := Nat.lt_of_lt_of_le hsz.out t5.size
            clear h5 t5
            go_wp2_with fail
            go_loopw [11] (fun i wr => ∃ b : Nat, b ≤ 4 ∧ i = .int .i64 b ∧ Hid (∃ vs, SR g gb w2.heap.size w.heap.size [.slice A1 n1 c1, .int .i64 torn, .int .i64 (ct : Int)] W1.heap.size wr (syncD D) (.slice none 0 0) (cutM D M b) vs) ∧ Hid (Below w.heap.size w wr) ∧ Hid (w2.heap.size < wr.heap.size)) (fun i _ => 4 - (intOf i).toNat)
            case atStart => exact ⟨0, by omega, rfl, ⟨_, S5.out⟩, B5, Z5⟩
            case round =>
              obtain ⟨b3, hb4, rfl, hi3, hb3, hsz3⟩ := hrel
              by_cases hlt3 : b3 < 4
              · obtain ⟨vs3, hS3⟩ := hi3.out
                obtain ⟨g9, off9, n9, cap9, hv9, hn9, hcap9, hmx9, hnext⟩ := (hS3.below (bdrew (Below.refl _ _))).cut hlt3 (SIH.out.model.last b3 (by rw [SIH.out.four]; exact hlt3))
                have ca := hS3.arr.cell hv9
                have fa := hS3.arr.frozen b3
                have HNX := Lib.hid hnext
                have y0 : (0 : Int) ≤ (b3 : Int) := by omega
                have y1 : (b3 : Int) < 4 := by omega
                have y2 : (n9 : Int) ≤ (cap9 : Int) := by omega
                have y3 : IntKind.i64.wrap (n9 : Int) = (n9 : Int) := by rw [IntKind.wrap_i64]; simp only [maxLen] at hmx9; omega
                have y4 : (0 : Int) ≤ (n9 : Int) := by omega
                have y5 : (cap9 = n9) = False := by simp; omega
                have y6 : (n9 : Int) ≤ (n9 : Int) + 1 := by omega
                have y7 : n9 + 1 - n9 = 1 := by omega
                clear hi3 hS3 hv9 hn9 hmx9 hnext
                go_upto_region 20 with (fail)
                refine region_popN 11 (S := (fun w' : World => w'.cell? ⟨w2.heap.size, b3, none⟩ = some (.slice (some ⟨g9, off9, none⟩) (n9 + 1) cap9))) (by simp only [List.take_succ_cons, List.take_zero]; rfl) (by simp only [List.drop_succ_cons, List.drop_zero]; rfl) (by kernel_rfl) (by kernel_rfl) rfl (by kernel_rfl) (by kernel_rfl) (ca) (fun hHeld => ?_)
                refine take_op (i := 0) 64 (v := ?_) rfl rfl (by kernel_rfl) (by kernel_rfl) (by kernel_rfl) (fun _ _ _ h => h) (Or.inl ⟨by rfl, ?_⟩) (by assumption) ?_
                rotate_left
                · (intro w hSw; (try dsimp only at hSw); first | (go_simp; done) | (go_simp; with_reducible rfl))
                try simp only [Act.put, List.setIfInBounds_toArray, List.set_cons_zero, List.set_cons_succ]
                refine take_op (i := 1) 65 (v := ?_) rfl rfl (by kernel_rfl) (by kernel_rfl) (by kernel_rfl) (fun _ _ _ h => h) (Or.inl ⟨by rfl, ?_⟩) (by assumption) ?_
                rotate_left
                · (intro w hSw; (try dsimp only at hSw); first | (go_simp; done) | (go_simp; with_reducible rfl))
                try simp only [Act.put, List.setIfInBounds_toArray, List.set_cons_zero, List.set_cons_succ]
                refine take_op (i := 2) 66 (v := ?_) rfl rfl (by kernel_rfl) (by kernel_rfl) (by kernel_rfl) (fun _ _ _ h => h) (Or.inl ⟨by rfl, ?_⟩) (by assumption) ?_
                rotate_left
                · (intro w hSw; (try dsimp only at hSw); first | (go_simp; done) | (go_simp; with_reducible rfl))
                try simp only [Act.put, List.setIfInBounds_toArray, List.set_cons_zero, List.set_cons_succ]
                refine take_op (i := 3) 67 (v := ?_) rfl rfl (by kernel_rfl) (by kernel_rfl) (by kernel_rfl) (fun _ _ _ h => h) (Or.inl ⟨by rfl, ?_⟩) (by assumption) ?_
                rotate_left
                · (intro w hSw; (try dsimp only at hSw); first | (go_simp; done) | (go_simp; with_reducible rfl))
                try simp only [Act.put, List.setIfInBounds_toArray, List.set_cons_zero, List.set_cons_succ]
                refine take_op (i := 4) 68 (v := ?_) rfl rfl (by kernel_rfl) (by kernel_rfl) (by kernel_rfl) (fun _ _ _ h => h) (Or.inl ⟨by rfl, ?_⟩) (by assumption) ?_
                rotate_left
                · (intro w hSw; (try dsimp only at hSw); first | (go_simp; done) | (go_simp; with_reducible rfl))
                try simp only [Act.put, List.setIfInBounds_toArray, List.set_cons_zero, List.set_cons_succ]
                refine take_op (i := 5) 69 (v := ?_) rfl rfl (by kernel_rfl) (by kernel_rfl) (by kernel_rfl) (fun _ _ _ h => h) (Or.inl ⟨by rfl, ?_⟩) (by assumption) ?_
                rotate_left
                · (intro w hSw; (try dsimp only at hSw); first | (go_simp; done) | (go_simp; with_reducible rfl))
                try simp only [Act.put, List.setIfInBounds_toArray, List.set_cons_zero, List.set_cons_succ]
                refine take_op (i := 6) 70 (v := ?_) rfl rfl (by kernel_rfl) (by kernel_rfl) (by kernel_rfl) (fun _ _ _ h => h) (Or.inl ⟨by rfl, ?_⟩) (by assumption) ?_
                rotate_left
                · (intro w hSw; (try dsimp only at hSw); first | (go_simp; done) | (go_simp; with_reducible rfl))
                try simp only [Act.put, List.setIfInBounds_toArray, List.set_cons_zero, List.set_cons_succ]
                refine take_op (i := 7) 71 (v := ?_) rfl rfl (by kernel_rfl) (by kernel_rfl) (by kernel_rfl) (fun _ _ _ h => h) (Or.inl ⟨by rfl, ?_⟩) (by assumption) ?_
                rotate_left
                · (intro w hSw; (try dsimp only at hSw); first | (go_simp; done) | (go_simp; with_reducible rfl))
                try simp only [Act.put, List.setIfInBounds_toArray, List.set_cons_zero, List.set_cons_succ]
                refine take_op (i := 8) 72 (v := ?_) rfl rfl (by kernel_rfl) (by kernel_rfl) (by kernel_rfl) (fun _ _ _ h => h) (Or.inl ⟨by rfl, ?_⟩) (by assumption) ?_
                rotate_left
                · (intro w hSw; (try dsimp only at hSw); first | (go_simp; done) | (go_simp; with_reducible rfl))
                try simp only [Act.put, List.setIfInBounds_toArray, List.set_cons_zero, List.set_cons_succ]
                refine take_op (i := 9) 73 (v := ?_) rfl rfl (by kernel_rfl) (by kernel_rfl) (by kernel_rfl) (fun _ _ _ h => h) (Or.inl ⟨by rfl, ?_⟩) (by assumption) ?_
                rotate_left
                · (intro w hSw; (try dsimp only at hSw); first | (go_simp; done) | (go_simp; with_reducible rfl))
                try simp only [Act.put, List.setIfInBounds_toArray, List.set_cons_zero, List.set_cons_succ]
                refine take_op (i := 10) 74 (v := ?_) rfl rfl (by kernel_rfl) (by kernel_rfl) (by kernel_rfl) (fun _ _ _ h => h) (Or.inl ⟨by rfl, ?_⟩) (by assumption) ?_
                rotate_left
                · (intro w hSw; (try dsimp only at hSw); first | (go_simp; done) | (go_simp; with_reducible rfl))
                try simp only [Act.put, List.setIfInBounds_toArray, List.set_cons_zero, List.set_cons_succ]
                refine wpAnyH_done (by kernel_rfl) ?_ _
                show wpList _ _ _ _ _ _
                go_wp2_with fail
                go_roundw
                case rel => exact ⟨b3 + 1, by omega, by go_num, ⟨_, HNX.out⟩, (hb3.out.drew.setCell (show w.heap.size ≤ w2.heap.size from Nat.le_of_lt OC2.out.lt) _), by show _ < _; simpa [World.setCell] using hsz3.out⟩
                case measure => simp [intOf]; omega
              · obtain rfl : b3 = 4 := by omega
                obtain ⟨vs3, hS3⟩ := hi3.out
                have S6 : Hid (SI l1 torn ct W1.heap.size g gb w2.heap.size w.heap.size (k + 1) [.slice A1 n1 c1, .int .i64 torn, .int .i64 (ct : Int)] (.int .i64 0) wr (syncD D) (.slice none 0 0) (fun b => [readV D b]) vs3) :=
                  (hS3.congr (fun b hb => by unfold cutM; rw [if_pos hb])).si ⟨SIH.out.calm.down, SIH.out.calm.arm, SIH.out.calm.fail⟩ (by show (applyW _ _).length = 4; rw [applyW_length]; exact SIH.out.four) rfl (Nat.zero_le _) (SModel.sync _ _ _ _) (fun b _ => by show 1 < 2 ^ (k + 1 + 1); exact Nat.one_lt_two_pow (by omega))
                have B6 := Lib.hid hb3.out
                have Z6 := Lib.hid hsz3.out
                clear hi3 hb3 hsz3 hS3
                go_wp2_with fail
                go_roundw
                case rel => exact ⟨k + 1, by omega, by omega, by go_num, ⟨_, _, _, _, S6.out⟩, B6, Z6⟩
                case measure => simp [intOf]; omega
          · have hpq : ((x % ((11 : Nat) : Int)) == 0) = false := by rw [beq_eq_false_iff_ne]; exact hp
            obtain ⟨y, hy⟩ : ∃ y, y = x % ((11 : Nat) : Int) := ⟨_, rfl⟩
            rw [← hy] at hpq
            have HYY := Lib.hid hy
            clear hp hy
            obtain ⟨pn, hpn⟩ := Int.eq_ofNat_of_zero_le (show 0 ≤ x % 4 by omega)
            have hp4 : pn < 4 := by omega
            have HPN := Lib.hid hpn
            clear hpn
            go_wp2_with fail
            refine PK2.out.mono ?_
            rintro e w' ⟨rfl, rfl⟩
            rw [← HYY.out]
            go_wp2_with fail
            refine (place_any x hx1 hx2).mono ?_
            rintro e w' ⟨rfl, rfl⟩
            rw [HPN.out]
            go_wp2_with fail
            refine (content_any x (k : Int) hx1 hx2 z0 (by omega)).mono ?_
            rintro e w5 ⟨L, vL, rfl, hcl, hco, hcb⟩
            obtain ⟨gA, cA, rfl, _, _, hcA, hmA⟩ := hco.formN hcl (by decide)
            have LC := Lib.hid hcl
            have B5 := Lib.hid (bthen hb.out hcb)
            have Z5 : Hid (w2.heap.size < w5.heap.size) := Nat.lt_of_lt_of_le hsz.out hcb.size
            have OL5 : Hid (Own w5 (w2.heap.size + 1) (.slice (some ⟨gA, 0, none⟩) 4096 cA) L) := hco.mono (by have := hsz.out; omega)
            have S5 := Lib.hid ((SIH.out.sr LG.out LGB.out NE.out).below hcb)
            clear hcl hco hcb
            go_wp2_with fail
            refine (write_ok S5.out.at_ (by have := B5.out.size; have := BW1.out.size; have h7 := H2.out.obj.lt; have := LG.out; have := Z5.out; have := H2.out.bg; omega) pn LC.out cA OL5.out.rd.1 (by simp) (fun w' ht => (ht.own OL5.out (own_g S5.out.at_ OL5.out)).rd.1) (by rw [SIH.out.four]; exact hp4) SIH.out.calm.stop (by have := SIH.out.few; omega)).mono ?_
            rintro e w6 ⟨ws6, rfl, h6, t6, _⟩
            rw [SIH.out.calm.same] at h6
            have S6 := Lib.hid (S5.out.foot h6 t6)
            have OL6 := Lib.hid (t6.own OL5.out (own_foot S5.out.at_ OL5.out))
            have B6 : Hid (Below w.heap.size w w6) := B5.out.trans (t6.toBelow B5.out.size (fun j hj => Nat.le_trans BW1.out.size (foot_base S5.out.at_ j hj)))
            have Z6 : Hid (w2.heap.size < w6.heap.size) := Nat.lt_of_lt_of_le Z5.out t6.size
            have F6 : Hid ((addW D pn L).writes.length = n + 1) := by show _ = _; rw [HN.out]; simp [addW]
            clear h6 t6
            obtain ⟨v0, hv0, hbr0⟩ := S6.out.at4 hp4
            obtain ⟨g0, off0, cap0, rfl, hg0, _, hnc0, hcm0⟩ := hbr0.form
            obtain ⟨n0, hn0⟩ : ∃ n0, n0 = (M pn).length := ⟨_, rfl⟩
            rw [← hn0] at hv0 hbr0 hnc0
            have hn0b : n0 < 2 ^ (k + 1) := by rw [hn0]; exact SIH.out.len pn hp4
            have hk31 : (2 : Nat) ^ (k + 1) ≤ 2 ^ 30 := Nat.pow_le_pow_right (by decide) (by omega)
            have hn30 : n0 < 1073741824 := by omega
            have HN0 := Lib.hid hn0
            have HV0 := Lib.hid hv0
            have BR0 := Lib.hid hbr0
            have ca := S6.out.arr.cell hv0
            have cc := S6.out.crash.cell (j := 1) rfl
            have y0 : (0 : Int) ≤ (pn : Int) := by omega
            have y1 : (pn : Int) < 4 := by omega
            clear hn0 hv0 hbr0 hk31 hn0b
            have hn31 : n ≤ 30 := by have := SIH.out.few; have := HN.out; omega
            by_cases hT : (n : Int) = torn
            · have hTq : ((n : Int) == torn) = true := by rw [beq_iff_eq]; exact hT
              have HTT := Lib.hid hT
              have SZ0 : Hid (SR g gb w2.heap.size w.heap.size [.slice A1 n1 c1, .int .i64 torn, .int .i64 (ct : Int)] W1.heap.size w6 (addW D pn L) ws6 (tornM M pn L ct 0) vs2) := S6.out.congr (fun c _ => (tornM_zero _ _ _ _ _).symm)
              have LK0 : Hid (Lk (.slice (some ⟨g0, off0, none⟩) n0 cap0) (M pn).length (.slice (some ⟨g0, off0, none⟩) n0 cap0)) := .inl ⟨g0, off0, cap0, n0, by rw [← HN0.out], rfl, by rw [← HN0.out]; exact Nat.le_refl _⟩
              clear hT
              go_wp2_with fail
              go_loopw [15] (fun i wr => ∃ j : Nat, j ≤ n0 ∧ i = .int .i64 j ∧ Hid (∃ vs3 v, SR g gb w2.heap.size w.heap.size [.slice A1 n1 c1, .int .i64 torn, .int .i64 (ct : Int)] W1.heap.size wr (addW D pn L) ws6 (tornM M pn L ct j) vs3 ∧ vs3[pn]? = some v ∧ BRow wr (w2.heap.size + 1) (.slice (some ⟨g0, off0, none⟩) n0 cap0) (M pn) ∧ Lk (.slice (some ⟨g0, off0, none⟩) n0 cap0) (M pn).length v ∧ Own wr (w2.heap.size + 1) (.slice (some ⟨gA, 0, none⟩) 4096 cA) L) ∧ Hid (Below w.heap.size w wr) ∧ Hid (w2.heap.size < wr.heap.size)) (fun i _ => n0 - (intOf i).toNat)
              case atStart => exact ⟨0, Nat.zero_le _, rfl, ⟨vs2, _, SZ0.out, HV0.out, BR0.out, LK0.out, OL6.out⟩, B6, Z6⟩
              case round =>
                obtain ⟨j, hj, rfl, hi3, hb3, hsz3⟩ := hrel
                obtain ⟨vs3, v3, hS3, hv3, hb03, hl3, ho3⟩ := hi3.out
                have hbr3 := hS3.rows.row pn v3 hp4 hv3
                obtain ⟨g3, off3, n3, cap3, rfl, hn3, -, -⟩ := hbr3.formN
                have hn3b : n3 < 2147483648 := by rw [hn3, tornM_self]; simp only [List.length_append, List.length_map, List.length_take]; have := HN0.out; omega
                have S3 := Lib.hid hS3
                have HV3 := Lib.hid hv3
                have BR3 := Lib.hid hbr3
                have HN3 := Lib.hid hn3
                have B03 := Lib.hid hb03
                have LK3 := Lib.hid hl3
                have OL3 := Lib.hid ho3
                clear hi3 hS3 hv3 hbr3 hn3 hb03 hl3 ho3
                by_cases hlt3 : j < n0
                · have hjm : j < (M pn).length := by rw [← HN0.out]; exact hlt3
                  have HOLD := Lib.hid (List.getElem?_eq_getElem hjm)
                  generalize (M pn)[j]'hjm = old at *
                  obtain ⟨x3, cx3, hx3, hx4⟩ := B03.out.elem HOLD.out
                  have HX4 := Lib.hid hx4
                  obtain ⟨Ax, cx, rfl, hcx, hmx, hrx⟩ := hx3.sliceN hx4
                  have OX3 := Lib.hid hx3
                  have RX3 := Lib.hid hrx
                  have ca3 := S3.out.arr.cell HV3.out
                  have cc3 := S3.out.crash.cell (j := 2) rfl
                  have fa3 := S3.out.arr.frozen pn
                  have RL3 := Lib.hid OL3.out.rd.1
                  have u0 : (0 : Int) ≤ (j : Int) := by omega
                  have u1 : (j : Int) < (n0 : Int) := by omega
                  have u2 : (ct : Int) ≤ (cA : Int) := by omega
                  have u3 : (0 : Int) ≤ (ct : Int) := by omega
                  have u4 : (ct : Int) ≤ 4096 := by omega
                  have u5 : (ct : Int) ≤ (cx : Int) := by omega
                  have ltk : Hid ((L.take ct).length = ct) := by show _ = _; rw [List.length_take, LC.out]; omega
                  have ldr : Hid ((old.drop ct).length = 4096 - ct) := by show _ = _; rw [List.length_drop, HX4.out]
                  have XL : Hid ((tornL old L ct).length = 4096) := tornL_length HX4.out LC.out hct2
                  have lt1 := World.block_lt_of_cell? wr _ ca3
                  have lt2 := World.block_lt_of_cell? wr _ cc3
                  have lt3 := World.block_lt_of_cell? wr _ cx3
                  clear hjm hx3 hx4 hrx hlt3
                  go_upto_region 31 with (fail)
                  refine region_popN 20 (S := (fun w' : World => w'.cell? ⟨w2.heap.size, pn, none⟩ = some (.slice (some ⟨g3, off3, none⟩) n3 cap3) ∧ w'.cell? ⟨w.heap.size, 2, none⟩ = some (.int .i64 (ct : Int)) ∧ w'.cell? ⟨g0, off0 + j, none⟩ = some (.slice Ax 4096 cx))) (by simp only [List.take_succ_cons, List.take_zero]; rfl) (by simp only [List.drop_succ_cons, List.drop_zero]; rfl) (by kernel_rfl) (by kernel_rfl) rfl (by kernel_rfl) (by kernel_rfl) (⟨ca3, cc3, cx3⟩) (fun hHeld => ?_)
                  refine take_op (i := 0) 104 (v := ?_) rfl rfl (by kernel_rfl) (by kernel_rfl) (by kernel_rfl) (fun _ _ _ h => h) (Or.inl ⟨by rfl, ?_⟩) (by assumption) ?_
                  rotate_left
                  · (intro w hSw; (try dsimp only at hSw); first | (go_simp; done) | (go_simp; with_reducible rfl))
                  try simp only [Act.put, List.setIfInBounds_toArray, List.set_cons_zero, List.set_cons_succ]
                  refine take_op (i := 1) 105 (v := ?_) rfl rfl (by kernel_rfl) (by kernel_rfl) (by kernel_rfl) (fun _ _ _ h => h) (Or.inl ⟨by rfl, ?_⟩) (by assumption) ?_
                  rotate_left
                  · (intro w hSw; (try dsimp only at hSw); first | (go_simp; done) | (go_simp; with_reducible rfl))
                  try simp only [Act.put, List.setIfInBounds_toArray, List.set_cons_zero, List.set_cons_succ]
                  refine take_op (i := 2) 106 (v := ?_) rfl rfl (by kernel_rfl) (by kernel_rfl) (by kernel_rfl) (fun _ _ _ h => h) (Or.inl ⟨by rfl, ?_⟩) (by assumption) ?_
                  rotate_left
                  · (intro w hSw; (try dsimp only at hSw); first | (go_simp; done) | (go_simp; with_reducible rfl))
                  try simp only [Act.put, List.setIfInBounds_toArray, List.set_cons_zero, List.set_cons_succ]
                  refine take_op (i := 3) 107 (v := ?_) rfl rfl (by kernel_rfl) (by kernel_rfl) (by kernel_rfl) (fun _ _ _ h => h) (Or.inl ⟨by rfl, ?_⟩) (by assumption) ?_
                  rotate_left
                  · (intro w hSw; (try dsimp only at hSw); first | (go_simp; done) | (go_simp; with_reducible rfl))
                  try simp only [Act.put, List.setIfInBounds_toArray, List.set_cons_zero, List.set_cons_succ]
                  refine take_op (i := 4) 108 (v := ?_) rfl rfl (by kernel_rfl) (by kernel_rfl) (by kernel_rfl) (fun _ _ _ h => h) (Or.inl ⟨by rfl, ?_⟩) (by assumption) ?_
                  rotate_left
                  · (intro w hSw; (try dsimp only at hSw); first | (go_simp; done) | (go_simp; with_reducible rfl))
                  try simp only [Act.put, List.setIfInBounds_toArray, List.set_cons_zero, List.set_cons_succ]
                  refine take_op (i := 5) 109 (v := ?_) rfl rfl (by kernel_rfl) (by kernel_rfl) (by kernel_rfl) (fun _ _ _ h => h) (Or.inl ⟨by rfl, ?_⟩) (by assumption) ?_
                  rotate_left
                  · (intro w hSw; (try dsimp only at hSw); first | (go_simp; done) | (go_simp; with_reducible rfl))
                  try simp only [Act.put, List.setIfInBounds_toArray, List.set_cons_zero, List.set_cons_succ]
                  refine take_op (i := 6) 110 (v := ?_) rfl rfl (by kernel_rfl) (by kernel_rfl) (by kernel_rfl) (fun _ _ _ h => h) (Or.inl ⟨by rfl, ?_⟩) (by assumption) ?_
                  rotate_left
                  · (intro w hSw; (try dsimp only at hSw); first | (go_simp; done) | (go_simp; with_reducible rfl))
                  try simp only [Act.put, List.setIfInBounds_toArray, List.set_cons_zero, List.set_cons_succ]
                  refine take_op (i := 7) 111 (v := ?_) rfl rfl (by kernel_rfl) (by kernel_rfl) (by kernel_rfl) (fun _ _ _ h => h) (Or.inl ⟨by rfl, ?_⟩) (by assumption) ?_
                  rotate_left
                  · (intro w hSw; (try dsimp only at hSw); first | (go_simp; done) | (go_simp; with_reducible rfl))
                  try simp only [Act.put, List.setIfInBounds_toArray, List.set_cons_zero, List.set_cons_succ]
                  refine take_op (i := 9) 113 (v := ?_) rfl rfl (by kernel_rfl) (by kernel_rfl) (by kernel_rfl) (fun _ _ _ h => h) (Or.inl ⟨by rfl, ?_⟩) (by assumption) ?_
                  rotate_left
                  · (intro w hSw; (try dsimp only at hSw); first | (go_simp; done) | (go_simp; with_reducible rfl))
                  try simp only [Act.put, List.setIfInBounds_toArray, List.set_cons_zero, List.set_cons_succ]
                  refine take_op (i := 10) 114 (v := ?_) rfl rfl (by kernel_rfl) (by kernel_rfl) (by kernel_rfl) (fun _ _ _ h => h) (Or.inl ⟨by rfl, ?_⟩) (by assumption) ?_
                  rotate_left
                  · (intro w hSw; (try dsimp only at hSw); first | (go_simp; done) | (go_simp; with_reducible rfl))
                  try simp only [Act.put, List.setIfInBounds_toArray, List.set_cons_zero, List.set_cons_succ]
                  refine take_op (i := 11) 115 (v := ?_) rfl rfl (by kernel_rfl) (by kernel_rfl) (by kernel_rfl) (fun _ _ _ h => h) (Or.inl ⟨by rfl, ?_⟩) (by assumption) ?_
                  rotate_left
                  · (intro w hSw; (try dsimp only at hSw); first | (go_simp; done) | (go_simp; with_reducible rfl))
                  try simp only [Act.put, List.setIfInBounds_toArray, List.set_cons_zero, List.set_cons_succ]
                  refine take_op (i := 12) 116 (v := ?_) rfl rfl (by kernel_rfl) (by kernel_rfl) (by kernel_rfl) (fun _ _ _ h => h) (Or.inl ⟨by rfl, ?_⟩) (by assumption) ?_
                  rotate_left
                  · (intro w hSw; (try dsimp only at hSw); first | (go_simp; done) | (go_simp; with_reducible rfl))
                  try simp only [Act.put, List.setIfInBounds_toArray, List.set_cons_zero, List.set_cons_succ]
                  refine take_op (i := 13) 117 (v := ?_) rfl rfl (by kernel_rfl) (by kernel_rfl) (by kernel_rfl) (fun _ _ _ h => h) (Or.inl ⟨by rfl, ?_⟩) (by assumption) ?_
                  rotate_left
                  · (intro w hSw; (try dsimp only at hSw); first | (go_simp; done) | (go_simp; with_reducible rfl))
                  try simp only [Act.put, List.setIfInBounds_toArray, List.set_cons_zero, List.set_cons_succ]
                  refine take_op (i := 14) 118 (v := ?_) rfl rfl (by kernel_rfl) (by kernel_rfl) (by kernel_rfl) (fun _ _ _ h => h) (Or.inl ⟨by rfl, ?_⟩) (by assumption) ?_
                  rotate_left
                  · (intro w hSw; (try dsimp only at hSw); first | (go_simp; done) | (go_simp; with_reducible rfl))
                  try simp only [Act.put, List.setIfInBounds_toArray, List.set_cons_zero, List.set_cons_succ]
                  refine take_op (i := 15) 119 (v := ?_) rfl rfl (by kernel_rfl) (by kernel_rfl) (by kernel_rfl) (fun _ _ _ h => h) (Or.inl ⟨by rfl, ?_⟩) (by assumption) ?_
                  rotate_left
                  · (intro w hSw; (try dsimp only at hSw); first | (go_simp; done) | (go_simp; with_reducible rfl))
                  try simp only [Act.put, List.setIfInBounds_toArray, List.set_cons_zero, List.set_cons_succ]
                  refine ready_one 8 (by kernel_rfl) rfl (fun K hK => ?_)
                  (go_simp; go_at_call 29; refine (copyBytes_any (w := wr.drew) (xs := L.take ct) ltk.out cA (show Rd wr.drew _ _ from RL3.out.take ct) (by omega)).mono ?_; rintro e w7 ⟨rv, rfl, hvv, hbb⟩; obtain ⟨A7, c7, rfl, -, -, -⟩ := hvv.sliceN ltk.out; have O7 : Hid (Own w7 (w2.heap.size + 1) (.slice A7 ct c7) (L.take ct)) := Own.mono hvv (show w2.heap.size + 1 ≤ wr.heap.size from hsz3.out); have OW7 : Hid (Own w7 wr.heap.size (.slice A7 ct c7) (L.take ct)) := hvv; have B7 : Hid (Below wr.heap.size wr w7) := bthen (bdrew (Below.refl _ _)) hbb; clear hvv hbb)
                  refine hK.out _ _ ?_ (fun hHeld => ?_)
                  · exact ⟨(B7.out.cell lt1).trans ca3, (B7.out.cell lt2).trans cc3, (B7.out.cell lt3).trans cx3⟩
                  clear hK K
                  try simp only [Act.put, List.setIfInBounds_toArray, List.set_cons_zero, List.set_cons_succ]
                  refine ready_one 16 (by kernel_rfl) rfl (fun K hK => ?_)
                  (refine step_append_bytesY rfl (.tmp 112) (.tmp 119) 23 rfl (w2.heap.size + 1) Try.underlying23 info_u8 (.slice A7 ct c7) (L.take ct) (old.drop ct) rfl O7.out (cutA Ax cx ct) (4096 - ct) (cx - ct) rfl ldr.out ((RX3.out.below B7.out).cut ct cx (by rw [HX4.out]; exact hcx)) (by rw [ltk.out]; omega) (Nat.le_trans hsz3.out B7.out.size) ?_; intro v8 w8 ho8 hg8; have B8 := Lib.hid (B7.out.grown hg8 B7.out.size (Own.base OW7.out)); replace ho8 : Own w8 (w2.heap.size + 1) v8 (tornL old L ct) := ho8; obtain ⟨A8, c8, rfl, -, -, -⟩ := ho8.sliceN XL.out; have O8 := Lib.hid ho8; clear ho8 hg8)
                  refine hK.out _ _ ?_ (fun hHeld => ?_)
                  · exact ⟨(B8.out.cell lt1).trans ca3, (B8.out.cell lt2).trans cc3, (B8.out.cell lt3).trans cx3⟩
                  clear hK K
                  try simp only [Act.put, List.setIfInBounds_toArray, List.set_cons_zero, List.set_cons_succ]
                  refine ready_one 17 (by kernel_rfl) rfl (fun K hK => ?_)
                  (go_simp)
                  refine hK.out _ _ ?_ (fun hHeld => ?_)
                  · exact ⟨((balloc B8.out _).cell lt1).trans ca3, ((balloc B8.out _).cell lt2).trans cc3, ((balloc B8.out _).cell lt3).trans cx3⟩
                  clear hK K
                  try simp only [Act.put, List.setIfInBounds_toArray, List.set_cons_zero, List.set_cons_succ]
                  have BA8 := Lib.hid (balloc B8.out (.cells #[.slice A8 4096 c8] 23))
                  have SA8 := Lib.hid (S3.out.below BA8.out)
                  have BB8 := Lib.hid (bthen hb3.out BA8.out)
                  have Z8 : Hid (w2.heap.size < (w8.alloc (.cells #[.slice A8 4096 c8] 23)).heap.size) := Nat.lt_of_lt_of_le hsz3.out BA8.out.size
                  have OA8 := Lib.hid (O8.out.alloc (.cells #[.slice A8 4096 c8] 23))
                  have B08 := Lib.hid (B03.out.below BA8.out)
                  have OLA := Lib.hid (OL3.out.below BA8.out)
                  obtain ⟨vals3, hrow3, hvl3, hel3⟩ := BR3.out.below BA8.out
                  have hvl31 : vals3.length < 2147483648 := by rw [hvl3, ← HN3.out]; exact hn3b
                  have HROW := Lib.hid hrow3
                  have HVL := Lib.hid hvl3
                  have HEL := Lib.hid hel3
                  clear hrow3 hvl3 hel3
                  refine ready_one 18 (by kernel_rfl) rfl (fun K hK => ?_)
                  (refine step_append_rowO rfl (.tmp 107) (.tmp 121) 60 23 rfl (w2.heap.size + 1) Try.underlying60 info_slice rfl (.slice (some ⟨g3, off3, none⟩) n3 cap3) vals3 rfl HROW.out ⟨w8.heap.size, 0, none⟩ 1 1 rfl [.slice A8 4096 c8] rfl (by decide) (one_cell _ _ _) (one_one rfl) (by simp only [maxLen]; omega) (by omega) Z8.out ?_; intro v9 w9 hr9 hg9 hf9 hp9; obtain ⟨hS9, hB9, hA9, hT9, hW9⟩ := SA8.out.grown hp4 HV3.out HROW.out HVL.out HEL.out OA8.out XL.out hr9 hg9 hf9 hp9; obtain ⟨hW1, hW2, hW3⟩ := hW9 _ (M pn) (((M pn).take j).map (fun old => tornL old L ct)) (tornM_self _ _ _ _ _) B08.out LK3.out; have OL9 := Lib.hid (hT9.own OLA.out (own_brow (BR3.out.below BA8.out) OLA.out)); obtain ⟨g9, off9, n9, cap9, rfl, -, -, -⟩ := hB9.formN; have S9 := Lib.hid hS9; have BR9 := Lib.hid hB9; have AP9 := Lib.hid hA9; have W1 := Lib.hid hW1; have W2 := Lib.hid hW2; have W3 := Lib.hid hW3; have B9 : Hid (Below w.heap.size w w9) := BB8.out.trans (hT9.toBelow BB8.out.size (fun j hj => by have := (HROW.out.lt' hj).1; have := OC2.out.lt; omega)); have Z9 : Hid (w2.heap.size < w9.heap.size) := Nat.lt_of_lt_of_le Z8.out hT9.size; have ca9 := hS9.arr.cell HV3.out; have fa9 := hS9.arr.frozen pn; clear hr9 hg9 hf9 hp9 hS9 hB9 hA9 hT9 hW9 hW1 hW2 hW3)
                  refine hK.out _ _ ?_ (fun hHeld => ?_)
                  · exact ⟨ca9, S9.out.crash.cell (j := 2) rfl, W3.out g0 off0 cap0 j _ (by rw [← HN0.out]) (by rw [← HN0.out]; omega) (((BA8.out).cell lt3).trans cx3)⟩
                  clear hK K
                  try simp only [Act.put, List.setIfInBounds_toArray, List.set_cons_zero, List.set_cons_succ]
                  refine take_op (i := 19) 123 (v := ?_) rfl rfl (by kernel_rfl) (by kernel_rfl) (by kernel_rfl) (fun _ _ _ h => h) (Or.inl ⟨by rfl, ?_⟩) (by assumption) ?_
                  rotate_left
                  · (intro w hSw; (try dsimp only at hSw); first | (go_simp; done) | (go_simp; with_reducible rfl))
                  try simp only [Act.put, List.setIfInBounds_toArray, List.set_cons_zero, List.set_cons_succ]
                  refine wpAnyH_done (by kernel_rfl) ?_ _
                  show wpList _ _ _ _ _ _
                  go_wp2_with fail
                  have TM : Tch (fun b => b = w2.heap.size) w9 (w9.setCell ⟨w2.heap.size, pn, none⟩ (.slice (some ⟨g9, off9, none⟩) n9 cap9)) := (Tch.refl _ _).grown (set_grown _ _ _ _) (fun j e => .inl (by injection e with e; exact e.symm))
                  have SP := S9.out.put (M' := tornM M pn L ct (j + 1)) hp4 (by rw [tornM_succ HOLD.out]; exact BR9.out) (fun c hc => by rw [tornM_other hc, tornM_other hc]) AP9.out
                  go_roundw
                  case rel => exact ⟨j + 1, by omega, by go_num, ⟨_, _, SP, List.getElem?_set_self (by rw [S9.out.vl]; exact hp4), brow_other TM (Nat.lt_succ_self _) W1.out, W2.out, TM.own OL9.out (fun b hb e => by have := (World.ownsRow.lt OL9.out b hb).1; omega)⟩, B9.out.setCell (show w.heap.size ≤ w2.heap.size from Nat.le_of_lt OC2.out.lt) _, by show _ < _; simpa [World.setCell] using Z9.out⟩
                  case measure => simp [intOf]; omega
                · obtain rfl : j = n0 := by omega
                  have GM1 : Hid (growM torn ct n M pn L pn = tornM M pn L ct j pn ++ [L]) := growM_torn HTT.out HN0.out
                  have GM2 : Hid (∀ c, c ≠ pn → growM torn ct n M pn L c = tornM M pn L ct j c) := fun c hc => by rw [growM_other hc, tornM_other hc]
                  obtain ⟨gX, offX, nX, capX, HVY⟩ : ∃ gX offX nX capX, Hid (vs3[pn]? = some (.slice (some ⟨gX, offX, none⟩) nX capX) ∧ gX = g3 ∧ offX = off3 ∧ nX = n3 ∧ capX = cap3) := ⟨_, _, _, _, HV3.out, rfl, rfl, rfl, rfl⟩
                  obtain ⟨hvx, rfl, rfl, rfl, rfl⟩ := HVY.out
                  have HVX := Lib.hid hvx
                  clear hvx HVY
                  have SX := S3
                  have BRX := BR3
                  have HNX := HN3
                  have hnX : nX < 2147483648 := hn3b
                  have OLX := OL3
                  have BX := hb3
                  have ZX := hsz3
                  obtain ⟨vals0, hrow0, hvl0, hel0⟩ := (BRX.out.below (balloc (Below.refl _ _) (.cells #[.slice (some ⟨gA, 0, none⟩) 4096 cA] 23)))
                  have hvl1 : vals0.length ≤ 2147483648 := by rw [hvl0, ← HNX.out]; have := hnX; omega
                  have cax := SX.out.arr.cell HVX.out
                  have HROW := Lib.hid hrow0
                  have HVL := Lib.hid hvl0
                  have HEL := Lib.hid hel0
                  have BXA := Lib.hid (bthen BX.out (balloc (Below.refl _ _) (.cells #[.slice (some ⟨gA, 0, none⟩) 4096 cA] 23)))
                  have SXA := Lib.hid (SX.out.below (balloc (Below.refl _ _) (.cells #[.slice (some ⟨gA, 0, none⟩) 4096 cA] 23)))
                  have OXA := Lib.hid (OLX.out.alloc (.cells #[.slice (some ⟨gA, 0, none⟩) 4096 cA] 23))
                  have wn : IntKind.i64.wrap ((n : Int) + 1) = (n : Int) + 1 := by rw [IntKind.wrap_i64]; omega
                  clear hrow0 hvl0 hel0
                  go_wp2_with (at_builtin; refine wpList_append_rowO rfl (.tmp 127) (.tmp 129) 60 23 rfl (w2.heap.size + 1) Try.underlying60 info_slice rfl (.slice (some ⟨gX, offX, none⟩) nX capX) vals0 rfl HROW.out ⟨wr.heap.size, 0, none⟩ 1 1 rfl [.slice (some ⟨gA, 0, none⟩) 4096 cA] rfl (by decide) (one_cell _ _ _) (one_one rfl) (by simp only [maxLen]; omega) (by omega) (by have := ZX.out; simp; omega) ?_; intro v7 w7 hr7 hg7 hf7 hp7; obtain ⟨hS7, hB7, hA7, hT7, _⟩ := SXA.out.grown hp4 HVX.out HROW.out HVL.out HEL.out OXA.out LC.out hr7 hg7 hf7 hp7; obtain ⟨g7, off7, n7, cap7, rfl, -, -, -⟩ := hB7.formN; have S7 := Lib.hid hS7; have BR7 := Lib.hid hB7; have AP7 := Lib.hid hA7; have B7 : Hid (Below w.heap.size w w7) := BXA.out.trans (hT7.toBelow BXA.out.size (fun j hj => by have := (HROW.out.lt' hj).1; have := OC2.out.lt; omega)); have Z7 : Hid (w2.heap.size < w7.heap.size) := Nat.lt_of_lt_of_le ZX.out (Nat.le_trans (by simp) hT7.size); have ca7 := hS7.arr.cell HVX.out; have fa7 := hS7.arr.frozen pn; clear hr7 hg7 hf7 hp7 hS7 hB7 hA7 hT7)
                  go_roundw
                  case rel => exact ⟨k + 1, by omega, by omega, by go_num, ⟨addW D pn L, ws6, growM torn ct n M pn L, _, (S7.out.put (M' := growM torn ct n M pn L) hp4 (by rw [GM1.out]; exact BR7.out) GM2.out AP7.out).si ⟨SIH.out.calm.down, SIH.out.calm.arm, SIH.out.calm.fail⟩ SIH.out.four (congrArg (Value.int .i64) (show (n : Int) + 1 = ((addW D pn L).writes.length : Int) from by have := F6.out; omega)) (by rw [F6.out]; have := SIH.out.few; have := HN.out; omega) (by have := SIH.out.model.write pn L (by rw [SIH.out.four]; exact hp4); rw [← HN.out] at this; exact this) (growM_len SIH.out.len)⟩, B7.out.setCell (show w.heap.size ≤ w2.heap.size from Nat.le_of_lt OC2.out.lt) _, by show _ < _; simpa [World.setCell] using Z7.out⟩
                  case measure => simp [intOf]; omega
            · have hTq : ((n : Int) == torn) = false := by rw [beq_eq_false_iff_ne]; exact hT
              have GM1 : Hid (growM torn ct n M pn L pn = M pn ++ [L]) := growM_plain hT
              have GM2 : Hid (∀ c, c ≠ pn → growM torn ct n M pn L c = M c) := fun c hc => growM_other hc
              obtain ⟨gX, offX, nX, capX, HVY⟩ : ∃ gX offX nX capX, Hid (vs2[pn]? = some (.slice (some ⟨gX, offX, none⟩) nX capX) ∧ gX = g0 ∧ offX = off0 ∧ nX = n0 ∧ capX = cap0) := ⟨_, _, _, _, HV0.out, rfl, rfl, rfl, rfl⟩
              obtain ⟨hvx, rfl, rfl, rfl, rfl⟩ := HVY.out
              have HVX := Lib.hid hvx
              clear hvx HVY
              have SX := S6
              have BRX := BR0
              have HNX := HN0
              have hnX : nX < 2147483648 := by omega
              have OLX := OL6
              have BX := B6
              have ZX := Z6
              clear hT
              obtain ⟨vals0, hrow0, hvl0, hel0⟩ := (BRX.out.below (balloc (Below.refl _ _) (.cells #[.slice (some ⟨gA, 0, none⟩) 4096 cA] 23)))
              have hvl1 : vals0.length ≤ 2147483648 := by rw [hvl0, ← HNX.out]; have := hnX; omega
              have cax := SX.out.arr.cell HVX.out
              have HROW := Lib.hid hrow0
              have HVL := Lib.hid hvl0
              have HEL := Lib.hid hel0
              have BXA := Lib.hid (bthen BX.out (balloc (Below.refl _ _) (.cells #[.slice (some ⟨gA, 0, none⟩) 4096 cA] 23)))
              have SXA := Lib.hid (SX.out.below (balloc (Below.refl _ _) (.cells #[.slice (some ⟨gA, 0, none⟩) 4096 cA] 23)))
              have OXA := Lib.hid (OLX.out.alloc (.cells #[.slice (some ⟨gA, 0, none⟩) 4096 cA] 23))
              have wn : IntKind.i64.wrap ((n : Int) + 1) = (n : Int) + 1 := by rw [IntKind.wrap_i64]; omega
              clear hrow0 hvl0 hel0
              go_wp2_with (at_builtin; refine wpList_append_rowO rfl (.tmp 127) (.tmp 129) 60 23 rfl (w2.heap.size + 1) Try.underlying60 info_slice rfl (.slice (some ⟨gX, offX, none⟩) nX capX) vals0 rfl HROW.out ⟨w6.heap.size, 0, none⟩ 1 1 rfl [.slice (some ⟨gA, 0, none⟩) 4096 cA] rfl (by decide) (one_cell _ _ _) (one_one rfl) (by simp only [maxLen]; omega) (by omega) (by have := ZX.out; simp; omega) ?_; intro v7 w7 hr7 hg7 hf7 hp7; obtain ⟨hS7, hB7, hA7, hT7, _⟩ := SXA.out.grown hp4 HVX.out HROW.out HVL.out HEL.out OXA.out LC.out hr7 hg7 hf7 hp7; obtain ⟨g7, off7, n7, cap7, rfl, -, -, -⟩ := hB7.formN; have S7 := Lib.hid hS7; have BR7 := Lib.hid hB7; have AP7 := Lib.hid hA7; have B7 : Hid (Below w.heap.size w w7) := BXA.out.trans (hT7.toBelow BXA.out.size (fun j hj => by have := (HROW.out.lt' hj).1; have := OC2.out.lt; omega)); have Z7 : Hid (w2.heap.size < w7.heap.size) := Nat.lt_of_lt_of_le ZX.out (Nat.le_trans (by simp) hT7.size); have ca7 := hS7.arr.cell HVX.out; have fa7 := hS7.arr.frozen pn; clear hr7 hg7 hf7 hp7 hS7 hB7 hA7 hT7)
              go_roundw
              case rel => exact ⟨k + 1, by omega, by omega, by go_num, ⟨addW D pn L, ws6, growM torn ct n M pn L, _, (S7.out.put (M' := growM torn ct n M pn L) hp4 (by rw [GM1.out]; exact BR7.out) GM2.out AP7.out).si ⟨SIH.out.calm.down, SIH.out.calm.arm, SIH.out.calm.fail⟩ SIH.out.four (congrArg (Value.int .i64) (show (n : Int) + 1 = ((addW D pn L).writes.length : Int) from by have := F6.out; omega)) (by rw [F6.out]; have := SIH.out.few; have := HN.out; omega) (by have := SIH.out.model.write pn L (by rw [SIH.out.four]; exact hp4); rw [← HN.out] at this; exact this) (growM_len SIH.out.len)⟩, B7.out.setCell (show w.heap.size ≤ w2.heap.size from Nat.le_of_lt OC2.out.lt) _, by show _ < _; simpa [World.setCell] using Z7.out⟩
              case measure => simp [intOf]; omega
        · have hcase : (decide ((30 : Int) < (l : Int)) = true ∧ k = 30) ∨ k = l := by
            by_cases h1 : k < l
            · exact .inl ⟨decide_eq_true (by omega), by omega⟩
            · exact .inr (by omega)
          have LENX : Hid (∀ b, b < 4 → (M b).length < 2147483648) := fun b hb => by
            have h1 := SIH.out.len b hb
            have h2 : (2 : Nat) ^ (k + 1) ≤ 2 ^ 31 := Nat.pow_le_pow_right (by decide) (by omega)
            omega
          have k0 := SIH.out.crash.cell (j := 0) rfl
          have k1 := SIH.out.crash.cell (j := 1) rfl
          have k2 := SIH.out.crash.cell (j := 2) rfl
          clear hgo
          rcases hcase with ⟨q1, rfl⟩ | rfl
          all_goals
            go_wp2_with fail
            refine (pending_any SIH.out.at_).mono ?_
            rintro e w' ⟨rfl, rfl⟩
            rw [← HN.out]
            go_wp2_with fail
            refine (crash_ok SIH.out.at_ (by have := hsz.out; have := B2H.out; omega) (keep := l1) HN1.out c1 torn (ct := ct) hct2 (fun w' ht => HT.out.below (hb.out.trans (ht.toBelow hb.out.size (fun j hj => Nat.le_trans BW1.out.size (foot_base SIH.out.at_ j hj)))))).mono ?_
            rintro e w5 ⟨rfl, h5, t5⟩
            have S5 := Lib.hid ((SIH.out.sr LG.out LGB.out NE.out).foot h5 t5)
            have B5 : Hid (Below w.heap.size w w5) := hb.out.trans (t5.toBelow hb.out.size (fun j hj => Nat.le_trans BW1.out.size (foot_base SIH.out.at_ j hj)))
            clear h5 t5
            go_wp2_with fail
            refine (pending_any S5.out.at_).mono ?_
            rintro e w' ⟨rfl, rfl⟩
            rw [show (crashD D l1 torn ct).writes.length = 0 from rfl]
            go_wp2_with fail
            go_loopw [16] (fun i wr => ∃ b : Nat, b ≤ 4 ∧ i = .int .i64 b ∧ Hid (Below w5.heap.size w5 wr)) (fun i _ => 4 - (intOf i).toNat)
            case atStart => exact ⟨0, by omega, rfl, Below.refl _ _⟩
            case round =>
              obtain ⟨b3, hb4, rfl, hbl⟩ := hrel
              by_cases hlt3 : b3 < 4
              · obtain ⟨xs, hx, hxm, hrv⟩ := SIH.out.model.crash (b := b3) (by rw [SIH.out.four]; exact hlt3)
                have hbD : Hid (b3 < (crashD D l1 torn ct).blocks.length) := (List.getElem?_eq_some_iff.1 hx).1
                have XL := Lib.hid (S5.out.at_.len hx)
                have HX := Lib.hid hx
                have HXM := Lib.hid hxm
                have HRV := Lib.hid hrv
                clear hx hxm hrv
                go_wp2_with fail
                refine (read_any (S5.out.at_.below hbl.out) b3 hbD.out rfl).mono ?_
                rintro e y1 ⟨r, rfl, ho, hb1⟩
                rw [HRV.out] at ho
                obtain ⟨ga1, ca1, rfl, -, -, -, -⟩ := ho.formN XL.out (by decide)
                have O1 := Lib.hid ho
                have C1 := Lib.hid (bthen hbl.out hb1)
                clear ho hb1
                go_wp2_with fail
                refine (durable_any (S5.out.at_.below C1.out) b3 HX.out).mono ?_
                rintro e y2 ⟨r, rfl, ho, hb1⟩
                obtain ⟨ga2, ca2, rfl, -, -, -, -⟩ := ho.formN XL.out (by decide)
                have O2 := Lib.hid ho
                have O1b := Lib.hid (O1.out.below hb1)
                have C2 := Lib.hid (bthen C1.out hb1)
                clear ho hb1
                have S6 := Lib.hid (S5.out.below C2.out)
                obtain ⟨v3, hv3, hbr3⟩ := S6.out.at4 hlt3
                obtain ⟨g3, off3, n3, cap3, rfl, hn3, -, hcm3⟩ := hbr3.formN
                have ca3 := S6.out.arr.cell hv3
                have BR3 := Lib.hid hbr3
                have HN3 := Lib.hid hn3
                have u0 : (0 : Int) ≤ (b3 : Int) := by omega
                have u1 : (b3 : Int) < 4 := by omega
                have hn3b : n3 ≤ 281474976710656 := by
                  rw [HN3.out]
                  have h1 := LENX.out b3 hlt3
                  omega
                clear hv3 hbr3 hn3 hcm3
                go_wp2_with fail
                go_loop [21, 22] (fun f i => ∃ j : Nat, j ≤ n3 ∧ i = .int .i64 j ∧ f = .bool (fndB xs (M b3) j)) (fun _ i => n3 - (intOf i).toNat)
                case atStart => exact ⟨0, Nat.zero_le _, rfl, rfl⟩
                case round =>
                  obtain ⟨j, hj, rfl, rfl⟩ := hrel
                  by_cases hjn : j < n3
                  · have hjm : j < (M b3).length := by rw [← HN3.out]; exact hjn
                    have HY := Lib.hid (List.getElem?_eq_getElem hjm)
                    generalize (M b3)[j]'hjm = ys at *
                    obtain ⟨x3, cx3, hx3, hx4⟩ := BR3.out.elem HY.out
                    obtain ⟨Ax, cx, rfl, -, -, hrx⟩ := hx3.sliceN hx4
                    have RX := Lib.hid hrx
                    have YL := Lib.hid hx4
                    have NX := Lib.hid (fndB_succ (xs := xs) HY.out)
                    have e0 : (0 : Int) ≤ (j : Int) := by omega
                    have e1 : (j : Int) < (n3 : Int) := by omega
                    clear hx3 hx4 hrx hjm
                    obtain ⟨fb, hfb⟩ : ∃ fb, fb = fndB xs (M b3) j := ⟨_, rfl⟩
                    rw [← hfb] at NX ⊢
                    clear hfb
                    cases fb with
                    | true =>
                      go_wp2_with fail
                      go_round
                      case rel => exact ⟨j + 1, by omega, by go_num, by rw [NX.out]; rfl⟩
                      case measure => simp [intOf]; omega
                    | false =>
                      go_wp2_with fail
                      refine (sameBytes_any XL.out YL.out ca1 cx O1b.out.rd.1 RX.out).mono ?_
                      rintro e w' ⟨rfl, rfl⟩
                      go_wp2_with fail
                      go_round
                      case rel => exact ⟨j + 1, by omega, by go_num, by rw [NX.out, Bool.false_or]⟩
                      case measure => simp [intOf]; omega
                  · obtain rfl : j = n3 := by omega
                    have FT : Hid (fndB xs (M b3) j = true) := fndB_all HXM.out (by rw [HN3.out]; exact Nat.le_refl _)
                    rw [FT.out]
                    go_wp2_with fail
                    refine (sameBytes_any XL.out XL.out ca1 ca2 O1b.out.rd.1 O2.out.rd.1).mono ?_
                    rintro e w' ⟨rfl, rfl⟩
                    rw [eqB_self]
                    go_wp2_with fail
                    go_roundw
                    case rel => exact ⟨b3 + 1, by omega, by go_num, C2⟩
                    case measure => simp [intOf]; omega
              · obtain rfl : b3 = 4 := by omega
                go_wp2_with fail
                refine (awake03 (w := _)).mono ?_
                rintro e y9 ⟨rfl, hb1⟩
                have B9 := Lib.hid (bthen (bthen B5.out hbl.out) hb1)
                clear hb1
                go_wp2_with fail
                go_ret
                exact ⟨rfl, B9.out⟩
end Go.Proofs.Ytobnomlbkhkodaa.Y
