/-
  chanceryref08.Apply, Size.
-/
import Derived.Test.YtobnomlbkhkodaaCB
set_option linter.unusedVariables false
set_option linter.unusedSimpArgs false
namespace Go.Proofs.Ytobnomlbkhkodaa.Y
open Go.RowKit
attribute [local go_sem ↓] Go.wp_at_zero Go.wp_at_succ

theorem splice_step (p X : List UInt8) (n j : Nat) (h : n + X.length ≤ p.length) (hj : j < X.length) : (splice p n (X.take j)).set (n + j) X[j] = splice p n (X.take (j + 1)) := by
  have l1 : (X.take j).length = j := by rw [List.length_take]; omega
  have l2 : (X.take (j + 1)).length = j + 1 := by rw [List.length_take]; omega
  have hs : (splice p n (X.take j)).length = p.length := length_splice _ _ _ (by omega)
  apply List.ext_getElem?
  intro q
  rw [List.getElem?_set, splice_get _ _ _ _ (by omega), splice_get _ _ _ _ (by omega), l1, l2, hs]
  by_cases e : n + j = q
  · subst e
    rw [if_pos rfl, if_pos (by omega), if_pos (by omega), List.getElem?_take, if_pos (by omega)]
    rw [show n + j - n = j from by omega, List.getElem?_eq_getElem hj]
  · rw [if_neg e]
    by_cases c : n ≤ q ∧ q < n + j
    · rw [if_pos c, if_pos (by omega), List.getElem?_take, List.getElem?_take, if_pos (by omega), if_pos (by omega)]
    · rw [if_neg c, if_neg (by omega)]
theorem splice_nil (p : List UInt8) (n : Nat) : splice p n [] = p := by simp [splice]
theorem refApply_arg {w : World} {A B : Option Addr} {l m : Nat} (c d : Nat) (hl : l ≤ 140737488555328) (h : l ≠ 4080) :
    Calls Try.prog 26 #[.slice A l c, .slice B m d] w fun e w' => e = .returned (.tuple #[.slice none 0 0, .int .i64 2]) ∧ Below w.heap.size w w' := by
  have q1 : ((l : Int) != 4080) = true := by rw [bne_iff_ne]; omega
  have q3 : (l != 4080) = true := by rw [bne_iff_ne]; omega
  clear h
  go_enter Try.func26, Try.ntmps26
  go_wp2
  go_ret2
  exact ⟨rfl, Below.refl _ _⟩
theorem may_false {a : Int} {m : Nat} (h : mayP a m = false) : a < 0 ∨ (0 ≤ a ∧ m = 0) ∨ (0 ≤ a ∧ 0 < m ∧ 4080 < m) ∨ (0 ≤ a ∧ 0 < m ∧ m ≤ 4080 ∧ 4080 - (m : Int) < a) := by
  by_cases h1 : a < 0
  · exact .inl h1
  by_cases h2 : m = 0
  · exact .inr (.inl ⟨by omega, h2⟩)
  by_cases h3 : 4080 < m
  · exact .inr (.inr (.inl ⟨by omega, by omega, h3⟩))
  refine .inr (.inr (.inr ⟨by omega, by omega, by omega, ?_⟩))
  have : ¬ a ≤ 4080 - (m : Int) := fun q => by
    have : mayP a m = true := by unfold mayP; rw [decide_eq_true (by omega), decide_eq_true (by omega), decide_eq_true q]; rfl
    rw [this] at h
    cases h
  omega
set_option maxHeartbeats 6400000 in
set_option maxRecDepth 100000 in
theorem refApply_ok {w : World} {A0 A : Option Addr} {xs : List UInt8} (hx : xs.length = 4080) (c0 : Nat) (h0 : Rd w A0 xs) {L : List (Int × List UInt8)} {l : Nat} (hL : L.length = l) (c : Nat) (hA : RdP w A L) (hl : l ≤ 140737488555328) (hok : okP L = true) :
    Calls Try.prog 26 #[.slice A0 4080 c0, .slice A l c] w fun e w' => ∃ r, e = .returned (.tuple #[r, .int .i64 0]) ∧ Own w' w.heap.size r (layL xs L) ∧ Below w.heap.size w w' := by
  have HL := Lib.hid hL
  have HA := Lib.hid hA
  have HX := Lib.hid hx
  have H0 := Lib.hid h0
  have HOK := Lib.hid hok
  clear hL hA hx h0 hok
  go_enter Try.func26, Try.ntmps26
  go_wp2_with (at_builtin; refine wpList_append_bytes rfl (.tmp 13) (.tmp 14) 23 rfl w.heap.size Try.underlying23 info_u8 (.slice none 0 0) [] xs rfl (Own.nil _ _) A0 4080 c0 rfl HX.out H0.out (by decide) (Nat.le_refl _) ?_; intro r2 w2 hown2 hg2 _ _; have O2 : Hid (Own w2 w.heap.size r2 xs) := hown2; have B2 := Lib.hid (below_none hg2); clear hown2 hg2; obtain ⟨g, c1, rfl, hg1, hg2, hc1, hc2⟩ := O2.out.formN HX.out (by decide))
  go_loopw [7] (fun i wr => ∃ k : Nat, k ≤ l ∧ i = .int .i64 k ∧ Hid (Own wr w.heap.size (.slice (some ⟨g, 0, none⟩) 4080 c1) (layL xs (L.take k))) ∧ Hid (Below w.heap.size w wr) ∧ Hid (okP (L.take k) = true)) (fun i _ => l - (intOf i).toNat)
  case atStart => exact ⟨0, Nat.zero_le _, rfl, O2, B2, rfl⟩
  case round =>
    obtain ⟨k, hk, rfl, hv, hb, hall⟩ := hrel
    by_cases hlt : k < l
    · obtain ⟨b, o, C, d, rfl, hp⟩ := HA.out.at_ (i := k) (by rw [HL.out]; exact hlt)
      have gL := Lib.hid (List.getElem?_eq_getElem (l := L) (i := k) (by rw [HL.out]; exact hlt))
      generalize L[k]'(by rw [HL.out]; exact hlt) = P at *
      obtain ⟨a, X⟩ := P
      have p0 := hp.c0
      have p1 := hp.c1
      have R1 := Lib.hid hp.rd
      have hok1 := hp.ok.len
      have hok2 := hp.ok.lo
      have hok3 := hp.ok.hi
      clear hp
      dsimp only at p0 p1 R1 hok1 hok2 hok3
      have hnx := Lib.hid (okP_take gL.out hall.out)
      have hms : X.length = X.length := rfl
      obtain ⟨m, hm⟩ : ∃ m, m = X.length := ⟨_, rfl⟩
      have hxl : Hid (mayP a X.length = mayP a m) := by show _ = _; rw [hm]
      rw [← hm] at p1 hok1
      have HM := Lib.hid hm
      clear hm hms
      have hBg : w.heap.size ≤ g := hg1
      have hmay : mayP a m = true := hxl.out.symm.trans (okP_at HOK.out gL.out)
      have hall2 : Hid (okP (L.take (k + 1)) = true) := by show _ = _; rw [hnx.out]; exact hxl.out.trans hmay
      have ft := Lib.hid (may_true hmay)
      obtain ⟨n, rfl⟩ := Int.eq_ofNat_of_zero_le ft.out.1
      have fit1 : n + m ≤ 4080 := by have := ft.out.2.2; omega
      have fit0 : 0 < m := ft.out.2.1
      have fit2 : (n : Int) ≤ 4080 - (m : Int) := by omega
      have fit3 : (m : Int) ≤ 4080 := by omega
      have hts := Lib.hid (layL_take (xs := xs) gL.out)
      have m0 : ((m : Int) == 0) = false := by rw [beq_eq_false_iff_ne]; omega
      have m1 : (m == 0) = false := by rw [beq_eq_false_iff_ne]; omega
      have hpl := Lib.hid (layL_length HX.out hall.out)
      obtain ⟨bC, oC, rfl⟩ := R1.out.addr (by rw [← HM.out]; exact fit0)
      replace R1 := Lib.hid (R1.out)
      have KP := Lib.hid (show w.cell? ⟨b, o + k * 2, none⟩ = some (.int .i64 ((n : Nat) : Int)) ∧ w.cell? ⟨b, o + k * 2 + 1, none⟩ = some (.slice (some ⟨bC, oC, none⟩) m d) from ⟨p0, p1⟩)
      replace p0 := (hb.out.cell (World.block_lt_of_cell? w _ KP.out.1)).trans KP.out.1
      replace p1 := (hb.out.cell (World.block_lt_of_cell? w _ KP.out.2)).trans KP.out.2
      go_wp2
      clear m0 m1 p0 p1
      obtain ⟨wo, hwo⟩ : ∃ wo : World, wo = wr := ⟨_, rfl⟩
      rw [← hwo]
      rw [← hwo] at hv hb
      clear hwo
      go_loopw [9] (fun q wi => ∃ j : Nat, j ≤ m ∧ q = .int .i64 j ∧ Hid (Own wi w.heap.size (.slice (some ⟨g, 0, none⟩) 4080 c1) (splice (layL xs (L.take k)) n (X.take j))) ∧ Hid (Below w.heap.size w wi)) (fun q _ => m - (intOf q).toNat)
      case atStart => exact ⟨0, Nat.zero_le _, rfl, by rw [List.take_zero, splice_nil]; exact hv, hb⟩
      case round =>
        obtain ⟨j, hj, rfl, hvj, hbj⟩ := hrel
        by_cases hjm : j < m
        · have gX := Lib.hid (List.getElem?_eq_getElem (l := X) (i := j) (by rw [← HM.out]; exact hjm))
          have stp := Lib.hid (splice_step (layL xs (L.take k)) X n j (by rw [hpl.out, ← HM.out]; exact fit1) (by rw [← HM.out]; exact hjm))
          generalize X[j]'(by rw [← HM.out]; exact hjm) = x at gX stp
          have hsl : (splice (layL xs (L.take k)) n (X.take j)).length = 4080 := by rw [length_splice _ _ _ (by rw [hpl.out, List.length_take, ← HM.out]; omega), hpl.out]
          have HSL := Lib.hid hsl
          obtain ⟨old, t0⟩ : ∃ u, wr.cell? ⟨g, n + j, none⟩ = some u := ⟨_, hvj.out.cellAt (j := n + j) (by rw [hsl]; omega)⟩
          have f0 := hvj.out.frozenAt (n + j)
          have KX := Lib.hid (R1.out.at' j gX.out)
          have hst := Lib.hid (hvj.out.stored (n + j) x)
          have keep : ∀ W', Below w.heap.size w W' → W'.cell? ⟨b, o + k * 2, none⟩ = some (.int .i64 ((n : Nat) : Int)) ∧ W'.cell? ⟨b, o + k * 2 + 1, none⟩ = some (.slice (some ⟨bC, oC, none⟩) m d) ∧ W'.cell? ⟨bC, oC + j, none⟩ = some (.int .u8 (x.toNat : Int)) := fun W' h => ⟨(h.cell (World.block_lt_of_cell? w _ KP.out.1)).trans KP.out.1, (h.cell (World.block_lt_of_cell? w _ KP.out.2)).trans KP.out.2, (h.cell (World.block_lt_of_cell? w _ KX.out)).trans KX.out⟩
          have KE := Lib.hid keep
          have hbs := Lib.hid (hbj.out.setCell (p := ⟨g, n + j, none⟩) hBg (bv x))
          have kk0 : (0 : Int) ≤ (k : Int) := by omega
          have kk1 : (k : Int) < (l : Int) := by omega
          have jj0 : (0 : Int) ≤ (j : Int) := by omega
          have jj1 : (j : Int) < (m : Int) := by omega
          have nj0 : (0 : Int) ≤ (n : Int) + (j : Int) := by omega
          have nj1 : (n : Int) + (j : Int) < 4080 := by omega
          have nj2 : ((n : Int) + (j : Int)).toNat = n + j := by omega
          have nj3 : IntKind.i64.wrap ((n : Int) + (j : Int)) = (n : Int) + (j : Int) := by rw [IntKind.wrap_i64]; omega
          clear keep hsl
          go_wp2
          refine wp_region_held_drew (S := (fun w' : World => w'.cell? ⟨b, o + k * 2, none⟩ = some (.int .i64 ((n : Nat) : Int)) ∧ w'.cell? ⟨b, o + k * 2 + 1, none⟩ = some (.slice (some ⟨bC, oC, none⟩) m d) ∧ w'.cell? ⟨bC, oC + j, none⟩ = some (.int .u8 (x.toNat : Int)))) (by kernel_rfl) (KE.out _ (bdrew hbj.out)) (fun hHeld => ?_)
          refine take_op (i := 0) 57 (v := ?_) rfl rfl (by kernel_rfl) (by kernel_rfl) (by kernel_rfl) (fun _ _ _ h => h) (Or.inl ⟨by rfl, ?_⟩) (by assumption) ?_
          rotate_left
          · (intro w hSw; (try dsimp only at hSw); first | (go_simp; done) | (go_simp; with_reducible rfl))
          try simp only [Act.put, List.setIfInBounds_toArray, List.set_cons_zero, List.set_cons_succ]
          refine take_op (i := 1) 58 (v := ?_) rfl rfl (by kernel_rfl) (by kernel_rfl) (by kernel_rfl) (fun _ _ _ h => h) (Or.inl ⟨by rfl, ?_⟩) (by assumption) ?_
          rotate_left
          · (intro w hSw; (try dsimp only at hSw); first | (go_simp; done) | (go_simp; with_reducible rfl))
          try simp only [Act.put, List.setIfInBounds_toArray, List.set_cons_zero, List.set_cons_succ]
          refine take_op (i := 2) 59 (v := ?_) rfl rfl (by kernel_rfl) (by kernel_rfl) (by kernel_rfl) (fun _ _ _ h => h) (Or.inl ⟨by rfl, ?_⟩) (by assumption) ?_
          rotate_left
          · (intro w hSw; (try dsimp only at hSw); first | (go_simp; done) | (go_simp; with_reducible rfl))
          try simp only [Act.put, List.setIfInBounds_toArray, List.set_cons_zero, List.set_cons_succ]
          refine take_op (i := 3) 60 (v := ?_) rfl rfl (by kernel_rfl) (by kernel_rfl) (by kernel_rfl) (fun _ _ _ h => h) (Or.inl ⟨by rfl, ?_⟩) (by assumption) ?_
          rotate_left
          · (intro w hSw; (try dsimp only at hSw); first | (go_simp; done) | (go_simp; with_reducible rfl))
          try simp only [Act.put, List.setIfInBounds_toArray, List.set_cons_zero, List.set_cons_succ]
          refine take_op (i := 4) 61 (v := ?_) rfl rfl (by kernel_rfl) (by kernel_rfl) (by kernel_rfl) (fun _ _ _ h => h) (Or.inl ⟨by rfl, ?_⟩) (by assumption) ?_
          rotate_left
          · (intro w hSw; (try dsimp only at hSw); first | (go_simp; done) | (go_simp; with_reducible rfl))
          try simp only [Act.put, List.setIfInBounds_toArray, List.set_cons_zero, List.set_cons_succ]
          refine take_op (i := 5) 62 (v := ?_) rfl rfl (by kernel_rfl) (by kernel_rfl) (by kernel_rfl) (fun _ _ _ h => h) (Or.inl ⟨by rfl, ?_⟩) (by assumption) ?_
          rotate_left
          · (intro w hSw; (try dsimp only at hSw); first | (go_simp; done) | (go_simp; with_reducible rfl))
          try simp only [Act.put, List.setIfInBounds_toArray, List.set_cons_zero, List.set_cons_succ]
          refine take_op (i := 6) 63 (v := ?_) rfl rfl (by kernel_rfl) (by kernel_rfl) (by kernel_rfl) (fun _ _ _ h => h) (Or.inl ⟨by rfl, ?_⟩) (by assumption) ?_
          rotate_left
          · (intro w hSw; (try dsimp only at hSw); first | (go_simp; done) | (go_simp; with_reducible rfl))
          try simp only [Act.put, List.setIfInBounds_toArray, List.set_cons_zero, List.set_cons_succ]
          refine take_op (i := 7) 64 (v := ?_) rfl rfl (by kernel_rfl) (by kernel_rfl) (by kernel_rfl) (fun _ _ _ h => h) (Or.inl ⟨by rfl, ?_⟩) (by assumption) ?_
          rotate_left
          · (intro w hSw; (try dsimp only at hSw); first | (go_simp; done) | (go_simp; with_reducible rfl))
          try simp only [Act.put, List.setIfInBounds_toArray, List.set_cons_zero, List.set_cons_succ]
          refine take_op (i := 8) 65 (v := ?_) rfl rfl (by kernel_rfl) (by kernel_rfl) (by kernel_rfl) (fun _ _ _ h => h) (Or.inl ⟨by rfl, ?_⟩) (by assumption) ?_
          rotate_left
          · (intro w hSw; (try dsimp only at hSw); first | (go_simp; done) | (go_simp; with_reducible rfl))
          try simp only [Act.put, List.setIfInBounds_toArray, List.set_cons_zero, List.set_cons_succ]
          refine take_op (i := 9) 66 (v := ?_) rfl rfl (by kernel_rfl) (by kernel_rfl) (by kernel_rfl) (fun _ _ _ h => h) (Or.inl ⟨by rfl, ?_⟩) (by assumption) ?_
          rotate_left
          · (intro w hSw; (try dsimp only at hSw); first | (go_simp; done) | (go_simp; with_reducible rfl))
          try simp only [Act.put, List.setIfInBounds_toArray, List.set_cons_zero, List.set_cons_succ]
          refine take_op (i := 10) 67 (v := ?_) rfl rfl (by kernel_rfl) (by kernel_rfl) (by kernel_rfl) (fun _ _ _ h => h) (Or.inl ⟨by rfl, ?_⟩) (by assumption) ?_
          rotate_left
          · (intro w hSw; (try dsimp only at hSw); first | (go_simp; done) | (go_simp; with_reducible rfl))
          try simp only [Act.put, List.setIfInBounds_toArray, List.set_cons_zero, List.set_cons_succ]
          refine take_op (i := 11) 68 (v := ?_) rfl rfl (by kernel_rfl) (by kernel_rfl) (by kernel_rfl) (fun _ _ _ h => h) (Or.inl ⟨by rfl, ?_⟩) (by assumption) ?_
          rotate_left
          · (intro w hSw; (try dsimp only at hSw); first | (go_simp; done) | (go_simp; with_reducible rfl))
          try simp only [Act.put, List.setIfInBounds_toArray, List.set_cons_zero, List.set_cons_succ]
          refine take_op (i := 12) 69 (v := ?_) rfl rfl (by kernel_rfl) (by kernel_rfl) (by kernel_rfl) (fun _ _ _ h => h) (Or.inl ⟨by rfl, ?_⟩) (by assumption) ?_
          rotate_left
          · (intro w hSw; (try dsimp only at hSw); first | (go_simp; done) | (go_simp; with_reducible rfl))
          try simp only [Act.put, List.setIfInBounds_toArray, List.set_cons_zero, List.set_cons_succ]
          refine take_op (i := 13) 70 (v := ?_) rfl rfl (by kernel_rfl) (by kernel_rfl) (by kernel_rfl) (fun _ _ _ h => h) (Or.inl ⟨by rfl, ?_⟩) (by assumption) ?_
          rotate_left
          · (intro w hSw; (try dsimp only at hSw); first | (go_simp; done) | (go_simp; with_reducible rfl))
          try simp only [Act.put, List.setIfInBounds_toArray, List.set_cons_zero, List.set_cons_succ]
          refine take_op (i := 14) 71 (v := ?_) rfl rfl (by kernel_rfl) (by kernel_rfl) (by kernel_rfl) (fun _ _ _ h => h) (Or.inl ⟨by rfl, ?_⟩) (by assumption) ?_
          rotate_left
          · (intro w hSw; (try dsimp only at hSw); first | (go_simp; done) | (go_simp; with_reducible rfl))
          try simp only [Act.put, List.setIfInBounds_toArray, List.set_cons_zero, List.set_cons_succ]
          refine take_op (i := 15) 72 (v := ?_) rfl rfl (by kernel_rfl) (by kernel_rfl) (by kernel_rfl) (fun _ _ _ h => h) (Or.inl ⟨by rfl, ?_⟩) (by assumption) ?_
          rotate_left
          · (intro w hSw; (try dsimp only at hSw); first | (go_simp; done) | (go_simp; with_reducible rfl))
          try simp only [Act.put, List.setIfInBounds_toArray, List.set_cons_zero, List.set_cons_succ]
          refine take_op (i := 16) 73 (v := ?_) rfl rfl (by kernel_rfl) (by kernel_rfl) (by kernel_rfl) (fun _ _ _ h => h) (Or.inl ⟨by rfl, ?_⟩) (by assumption) ?_
          rotate_left
          · (intro w hSw; (try dsimp only at hSw); first | (go_simp; done) | (go_simp; with_reducible rfl))
          try simp only [Act.put, List.setIfInBounds_toArray, List.set_cons_zero, List.set_cons_succ]
          refine ready_one 17 (by kernel_rfl) rfl (fun K hK => ?_)
          (go_simp)
          refine hK.out _ _ ?_ (fun hHeld => ?_)
          · exact KE.out _ (Below.setCell (bdrew hbj.out) (p := ⟨g, n + j, none⟩) hBg _)
          clear hK K
          try simp only [Act.put, List.setIfInBounds_toArray, List.set_cons_zero, List.set_cons_succ]
          refine wpAnyH_done (by kernel_rfl) ?_ _
          clear nj2 nj3
          go_wp2
          go_roundw
          case rel => exact ⟨j + 1, by omega, by go_num, by rw [← stp.out]; exact hst.out, hbs.out.drew⟩
          case measure => simp [intOf]; omega
        · obtain rfl : j = m := by omega
          have hvm := hvj.out
          rw [List.take_of_length_le (l := X) (by rw [HM.out]; exact Nat.le_refl _), ← hts.out] at hvm
          have HVM := Lib.hid hvm
          clear hvm
          go_wp2
          go_roundw
          case rel => exact ⟨k + 1, by omega, by go_num, HVM, hbj, hall2⟩
          case measure => simp [intOf]; omega
    · obtain rfl : k = l := by omega
      go_wp2
      go_ret2
      have hv' := hv.out
      rw [List.take_of_length_le (by rw [HL.out]; exact Nat.le_refl _)] at hv'
      exact ⟨_, rfl, hv', hb.out⟩
set_option maxHeartbeats 6400000 in
set_option maxRecDepth 100000 in
theorem refApply_bad {w : World} {A0 A : Option Addr} {xs : List UInt8} (hx : xs.length = 4080) (c0 : Nat) (h0 : Rd w A0 xs) {L : List (Int × List UInt8)} {l : Nat} (hL : L.length = l) (c : Nat) (hA : RdP w A L) (hl : l ≤ 140737488555328) (hok : okP L = false) :
    Calls Try.prog 26 #[.slice A0 4080 c0, .slice A l c] w fun e w' => e = .returned (.tuple #[.slice none 0 0, .int .i64 2]) ∧ Below w.heap.size w w' := by
  have HL := Lib.hid hL
  have HA := Lib.hid hA
  have HX := Lib.hid hx
  have H0 := Lib.hid h0
  have HOK := Lib.hid hok
  clear hL hA hx h0 hok
  go_enter Try.func26, Try.ntmps26
  go_wp2_with (at_builtin; refine wpList_append_bytes rfl (.tmp 13) (.tmp 14) 23 rfl w.heap.size Try.underlying23 info_u8 (.slice none 0 0) [] xs rfl (Own.nil _ _) A0 4080 c0 rfl HX.out H0.out (by decide) (Nat.le_refl _) ?_; intro r2 w2 hown2 hg2 _ _; have O2 : Hid (Own w2 w.heap.size r2 xs) := hown2; have B2 := Lib.hid (below_none hg2); clear hown2 hg2; obtain ⟨g, c1, rfl, hg1, hg2, hc1, hc2⟩ := O2.out.formN HX.out (by decide))
  go_loopw [7] (fun i wr => ∃ k : Nat, k ≤ l ∧ i = .int .i64 k ∧ Hid (Own wr w.heap.size (.slice (some ⟨g, 0, none⟩) 4080 c1) (layL xs (L.take k))) ∧ Hid (Below w.heap.size w wr) ∧ Hid (okP (L.take k) = true)) (fun i _ => l - (intOf i).toNat)
  case atStart => exact ⟨0, Nat.zero_le _, rfl, O2, B2, rfl⟩
  case round =>
    obtain ⟨k, hk, rfl, hv, hb, hall⟩ := hrel
    by_cases hlt : k < l
    · obtain ⟨b, o, C, d, rfl, hp⟩ := HA.out.at_ (i := k) (by rw [HL.out]; exact hlt)
      have gL := Lib.hid (List.getElem?_eq_getElem (l := L) (i := k) (by rw [HL.out]; exact hlt))
      generalize L[k]'(by rw [HL.out]; exact hlt) = P at *
      obtain ⟨a, X⟩ := P
      have p0 := hp.c0
      have p1 := hp.c1
      have R1 := Lib.hid hp.rd
      have hok1 := hp.ok.len
      have hok2 := hp.ok.lo
      have hok3 := hp.ok.hi
      clear hp
      dsimp only at p0 p1 R1 hok1 hok2 hok3
      have hnx := Lib.hid (okP_take gL.out hall.out)
      have hms : X.length = X.length := rfl
      obtain ⟨m, hm⟩ : ∃ m, m = X.length := ⟨_, rfl⟩
      have hxl : Hid (mayP a X.length = mayP a m) := by show _ = _; rw [hm]
      rw [← hm] at p1 hok1
      have HM := Lib.hid hm
      clear hm hms
      have hBg : w.heap.size ≤ g := hg1
      by_cases hmay : mayP a m = true
      · have hall2 : Hid (okP (L.take (k + 1)) = true) := by show _ = _; rw [hnx.out]; exact hxl.out.trans hmay
        have ft := Lib.hid (may_true hmay)
        obtain ⟨n, rfl⟩ := Int.eq_ofNat_of_zero_le ft.out.1
        have fit1 : n + m ≤ 4080 := by have := ft.out.2.2; omega
        have fit0 : 0 < m := ft.out.2.1
        have fit2 : (n : Int) ≤ 4080 - (m : Int) := by omega
        have fit3 : (m : Int) ≤ 4080 := by omega
        have hts := Lib.hid (layL_take (xs := xs) gL.out)
        have m0 : ((m : Int) == 0) = false := by rw [beq_eq_false_iff_ne]; omega
        have m1 : (m == 0) = false := by rw [beq_eq_false_iff_ne]; omega
        have hpl := Lib.hid (layL_length HX.out hall.out)
        obtain ⟨bC, oC, rfl⟩ := R1.out.addr (by rw [← HM.out]; exact fit0)
        replace R1 := Lib.hid (R1.out)
        have KP := Lib.hid (show w.cell? ⟨b, o + k * 2, none⟩ = some (.int .i64 ((n : Nat) : Int)) ∧ w.cell? ⟨b, o + k * 2 + 1, none⟩ = some (.slice (some ⟨bC, oC, none⟩) m d) from ⟨p0, p1⟩)
        replace p0 := (hb.out.cell (World.block_lt_of_cell? w _ KP.out.1)).trans KP.out.1
        replace p1 := (hb.out.cell (World.block_lt_of_cell? w _ KP.out.2)).trans KP.out.2
        go_wp2
        clear m0 m1 p0 p1
        obtain ⟨wo, hwo⟩ : ∃ wo : World, wo = wr := ⟨_, rfl⟩
        rw [← hwo]
        rw [← hwo] at hv hb
        clear hwo
        go_loopw [9] (fun q wi => ∃ j : Nat, j ≤ m ∧ q = .int .i64 j ∧ Hid (Own wi w.heap.size (.slice (some ⟨g, 0, none⟩) 4080 c1) (splice (layL xs (L.take k)) n (X.take j))) ∧ Hid (Below w.heap.size w wi)) (fun q _ => m - (intOf q).toNat)
        case atStart => exact ⟨0, Nat.zero_le _, rfl, by rw [List.take_zero, splice_nil]; exact hv, hb⟩
        case round =>
          obtain ⟨j, hj, rfl, hvj, hbj⟩ := hrel
          by_cases hjm : j < m
          · have gX := Lib.hid (List.getElem?_eq_getElem (l := X) (i := j) (by rw [← HM.out]; exact hjm))
            have stp := Lib.hid (splice_step (layL xs (L.take k)) X n j (by rw [hpl.out, ← HM.out]; exact fit1) (by rw [← HM.out]; exact hjm))
            generalize X[j]'(by rw [← HM.out]; exact hjm) = x at gX stp
            have hsl : (splice (layL xs (L.take k)) n (X.take j)).length = 4080 := by rw [length_splice _ _ _ (by rw [hpl.out, List.length_take, ← HM.out]; omega), hpl.out]
            have HSL := Lib.hid hsl
            obtain ⟨old, t0⟩ : ∃ u, wr.cell? ⟨g, n + j, none⟩ = some u := ⟨_, hvj.out.cellAt (j := n + j) (by rw [hsl]; omega)⟩
            have f0 := hvj.out.frozenAt (n + j)
            have KX := Lib.hid (R1.out.at' j gX.out)
            have hst := Lib.hid (hvj.out.stored (n + j) x)
            have keep : ∀ W', Below w.heap.size w W' → W'.cell? ⟨b, o + k * 2, none⟩ = some (.int .i64 ((n : Nat) : Int)) ∧ W'.cell? ⟨b, o + k * 2 + 1, none⟩ = some (.slice (some ⟨bC, oC, none⟩) m d) ∧ W'.cell? ⟨bC, oC + j, none⟩ = some (.int .u8 (x.toNat : Int)) := fun W' h => ⟨(h.cell (World.block_lt_of_cell? w _ KP.out.1)).trans KP.out.1, (h.cell (World.block_lt_of_cell? w _ KP.out.2)).trans KP.out.2, (h.cell (World.block_lt_of_cell? w _ KX.out)).trans KX.out⟩
            have KE := Lib.hid keep
            have hbs := Lib.hid (hbj.out.setCell (p := ⟨g, n + j, none⟩) hBg (bv x))
            have kk0 : (0 : Int) ≤ (k : Int) := by omega
            have kk1 : (k : Int) < (l : Int) := by omega
            have jj0 : (0 : Int) ≤ (j : Int) := by omega
            have jj1 : (j : Int) < (m : Int) := by omega
            have nj0 : (0 : Int) ≤ (n : Int) + (j : Int) := by omega
            have nj1 : (n : Int) + (j : Int) < 4080 := by omega
            have nj2 : ((n : Int) + (j : Int)).toNat = n + j := by omega
            have nj3 : IntKind.i64.wrap ((n : Int) + (j : Int)) = (n : Int) + (j : Int) := by rw [IntKind.wrap_i64]; omega
            clear keep hsl
            go_wp2
            refine wp_region_held_drew (S := (fun w' : World => w'.cell? ⟨b, o + k * 2, none⟩ = some (.int .i64 ((n : Nat) : Int)) ∧ w'.cell? ⟨b, o + k * 2 + 1, none⟩ = some (.slice (some ⟨bC, oC, none⟩) m d) ∧ w'.cell? ⟨bC, oC + j, none⟩ = some (.int .u8 (x.toNat : Int)))) (by kernel_rfl) (KE.out _ (bdrew hbj.out)) (fun hHeld => ?_)
            refine take_op (i := 0) 57 (v := ?_) rfl rfl (by kernel_rfl) (by kernel_rfl) (by kernel_rfl) (fun _ _ _ h => h) (Or.inl ⟨by rfl, ?_⟩) (by assumption) ?_
            rotate_left
            · (intro w hSw; (try dsimp only at hSw); first | (go_simp; done) | (go_simp; with_reducible rfl))
            try simp only [Act.put, List.setIfInBounds_toArray, List.set_cons_zero, List.set_cons_succ]
            refine take_op (i := 1) 58 (v := ?_) rfl rfl (by kernel_rfl) (by kernel_rfl) (by kernel_rfl) (fun _ _ _ h => h) (Or.inl ⟨by rfl, ?_⟩) (by assumption) ?_
            rotate_left
            · (intro w hSw; (try dsimp only at hSw); first | (go_simp; done) | (go_simp; with_reducible rfl))
            try simp only [Act.put, List.setIfInBounds_toArray, List.set_cons_zero, List.set_cons_succ]
            refine take_op (i := 2) 59 (v := ?_) rfl rfl (by kernel_rfl) (by kernel_rfl) (by kernel_rfl) (fun _ _ _ h => h) (Or.inl ⟨by rfl, ?_⟩) (by assumption) ?_
            rotate_left
            · (intro w hSw; (try dsimp only at hSw); first | (go_simp; done) | (go_simp; with_reducible rfl))
            try simp only [Act.put, List.setIfInBounds_toArray, List.set_cons_zero, List.set_cons_succ]
            refine take_op (i := 3) 60 (v := ?_) rfl rfl (by kernel_rfl) (by kernel_rfl) (by kernel_rfl) (fun _ _ _ h => h) (Or.inl ⟨by rfl, ?_⟩) (by assumption) ?_
            rotate_left
            · (intro w hSw; (try dsimp only at hSw); first | (go_simp; done) | (go_simp; with_reducible rfl))
            try simp only [Act.put, List.setIfInBounds_toArray, List.set_cons_zero, List.set_cons_succ]
            refine take_op (i := 4) 61 (v := ?_) rfl rfl (by kernel_rfl) (by kernel_rfl) (by kernel_rfl) (fun _ _ _ h => h) (Or.inl ⟨by rfl, ?_⟩) (by assumption) ?_
            rotate_left
            · (intro w hSw; (try dsimp only at hSw); first | (go_simp; done) | (go_simp; with_reducible rfl))
            try simp only [Act.put, List.setIfInBounds_toArray, List.set_cons_zero, List.set_cons_succ]
            refine take_op (i := 5) 62 (v := ?_) rfl rfl (by kernel_rfl) (by kernel_rfl) (by kernel_rfl) (fun _ _ _ h => h) (Or.inl ⟨by rfl, ?_⟩) (by assumption) ?_
            rotate_left
            · (intro w hSw; (try dsimp only at hSw); first | (go_simp; done) | (go_simp; with_reducible rfl))
            try simp only [Act.put, List.setIfInBounds_toArray, List.set_cons_zero, List.set_cons_succ]
            refine take_op (i := 6) 63 (v := ?_) rfl rfl (by kernel_rfl) (by kernel_rfl) (by kernel_rfl) (fun _ _ _ h => h) (Or.inl ⟨by rfl, ?_⟩) (by assumption) ?_
            rotate_left
            · (intro w hSw; (try dsimp only at hSw); first | (go_simp; done) | (go_simp; with_reducible rfl))
            try simp only [Act.put, List.setIfInBounds_toArray, List.set_cons_zero, List.set_cons_succ]
            refine take_op (i := 7) 64 (v := ?_) rfl rfl (by kernel_rfl) (by kernel_rfl) (by kernel_rfl) (fun _ _ _ h => h) (Or.inl ⟨by rfl, ?_⟩) (by assumption) ?_
            rotate_left
            · (intro w hSw; (try dsimp only at hSw); first | (go_simp; done) | (go_simp; with_reducible rfl))
            try simp only [Act.put, List.setIfInBounds_toArray, List.set_cons_zero, List.set_cons_succ]
            refine take_op (i := 8) 65 (v := ?_) rfl rfl (by kernel_rfl) (by kernel_rfl) (by kernel_rfl) (fun _ _ _ h => h) (Or.inl ⟨by rfl, ?_⟩) (by assumption) ?_
            rotate_left
            · (intro w hSw; (try dsimp only at hSw); first | (go_simp; done) | (go_simp; with_reducible rfl))
            try simp only [Act.put, List.setIfInBounds_toArray, List.set_cons_zero, List.set_cons_succ]
            refine take_op (i := 9) 66 (v := ?_) rfl rfl (by kernel_rfl) (by kernel_rfl) (by kernel_rfl) (fun _ _ _ h => h) (Or.inl ⟨by rfl, ?_⟩) (by assumption) ?_
            rotate_left
            · (intro w hSw; (try dsimp only at hSw); first | (go_simp; done) | (go_simp; with_reducible rfl))
            try simp only [Act.put, List.setIfInBounds_toArray, List.set_cons_zero, List.set_cons_succ]
            refine take_op (i := 10) 67 (v := ?_) rfl rfl (by kernel_rfl) (by kernel_rfl) (by kernel_rfl) (fun _ _ _ h => h) (Or.inl ⟨by rfl, ?_⟩) (by assumption) ?_
            rotate_left
            · (intro w hSw; (try dsimp only at hSw); first | (go_simp; done) | (go_simp; with_reducible rfl))
            try simp only [Act.put, List.setIfInBounds_toArray, List.set_cons_zero, List.set_cons_succ]
            refine take_op (i := 11) 68 (v := ?_) rfl rfl (by kernel_rfl) (by kernel_rfl) (by kernel_rfl) (fun _ _ _ h => h) (Or.inl ⟨by rfl, ?_⟩) (by assumption) ?_
            rotate_left
            · (intro w hSw; (try dsimp only at hSw); first | (go_simp; done) | (go_simp; with_reducible rfl))
            try simp only [Act.put, List.setIfInBounds_toArray, List.set_cons_zero, List.set_cons_succ]
            refine take_op (i := 12) 69 (v := ?_) rfl rfl (by kernel_rfl) (by kernel_rfl) (by kernel_rfl) (fun _ _ _ h => h) (Or.inl ⟨by rfl, ?_⟩) (by assumption) ?_
            rotate_left
            · (intro w hSw; (try dsimp only at hSw); first | (go_simp; done) | (go_simp; with_reducible rfl))
            try simp only [Act.put, List.setIfInBounds_toArray, List.set_cons_zero, List.set_cons_succ]
            refine take_op (i := 13) 70 (v := ?_) rfl rfl (by kernel_rfl) (by kernel_rfl) (by kernel_rfl) (fun _ _ _ h => h) (Or.inl ⟨by rfl, ?_⟩) (by assumption) ?_
            rotate_left
            · (intro w hSw; (try dsimp only at hSw); first | (go_simp; done) | (go_simp; with_reducible rfl))
            try simp only [Act.put, List.setIfInBounds_toArray, List.set_cons_zero, List.set_cons_succ]
            refine take_op (i := 14) 71 (v := ?_) rfl rfl (by kernel_rfl) (by kernel_rfl) (by kernel_rfl) (fun _ _ _ h => h) (Or.inl ⟨by rfl, ?_⟩) (by assumption) ?_
            rotate_left
            · (intro w hSw; (try dsimp only at hSw); first | (go_simp; done) | (go_simp; with_reducible rfl))
            try simp only [Act.put, List.setIfInBounds_toArray, List.set_cons_zero, List.set_cons_succ]
            refine take_op (i := 15) 72 (v := ?_) rfl rfl (by kernel_rfl) (by kernel_rfl) (by kernel_rfl) (fun _ _ _ h => h) (Or.inl ⟨by rfl, ?_⟩) (by assumption) ?_
            rotate_left
            · (intro w hSw; (try dsimp only at hSw); first | (go_simp; done) | (go_simp; with_reducible rfl))
            try simp only [Act.put, List.setIfInBounds_toArray, List.set_cons_zero, List.set_cons_succ]
            refine take_op (i := 16) 73 (v := ?_) rfl rfl (by kernel_rfl) (by kernel_rfl) (by kernel_rfl) (fun _ _ _ h => h) (Or.inl ⟨by rfl, ?_⟩) (by assumption) ?_
            rotate_left
            · (intro w hSw; (try dsimp only at hSw); first | (go_simp; done) | (go_simp; with_reducible rfl))
            try simp only [Act.put, List.setIfInBounds_toArray, List.set_cons_zero, List.set_cons_succ]
            refine ready_one 17 (by kernel_rfl) rfl (fun K hK => ?_)
            (go_simp)
            refine hK.out _ _ ?_ (fun hHeld => ?_)
            · exact KE.out _ (Below.setCell (bdrew hbj.out) (p := ⟨g, n + j, none⟩) hBg _)
            clear hK K
            try simp only [Act.put, List.setIfInBounds_toArray, List.set_cons_zero, List.set_cons_succ]
            refine wpAnyH_done (by kernel_rfl) ?_ _
            clear nj2 nj3
            go_wp2
            go_roundw
            case rel => exact ⟨j + 1, by omega, by go_num, by rw [← stp.out]; exact hst.out, hbs.out.drew⟩
            case measure => simp [intOf]; omega
          · obtain rfl : j = m := by omega
            have hvm := hvj.out
            rw [List.take_of_length_le (l := X) (by rw [HM.out]; exact Nat.le_refl _), ← hts.out] at hvm
            have HVM := Lib.hid hvm
            clear hvm
            go_wp2
            go_roundw
            case rel => exact ⟨k + 1, by omega, by go_num, HVM, hbj, hall2⟩
            case measure => simp [intOf]; omega
      · have hno := may_false (by simpa using hmay)
        have q0 := (hb.out.cell (World.block_lt_of_cell? w _ p0)).trans p0
        have q1 := (hb.out.cell (World.block_lt_of_cell? w _ p1)).trans p1
        clear hmay p0 p1
        rcases hno with h | ⟨h, rfl⟩ | ⟨h, h1, h2⟩ | ⟨h, h1, h2, h3⟩
        · have e1 : decide (a < 0) = true := decide_eq_true h
          go_wp2
          go_ret2
          exact ⟨rfl, hb.out⟩
        · have e1 : decide (a < 0) = false := decide_eq_false (by omega)
          go_wp2
          go_ret2
          exact ⟨rfl, hb.out⟩
        · have e1 : decide (a < 0) = false := decide_eq_false (by omega)
          have m0 : ((m : Int) == 0) = false := by rw [beq_eq_false_iff_ne]; omega
          have m1 : (m == 0) = false := by rw [beq_eq_false_iff_ne]; omega
          have e2 : (4080 : Int) < (m : Int) := by omega
          go_wp2
          go_ret2
          exact ⟨rfl, hb.out⟩
        · have e1 : decide (a < 0) = false := decide_eq_false (by omega)
          have m0 : ((m : Int) == 0) = false := by rw [beq_eq_false_iff_ne]; omega
          have m1 : (m == 0) = false := by rw [beq_eq_false_iff_ne]; omega
          have e2 : (m : Int) ≤ 4080 := by omega
          go_wp2
          go_ret2
          exact ⟨rfl, hb.out⟩
    · obtain rfl : k = l := by omega
      have h1 := hall.out
      rw [List.take_of_length_le (by rw [HL.out]; exact Nat.le_refl _), HOK.out] at h1
      cases h1
def sumL (L : List (Int × List UInt8)) : Nat := (L.map fun p => p.2.length).sum
theorem sumL_take {L : List (Int × List UInt8)} {k : Nat} (h : k < L.length) : sumL (L.take (k + 1)) = sumL (L.take k) + (L[k]).2.length := by
  unfold sumL
  rw [List.take_succ_eq_append_getElem h, List.map_append, List.sum_append]
  simp only [List.map_cons, List.map_nil, List.sum_cons, List.sum_nil, Nat.add_zero]
theorem size_sum (L : List (Int × List UInt8)) : sizeL L = 4 * L.length + sumL L := by
  induction L with
  | nil => rfl
  | cons p L ih =>
    simp only [sizeL, sumL, List.map_cons, List.sum_cons, List.length_cons] at ih ⊢
    omega
def sumW (l : Nat) (L : List (Int × List UInt8)) : Int := wrap64 (4 * (l : Int) + (sumL L : Int))
theorem sumW_take {l : Nat} {L : List (Int × List UInt8)} {k : Nat} (h : k < L.length) : wrap64 (sumW l (L.take k) + ((L[k]).2.length : Int)) = sumW l (L.take (k + 1)) := by
  unfold sumW
  rw [wrap_add, sumL_take h]
  congr 1
  omega
theorem sumW_nil {l : Nat} (hl : l ≤ 140737488555328) (L : List (Int × List UInt8)) : 4 * (l : Int) = sumW l (L.take 0) := by
  unfold sumW sumL wrap64
  simp
  omega
set_option maxHeartbeats 800000 in
theorem refSize_any {w : World} {A : Option Addr} {L : List (Int × List UInt8)} {l : Nat} (hL : L.length = l) (c : Nat) (hA : RdP w A L) (hl : l ≤ 140737488555328) :
    Calls Try.prog 27 #[.slice A l c] w fun e w' => e = .returned (.int .i64 (sizeW L)) ∧ Below w.heap.size w w' := by
  have HL := Lib.hid hL
  have HA := Lib.hid hA
  clear hL hA
  have hS := Lib.hid (sumW_nil hl L)
  go_enter Try.func27, Try.ntmps27
  go_wp2
  go_loopw [3, 4] (fun t i wr => ∃ k : Nat, k ≤ l ∧ i = .int .i64 k ∧ t = .int .i64 (sumW l (L.take k)) ∧ Below w.heap.size w wr) (fun _ i _ => l - (intOf i).toNat)
  case atStart => exact ⟨0, Nat.zero_le _, rfl, by rw [← hS.out], Below.refl _ _⟩
  case round =>
    obtain ⟨k, hk, rfl, rfl, hb⟩ := hrel
    by_cases hlt : k < l
    · obtain ⟨b, o, C, d, rfl, hp⟩ := (HA.out.below hb).at_ (i := k) (by rw [HL.out]; exact hlt)
      have p0 := hp.c0
      have p1 := hp.c1
      have q1 := hp.ok.len
      have st := Lib.hid (sumW_take (l := l) (L := L) (k := k) (by rw [HL.out]; exact hlt))
      obtain ⟨P, hP⟩ : ∃ P, P = L[k]'(by rw [HL.out]; exact hlt) := ⟨_, rfl⟩
      rw [← hP] at p0 p1 q1 st
      clear hP hp
      obtain ⟨m, hm⟩ : ∃ m, m = P.2.length := ⟨_, rfl⟩
      obtain ⟨a, ha⟩ : ∃ a, a = P.1 := ⟨_, rfl⟩
      rw [← hm] at p1 q1 st
      rw [← ha] at p0
      clear hm ha
      obtain ⟨t, ht⟩ : ∃ t, t = sumW l (L.take k) := ⟨_, rfl⟩
      rw [← ht] at st ⊢
      clear ht
      go_wp2
      all_goals
        go_roundw
        case rel => exact ⟨k + 1, by omega, by go_num, by rw [← st.out], hb⟩
        case measure => simp [intOf]; omega
    · obtain rfl : k = l := by omega
      go_wp2
      go_ret
      exact ⟨by have := HL.out; rw [List.take_of_length_le (by omega)]; unfold sizeW; rw [size_sum, this]; unfold sumW; simp, hb⟩
end Go.Proofs.Ytobnomlbkhkodaa.Y
