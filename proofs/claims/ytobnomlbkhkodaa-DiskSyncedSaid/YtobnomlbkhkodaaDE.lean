/-
  DiskCrashes' walk.
-/
import Derived.Test.YtobnomlbkhkodaaDD
set_option linter.unusedVariables false
set_option linter.unusedSimpArgs false
namespace Go.Proofs.Ytobnomlbkhkodaa.Y
open Go.RowKit
attribute [local go_sem ↓] Go.wp_at_zero Go.wp_at_succ

theorem info_bool : (Try.prog.info? 4).map (fun i => (i.zero, i.size, i.bytes)) = some (some (.bool false), 1, 1) := by kernel_rfl
theorem own_sliceN {w : World} {B : Nat} {e : TypeId} {z n : Nat} {v : Value} {xs : List Value} (h : w.ownsRow B e z v n xs) : ∃ A c, v = .slice A n c := by
  rcases h.2 with ⟨rfl, rfl⟩ | ⟨g, cap, cur, rfl, _⟩
  · exact ⟨_, _, rfl⟩
  · exact ⟨_, _, rfl⟩
theorem rdv_one (w : World) (t : TypeId) (u : Value) : RdV (w.alloc (.cells #[u] t)) (some ⟨w.heap.size, 0, none⟩) [u] :=
  .inr ⟨_, rfl, fun j x hx => by
    match j, hx with
    | 0, hx =>
      injection hx with hx
      subst hx
      rw [cell_of_row _ _ 0 _ _ _ (heap_alloc_new w _)]
      rfl
    | (k + 1), hx => simp at hx⟩
/-- What stands while the writes are made. -/
structure CInv (B g gb k : Nat) (av : Value) (w : World) (D : DS) (ws : Value) : Prop where
  at_ : DiskAt w B g gb ws D
  calm : Calm D
  four : D.blocks.length = 4
  all : w.ownsRow B 4 1 av D.writes.length (List.replicate D.writes.length (.bool true))
  few : D.writes.length ≤ k
theorem rows_nil (w : World) (B : Nat) (e : TypeId) (z : Nat) : w.ownsRow B e z (.slice none 0 0) 0 [] := World.ownsRow_nil _ _ _ _
theorem rows_below {w w1 : World} {B : Nat} {e : TypeId} {z n : Nat} {v : Value} {xs : List Value} (h : w.ownsRow B e z v n xs) (hb : Below w.heap.size w w1) : w1.ownsRow B e z v n xs := (Tch.below (S := fun _ => False) hb).rows h (fun _ _ q => q)
theorem foot_rows {w : World} {B B' g gb : Nat} {ws : Value} {d : DS} (h : DiskAt w B g gb ws d) {e : TypeId} (he : e ≠ 97 ∧ e ≠ 23 ∧ e ≠ 106) {z n : Nat} {v : Value} {xs : List Value} (ho : w.ownsRow B' e z v n xs) : ∀ k, v.ownBlock = some k → ¬ Foot g gb ws k := by
  intro k hk hf
  obtain ⟨cur, h3⟩ := row_at ho hk
  rcases hf with rfl | rfl | hf
  · have h1 := h.obj
    unfold Ob at h1
    rw [h1] at h3
    injection h3 with h3
    injection h3 with _ h3
    exact he.1 h3.symm
  · obtain ⟨vals, hv, _⟩ := h.row
    unfold Ob at hv
    rw [hv] at h3
    injection h3 with h3
    injection h3 with _ h3
    exact he.2.1 h3.symm
  · obtain ⟨qs, h1, h2, _⟩ := h.wr
    obtain ⟨cur2, hc⟩ := row_at h2 hf
    rw [hc] at h3
    injection h3 with h3
    injection h3 with _ h3
    exact he.2.2 h3.symm
set_option maxHeartbeats 12800000 in
set_option maxRecDepth 100000 in
theorem diskCrashes_walk (A0 : Option Addr) (c0 : Nat) (l0 : List Int) (w : World)
    (r0 : RdI w A0 l0) (i0 : Ints l0) (h0 : l0.length ≤ c0) (m0 : c0 ≤ maxLen) (y0 : l0.length ≤ 17592186043904) :
    Calls Try.prog 10 #[.slice A0 l0.length c0] w fun e w' => e = .returned (.bool true) ∧ Below w.heap.size w w' := by
  obtain ⟨l, hl⟩ : ∃ l, l = l0.length := ⟨_, rfl⟩
  rw [← hl] at h0 y0 ⊢
  have HL := Lib.hid hl.symm
  have HR := Lib.hid r0
  have HI := Lib.hid i0
  clear hl r0 i0 m0
  go_enter Try.func10, Try.ntmps10
  go_wp2_with fail
  refine (new_any 4 (by omega) (by omega)).mono ?_
  rintro e w1 ⟨g, gb, rfl, hh, hb⟩
  have B1 := Lib.hid hb
  have H1 : Hid (DiskAt w1 w.heap.size g gb (.slice none 0 0) (newD 4)) := hh
  clear hh hb
  go_wp2_with fail
  go_loopw [5, 6] (fun av i wr => ∃ k : Nat, k ≤ l ∧ k ≤ 20 ∧ i = .int .i64 k ∧ Hid (∃ D ws, CInv w.heap.size g gb k av wr D ws) ∧ Hid (Below w.heap.size w wr)) (fun _ i _ => 20 - (intOf i).toNat)
  case atStart => exact ⟨0, Nat.zero_le _, Nat.zero_le _, rfl, ⟨newD 4, .slice none 0 0, H1.out, ⟨rfl, rfl, rfl⟩, rfl, rows_nil _ _ _ _, Nat.zero_le _⟩, B1⟩
  case round =>
    obtain ⟨k, hk, hk2, rfl, hi, hb⟩ := hrel
    obtain ⟨D, ws, hat, hcalm, hfour, hall, hfew⟩ := hi.out
    have HAT := Lib.hid hat
    have CA := Lib.hid hcalm
    have F4 := Lib.hid hfour
    obtain ⟨n, hn⟩ : ∃ n, n = D.writes.length := ⟨_, rfl⟩
    rw [← hn] at hall hfew
    have HN := Lib.hid hn
    have HALL := Lib.hid hall
    have FEW := Lib.hid hfew
    obtain ⟨Av, cv, rfl⟩ := own_sliceN hall
    clear hat hcalm hfour hall hfew hi hn
    by_cases hgo : k < l ∧ k < 20
    · obtain ⟨hlt, hlt2⟩ := hgo
      have hkl0 : k < l0.length := by rw [HL.out]; exact hlt
      obtain ⟨b, o, rfl, p0⟩ := (HR.out.below hb.out).at_ hkl0
      obtain ⟨hx1, hx2⟩ := HI.out _ (List.getElem_mem hkl0)
      obtain ⟨b2, o2, e2, p2⟩ := HR.out.at_ hkl0
      have hbw : b < w.heap.size := by injection e2 with e2; injection e2 with e2; rw [e2]; exact World.block_lt_of_cell? w _ p2
      clear e2 p2
      generalize l0[k]'hkl0 = x at *
      have q1 : decide ((k : Int) < (l : Int)) = true := decide_eq_true (by omega)
      have q2 : decide ((k : Int) < 20) = true := decide_eq_true (by omega)
      have z0 : (0 : Int) ≤ (k : Int) := by omega
      have z1 : (k : Int) < (l : Int) := by omega
      have PK := Lib.hid (pick_any (w := wr) x 7 (by decide) (by decide) hx1 hx2)
      by_cases hp : x % ((7 : Nat) : Int) = 0
      · have hpq : ((x % ((7 : Nat) : Int)) == 0) = true := by rw [beq_iff_eq]; exact hp
        have PH := Lib.hid hp
        clear hp
        go_wp2_with fail
        refine PK.out.mono ?_
        rintro e w' ⟨rfl, rfl⟩
        rw [PH.out]
        go_wp2_with fail
        refine (sync_ok HAT.out CA.out.stop).mono ?_
        rintro e w2 ⟨rfl, h2, t2⟩
        rw [CA.out.same] at h2
        have H2 := Lib.hid h2
        have B2 := Lib.hid (hb.out.trans (t2.toBelow hb.out.size (foot_base HAT.out)))
        clear h2 t2
        go_wp2_with fail
        go_roundw
        case rel =>
          refine ⟨k + 1, by omega, by omega, by go_num, ⟨syncD D, .slice none 0 0, H2.out, ⟨CA.out.down, CA.out.arm, CA.out.fail⟩, ?_, rows_nil _ _ _ _, Nat.zero_le _⟩, B2⟩
          show (applyW _ _).length = 4
          rw [applyW_length]
          exact F4.out
        case measure => simp [intOf]; omega
      · have hpq : ((x % ((7 : Nat) : Int)) == 0) = false := by rw [beq_eq_false_iff_ne]; exact hp
        obtain ⟨y, hy⟩ : ∃ y, y = x % ((7 : Nat) : Int) := ⟨_, rfl⟩
        rw [← hy] at hpq
        have HYY := Lib.hid hy
        clear hp hy
        obtain ⟨pn, hpn⟩ := Int.eq_ofNat_of_zero_le (show 0 ≤ x % 4 by omega)
        have hp4 : pn < 4 := by omega
        have HPN := Lib.hid hpn
        clear hpn
        go_wp2_with fail
        refine PK.out.mono ?_
        rintro e w' ⟨rfl, rfl⟩
        rw [← HYY.out]
        go_wp2_with fail
        refine wp_region_held_drew (S := (fun w' : World => w'.cell? ⟨b, o + k, none⟩ = some (.int .i64 x))) (by kernel_rfl) (p0) (fun hHeld => ?_)
        refine take_op (i := 0) 48 (v := ?_) rfl rfl (by kernel_rfl) (by kernel_rfl) (by kernel_rfl) (fun _ _ _ h => h) (Or.inl ⟨by rfl, ?_⟩) (by assumption) ?_
        rotate_left
        · (intro w hSw; (try dsimp only at hSw); first | (go_simp; done) | (go_simp; with_reducible rfl))
        try simp only [Act.put, List.setIfInBounds_toArray, List.set_cons_zero, List.set_cons_succ]
        refine take_op (i := 1) 49 (v := ?_) rfl rfl (by kernel_rfl) (by kernel_rfl) (by kernel_rfl) (fun _ _ _ h => h) (Or.inl ⟨by rfl, ?_⟩) (by assumption) ?_
        rotate_left
        · (intro w hSw; (try dsimp only at hSw); first | (go_simp; done) | (go_simp; with_reducible rfl))
        try simp only [Act.put, List.setIfInBounds_toArray, List.set_cons_zero, List.set_cons_succ]
        refine take_op (i := 2) 50 (v := ?_) rfl rfl (by kernel_rfl) (by kernel_rfl) (by kernel_rfl) (fun _ _ _ h => h) (Or.inl ⟨by rfl, ?_⟩) (by assumption) ?_
        rotate_left
        · (intro w hSw; (try dsimp only at hSw); first | (go_simp; done) | (go_simp; with_reducible rfl))
        try simp only [Act.put, List.setIfInBounds_toArray, List.set_cons_zero, List.set_cons_succ]
        refine take_op (i := 3) 51 (v := ?_) rfl rfl (by kernel_rfl) (by kernel_rfl) (by kernel_rfl) (fun _ _ _ h => h) (Or.inl ⟨by rfl, ?_⟩) (by assumption) ?_
        rotate_left
        · (intro w hSw; (try dsimp only at hSw); first | (go_simp; done) | (go_simp; with_reducible rfl))
        try simp only [Act.put, List.setIfInBounds_toArray, List.set_cons_zero, List.set_cons_succ]
        refine take_op (i := 4) 52 (v := ?_) rfl rfl (by kernel_rfl) (by kernel_rfl) (by kernel_rfl) (fun _ _ _ h => h) (Or.inl ⟨by rfl, ?_⟩) (by assumption) ?_
        rotate_left
        · (intro w hSw; (try dsimp only at hSw); first | (go_simp; done) | (go_simp; with_reducible rfl))
        try simp only [Act.put, List.setIfInBounds_toArray, List.set_cons_zero, List.set_cons_succ]
        refine take_op (i := 6) 54 (v := ?_) rfl rfl (by kernel_rfl) (by kernel_rfl) (by kernel_rfl) (fun _ _ _ h => h) (Or.inl ⟨by rfl, ?_⟩) (by assumption) ?_
        rotate_left
        · (intro w hSw; (try dsimp only at hSw); first | (go_simp; done) | (go_simp; with_reducible rfl))
        try simp only [Act.put, List.setIfInBounds_toArray, List.set_cons_zero, List.set_cons_succ]
        refine take_op (i := 7) 55 (v := ?_) rfl rfl (by kernel_rfl) (by kernel_rfl) (by kernel_rfl) (fun _ _ _ h => h) (Or.inl ⟨by rfl, ?_⟩) (by assumption) ?_
        rotate_left
        · (intro w hSw; (try dsimp only at hSw); first | (go_simp; done) | (go_simp; with_reducible rfl))
        try simp only [Act.put, List.setIfInBounds_toArray, List.set_cons_zero, List.set_cons_succ]
        refine take_op (i := 8) 56 (v := ?_) rfl rfl (by kernel_rfl) (by kernel_rfl) (by kernel_rfl) (fun _ _ _ h => h) (Or.inl ⟨by rfl, ?_⟩) (by assumption) ?_
        rotate_left
        · (intro w hSw; (try dsimp only at hSw); first | (go_simp; done) | (go_simp; with_reducible rfl))
        try simp only [Act.put, List.setIfInBounds_toArray, List.set_cons_zero, List.set_cons_succ]
        refine take_op (i := 9) 57 (v := ?_) rfl rfl (by kernel_rfl) (by kernel_rfl) (by kernel_rfl) (fun _ _ _ h => h) (Or.inl ⟨by rfl, ?_⟩) (by assumption) ?_
        rotate_left
        · (intro w hSw; (try dsimp only at hSw); first | (go_simp; done) | (go_simp; with_reducible rfl))
        try simp only [Act.put, List.setIfInBounds_toArray, List.set_cons_zero, List.set_cons_succ]
        refine take_op (i := 10) 58 (v := ?_) rfl rfl (by kernel_rfl) (by kernel_rfl) (by kernel_rfl) (fun _ _ _ h => h) (Or.inl ⟨by rfl, ?_⟩) (by assumption) ?_
        rotate_left
        · (intro w hSw; (try dsimp only at hSw); first | (go_simp; done) | (go_simp; with_reducible rfl))
        try simp only [Act.put, List.setIfInBounds_toArray, List.set_cons_zero, List.set_cons_succ]
        refine ready_one 5 (by kernel_rfl) rfl (fun K hK => ?_)
        (go_simp; go_at_call 34; refine (place_any (w := wr.drew) x hx1 hx2).mono ?_; rintro e w' ⟨rfl, rfl⟩; rw [HPN.out])
        refine hK.out _ _ ?_ (fun hHeld => ?_)
        · exact p0
        clear hK K
        try simp only [Act.put, List.setIfInBounds_toArray, List.set_cons_zero, List.set_cons_succ]
        refine ready_one 11 (by kernel_rfl) rfl (fun K hK => ?_)
        (go_simp; go_at_call 35; refine (content_any (w := wr.drew) x (k : Int) hx1 hx2 z0 (by omega)).mono ?_; rintro e w2 ⟨L, v, rfl, hcl, hco, hcb⟩; obtain ⟨gA, cA, rfl, _, _, hcA, _⟩ := hco.formN hcl (by decide); have LC := Lib.hid hcl; have OC := Lib.hid hco; have BC : Hid (Below wr.heap.size wr w2) := bthen (bdrew (Below.refl _ _)) hcb; have H2 := Lib.hid (HAT.out.below BC.out); have A2 := Lib.hid (rows_below HALL.out BC.out); have B2 := Lib.hid (bthen hb.out BC.out); clear hcl hco hcb)
        refine hK.out _ _ ?_ (fun hHeld => ?_)
        · exact (BC.out.cell (World.block_lt_of_cell? wr _ p0)).trans p0
        clear hK K
        try simp only [Act.put, List.setIfInBounds_toArray, List.set_cons_zero, List.set_cons_succ]
        refine ready_one 12 (by kernel_rfl) rfl (fun K hK => ?_)
        (go_simp; go_at_call 36; refine (write_ok H2.out B2.out.size pn LC.out cA OC.out.rd.1 (by simp) (fun w' ht => (ht.own OC.out (own_g H2.out OC.out)).rd.1) (by rw [F4.out]; exact hp4) CA.out.stop (by have := FEW.out; rw [← HN.out]; omega)).mono ?_; rintro e w3 ⟨ws3, rfl, h3, t3, _⟩; rw [CA.out.same] at h3; have H3 := Lib.hid h3; have A3 := Lib.hid (t3.rows A2.out (foot_rows H2.out (by decide) A2.out)); have B3 := Lib.hid (B2.out.trans (t3.toBelow B2.out.size (foot_base H2.out))); have c3 : w3.cell? ⟨b, o + k, none⟩ = some (.int .i64 x) := ((t3.toBelow B2.out.size (foot_base H2.out)).cell (show b < w.heap.size from hbw)).trans ((BC.out.cell (World.block_lt_of_cell? wr _ p0)).trans p0); clear h3 t3)
        refine hK.out _ _ ?_ (fun hHeld => ?_)
        · exact c3
        clear hK K
        try simp only [Act.put, List.setIfInBounds_toArray, List.set_cons_zero, List.set_cons_succ]
        refine take_op (i := 13) 61 (v := ?_) rfl rfl (by kernel_rfl) (by kernel_rfl) (by kernel_rfl) (fun _ _ _ h => h) (Or.inl ⟨by rfl, ?_⟩) (by assumption) ?_
        rotate_left
        · (intro w hSw; (try dsimp only at hSw); first | (go_simp; done) | (go_simp; with_reducible rfl))
        try simp only [Act.put, List.setIfInBounds_toArray, List.set_cons_zero, List.set_cons_succ]
        refine wpAnyH_done (by kernel_rfl) ?_ _
        go_wp2_with (at_builtin; refine wpList_append_rows rfl _ _ 54 4 rfl w.heap.size Try.underlying54 info_bool rfl (by decide) (.slice Av n cv) n (List.replicate n (.bool true)) [.bool true] rfl (rows_below A3.out (balloc (Below.refl _ _) _)) (some ⟨w3.heap.size, 0, none⟩) 1 1 rfl rfl (rdv_one w3 _ _).form (by intro u hu; simp at hu; subst hu; rfl) (by have := FEW.out; simp only [maxLen]; omega) (by have := FEW.out; omega) (by have := B3.out.size; simp; omega) ?_; intro v4 w4 ho4 hg4; have O4 := Lib.hid ho4; have G4 := Lib.hid hg4; clear ho4 hg4)
        have A3b := rows_below A3.out (balloc (Below.refl _ _) (.cells #[.bool true] 4))
        have T4 : Tch (fun j => (Value.slice Av n cv).ownBlock = some j) (w3.alloc (.cells #[.bool true] 4)) w4 := (Tch.refl _ _).grown G4.out (fun j e => .inl e)
        have H3b := H3.out.below (balloc (Below.refl _ _) (.cells #[.bool true] 4))
        have H4 := Lib.hid (H3b.keep T4 (fun j hf hS => foot_rows H3b (by decide) A3b j hS hf) (fun ho j hj hS => by
          rcases row_ne A3b ho (by decide) with q | q
          · rw [q] at hj; cases hj
          · exact q (hj.trans hS.symm)))
        have B4 := Lib.hid ((bthen B3.out (balloc (Below.refl _ _) (.cells #[.bool true] 4))).trans (T4.toBelow (bthen B3.out (balloc (Below.refl _ _) (.cells #[.bool true] 4))).size (fun j hj => (World.ownsRow.lt A3b j hj).1)))
        go_roundw
        case rel =>
          refine ⟨k + 1, by omega, by omega, by go_num, ⟨addW D pn L, ws3, H4.out, ⟨CA.out.down, CA.out.arm, CA.out.fail⟩, F4.out, ?_, ?_⟩, B4⟩
          · have := O4.out
            rw [show (addW D pn L).writes.length = n + 1 by rw [HN.out]; simp [addW], List.replicate_succ']
            exact this
          · have := FEW.out
            rw [show (addW D pn L).writes.length = n + 1 by rw [HN.out]; simp [addW]]
            omega
        case measure => simp [intOf]; omega
    · have hcase : (decide ((20 : Int) < (l : Int)) = true ∧ k = 20) ∨ k = l := by
        by_cases h1 : k < l
        · exact .inl ⟨decide_eq_true (by omega), by omega⟩
        · exact .inr (by omega)
      clear hgo
      rcases hcase with ⟨q1, rfl⟩ | rfl
      all_goals
        go_wp2_with fail
        refine (copy_any HAT.out).mono ?_
        rintro e x1 ⟨g1, gb1, ws1, cap1, rfl, hx, hbx, hfx⟩
        have X1 := Lib.hid hx
        have FX := Lib.hid hfx
        have D1 := Lib.hid (HAT.out.below hbx)
        have BX1 := Lib.hid (bthen hb.out hbx)
        have R1 := Lib.hid (rows_below HALL.out hbx)
        clear hx hbx hfx
        go_wp2_with fail
        refine (copy_any D1.out).mono ?_
        rintro e x2 ⟨g2, gb2, ws2, cap2, rfl, hx, hbx, hfx⟩
        have Y2 := Lib.hid hx
        have FY := Lib.hid hfx
        have X2 := Lib.hid (X1.out.below hbx)
        have D2 := Lib.hid (D1.out.below hbx)
        have BX2 := Lib.hid (bthen BX1.out hbx)
        have S12 := Lib.hid hbx.size
        have R2 := Lib.hid (rows_below R1.out hbx)
        clear hx hbx hfx
        go_wp2_with fail
        refine (copy_any D2.out).mono ?_
        rintro e x3 ⟨g3, gb3, ws3, cap3, rfl, hx, hbx, hfx⟩
        have Z3 := Lib.hid hx
        have FZ := Lib.hid hfx
        have X3 := Lib.hid (X2.out.below hbx)
        have Y3 := Lib.hid (Y2.out.below hbx)
        have D3 := Lib.hid (D2.out.below hbx)
        have BX3 := Lib.hid (bthen BX2.out hbx)
        have R3 := Lib.hid (rows_below R2.out hbx)
        clear hx hbx hfx
        have ND : Hid (∀ j, Foot g gb ws j → j < wr.heap.size) := foot_lt HAT.out
        have NX : Hid (∀ j, Foot g1 gb1 ws1 j → j < x1.heap.size) := foot_lt X1.out
        have NY : Hid (∀ j, Foot g2 gb2 ws2 j → j < x2.heap.size) := foot_lt Y2.out
        have LX : Hid (wr.heap.size ≤ x1.heap.size) := by show _ ≤ _; have := D1.out.obj.lt; have h1 := FX.out g1 (.inl rfl); have h2 := NX.out g1 (.inl rfl); omega
        go_wp2_with fail
        refine (crash_ok X3.out BX3.out.size (keep := List.replicate n true) (kl := n) List.length_replicate cv (-1) (ct := 0) (by omega) (fun w' ht => RdT.of_own (ht.rows R3.out (foot_rows X3.out (by decide) R3.out)))).mono ?_
        rintro e x4 ⟨rfl, hx, ht⟩
        have X4 := Lib.hid hx
        have Y4 := Lib.hid (Y3.out.keep ht (fun j h1 h2 => by have := FY.out j h1; have := NX.out j h2; omega) (own_foot X3.out))
        have Z4 := Lib.hid (Z3.out.keep ht (fun j h1 h2 => by have := FZ.out j h1; have := NX.out j h2; have := S12.out; omega) (own_foot X3.out))
        have D4 := Lib.hid (D3.out.keep ht (fun j h1 h2 => by have := ND.out j h1; have := FX.out j h2; omega) (own_foot X3.out))
        have BX4 := Lib.hid (BX3.out.trans (ht.toBelow BX3.out.size (foot_base X3.out)))
        clear hx ht
        have C2 : Hid (Calm { D with cap := cap2 }) := ⟨CA.out.down, CA.out.arm, CA.out.fail⟩
        go_wp2_with fail
        refine (sync_ok Y4.out C2.out.stop).mono ?_
        rintro e x5 ⟨rfl, hx, ht⟩
        rw [C2.out.same] at hx
        have Y5 := Lib.hid hx
        have X5 := Lib.hid (X4.out.keep ht (fun j h1 h2 => by have h3 := FY.out j h2; rcases h1 with h1 | h1 | h1; have h4 := NX.out j (.inl h1); omega; have h4 := NX.out j (.inr (.inl h1)); omega; cases h1) (own_foot Y4.out))
        have Z5 := Lib.hid (Z4.out.keep ht (fun j h1 h2 => by have := FZ.out j h1; have := NY.out j h2; omega) (own_foot Y4.out))
        have D5 := Lib.hid (D4.out.keep ht (fun j h1 h2 => by have := ND.out j h1; have := FY.out j h2; have := LX.out; omega) (own_foot Y4.out))
        have BX5 := Lib.hid (BX4.out.trans (ht.toBelow BX4.out.size (foot_base Y4.out)))
        clear hx ht
        go_wp2_with fail
        refine (crash_ok Z5.out BX5.out.size (keep := []) rfl 0 (-1) (ct := 0) (by omega) (fun _ _ => .inl rfl)).mono ?_
        rintro e x6 ⟨rfl, hx, ht⟩
        have Z6 := Lib.hid hx
        have X6 := Lib.hid (X5.out.keep ht (fun j h1 h2 => by have h3 := FZ.out j h2; have := S12.out; rcases h1 with h1 | h1 | h1; have h4 := NX.out j (.inl h1); omega; have h4 := NX.out j (.inr (.inl h1)); omega; cases h1) (own_foot Z5.out))
        have Y6 := Lib.hid (Y5.out.keep ht (fun j h1 h2 => by have h3 := FZ.out j h2; rcases h1 with h1 | h1 | h1; have h4 := NY.out j (.inl h1); omega; have h4 := NY.out j (.inr (.inl h1)); omega; cases h1) (own_foot Z5.out))
        have D6 := Lib.hid (D5.out.keep ht (fun j h1 h2 => by have := ND.out j h1; have := FZ.out j h2; have := LX.out; have := S12.out; omega) (own_foot Z5.out))
        have BX6 := Lib.hid (BX5.out.trans (ht.toBelow BX5.out.size (foot_base Z5.out)))
        clear hx ht
        go_wp2_with fail
        refine (pending_any D6.out).mono ?_
        rintro e w' ⟨rfl, rfl⟩
        rw [← HN.out]
        go_wp2_with fail
        go_loopw [13] (fun i wr2 => ∃ b : Nat, b ≤ 4 ∧ i = .int .i64 b ∧ Hid (Below x6.heap.size x6 wr2)) (fun i _ => 4 - (intOf i).toNat)
        case atStart => exact ⟨0, by omega, rfl, Below.refl _ _⟩
        case round =>
          obtain ⟨bb, hbb, rfl, hbl⟩ := hrel
          by_cases hb4 : bb < 4
          · have hbD : bb < D.blocks.length := by rw [F4.out]; exact hb4
            have rX := Lib.hid (crash_all { D with cap := cap1 } n 0 HN.out (b := bb) hbD)
            have rY := Lib.hid (sync_get (d := { D with cap := cap2 }) (b := bb) hbD)
            have rD := Lib.hid (List.getElem?_eq_getElem hbD)
            have rZ := Lib.hid (show (crashD { D with cap := cap3 } [] (-1) 0).blocks[bb]? = some (D.blocks[bb]'hbD) by rw [crash_none]; exact List.getElem?_eq_getElem hbD)
            have vZ := Lib.hid (readV_miss (d := crashD { D with cap := cap3 } [] (-1) 0) rZ.out (fun i p hp => by cases hp))
            have hRl := Lib.hid (X6.out.len rX.out)
            have hTl := Lib.hid (D6.out.len rD.out)
            have HBD := Lib.hid hbD
            replace rX : Hid ((crashD { D with cap := cap1 } (List.replicate n true) (-1) 0).blocks[bb]? = some (readV D bb)) := rX
            replace rY : Hid ((syncD { D with cap := cap2 }).blocks[bb]? = some (readV D bb)) := rY
            replace hRl : Hid ((readV D bb).length = 4096) := hRl
            obtain ⟨R, hR⟩ : ∃ R, R = readV D bb := ⟨_, rfl⟩
            rw [← hR] at rX rY hRl
            have HRR := Lib.hid hR
            generalize D.blocks[bb]'hbD = T at *
            clear hbD hR
            go_wp2_with fail
            refine (durable_any (X6.out.below hbl.out) bb rX.out).mono ?_
            rintro e y1 ⟨r, rfl, ho, hb1⟩
            obtain ⟨ga1, ca1, rfl, _, _, _, _⟩ := ho.formN hRl.out (by decide)
            have O1 := Lib.hid ho
            have C1 := Lib.hid (bthen hbl.out hb1)
            clear ho hb1
            go_wp2_with fail
            refine (durable_any (Y6.out.below C1.out) bb rY.out).mono ?_
            rintro e y2 ⟨r, rfl, ho, hb1⟩
            obtain ⟨ga2, ca2, rfl, _, _, _, _⟩ := ho.formN hRl.out (by decide)
            have O2 := Lib.hid ho
            have O1b := Lib.hid (O1.out.below hb1)
            have C2' := Lib.hid (bthen C1.out hb1)
            clear ho hb1
            go_wp2_with fail
            refine (read_any (D6.out.below C2'.out) bb HBD.out CA.out.down).mono ?_
            rintro e y3 ⟨r, rfl, ho, hb1⟩
            rw [← HRR.out] at ho
            obtain ⟨ga3, ca3, rfl, _, _, _, _⟩ := ho.formN hRl.out (by decide)
            have O3 := Lib.hid ho
            have O1c := Lib.hid (O1b.out.below hb1)
            have O2c := Lib.hid (O2.out.below hb1)
            have C3 := Lib.hid (bthen C2'.out hb1)
            clear ho hb1
            go_wp2_with fail
            refine (read_any (Z6.out.below C3.out) bb (show bb < (leftL _ _ _ _ _ _).length by rw [leftL_none]; exact HBD.out) rfl).mono ?_
            rintro e y4 ⟨r, rfl, ho, hb1⟩
            rw [vZ.out] at ho
            obtain ⟨ga4, ca4, rfl, _, _, _, _⟩ := ho.formN hTl.out (by decide)
            have O4 := Lib.hid ho
            have O1d := Lib.hid (O1c.out.below hb1)
            have O2d := Lib.hid (O2c.out.below hb1)
            have O3d := Lib.hid (O3.out.below hb1)
            have C4 := Lib.hid (bthen C3.out hb1)
            clear ho hb1
            go_wp2_with fail
            refine (durable_any (D6.out.below C4.out) bb rD.out).mono ?_
            rintro e y5 ⟨r, rfl, ho, hb1⟩
            obtain ⟨ga5, ca5, rfl, _, _, _, _⟩ := ho.formN hTl.out (by decide)
            have O5 := Lib.hid ho
            have O1e := Lib.hid (O1d.out.below hb1)
            have O2e := Lib.hid (O2d.out.below hb1)
            have O3e := Lib.hid (O3d.out.below hb1)
            have O4e := Lib.hid (O4.out.below hb1)
            have C5 := Lib.hid (bthen C4.out hb1)
            clear ho hb1
            go_wp2_with fail
            refine (sameBytes_any hRl.out hRl.out ca1 ca2 O1e.out.rd.1 O2e.out.rd.1).mono ?_
            rintro e w' ⟨rfl, rfl⟩
            rw [eqB_self]
            go_wp2_with fail
            refine (sameBytes_any hRl.out hRl.out ca1 ca3 O1e.out.rd.1 O3e.out.rd.1).mono ?_
            rintro e w' ⟨rfl, rfl⟩
            rw [eqB_self]
            go_wp2_with fail
            refine (sameBytes_any hTl.out hTl.out ca4 ca5 O4e.out.rd.1 O5.out.rd.1).mono ?_
            rintro e w' ⟨rfl, rfl⟩
            rw [eqB_self]
            go_wp2_with fail
            go_roundw
            case rel => exact ⟨bb + 1, by omega, by go_num, C5⟩
            case measure => simp [intOf]; omega
          · obtain rfl : bb = 4 := by omega
            go_wp2_with fail
            refine (awake03 (w := _)).mono ?_
            rintro e y9 ⟨rfl, hb1⟩
            have B9 := Lib.hid (bthen (bthen BX6.out hbl.out) hb1)
            clear hb1
            go_wp2_with fail
            go_ret
            exact ⟨rfl, B9.out⟩
end Go.Proofs.Ytobnomlbkhkodaa.Y
