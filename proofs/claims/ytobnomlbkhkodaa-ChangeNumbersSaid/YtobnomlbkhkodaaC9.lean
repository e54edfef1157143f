/-
  change.Apply.
-/
import Derived.Test.YtobnomlbkhkodaaC8
import Derived.Test.YtobnomlbkhkodaaYW
set_option linter.unusedVariables false
set_option linter.unusedSimpArgs false
namespace Go.Proofs.Ytobnomlbkhkodaa.Y
open Go.RowKit
attribute [local go_sem ↓] Go.wp_at_zero Go.wp_at_succ

def okP (L : List (Int × List UInt8)) : Bool := L.all fun p => mayP p.1 p.2.length
theorem may_true {a : Int} {m : Nat} (h : mayP a m = true) : 0 ≤ a ∧ 0 < m ∧ a ≤ 4080 - (m : Int) := by
  simp only [mayP, Bool.and_eq_true, decide_eq_true_eq] at h
  exact ⟨h.1, h.2.1, h.2.2⟩
theorem layL_take {xs : List UInt8} {L : List (Int × List UInt8)} {k : Nat} {a : Nat} {X : List UInt8} (h : L[k]? = some ((a : Int), X)) : layL xs (L.take (k + 1)) = splice (layL xs (L.take k)) a X := by
  rw [pcs_take h]
  simp [layL]
theorem layL_length {xs : List UInt8} {L : List (Int × List UInt8)} (hx : xs.length = 4080) (h : okP L = true) : (layL xs L).length = 4080 := by
  have : ∀ (L : List (Int × List UInt8)) (ys : List UInt8), ys.length = 4080 → okP L = true → (layL ys L).length = 4080 := by
    intro L
    induction L with
    | nil => intro ys hy _; exact hy
    | cons p L ih =>
      intro ys hy hok
      simp only [okP, List.all_cons, Bool.and_eq_true] at hok
      have := may_true hok.1
      refine ih (splice ys p.1.toNat p.2) ?_ hok.2
      rw [length_splice _ _ _ (by omega), hy]
  exact this L xs hx h
theorem okP_take {L : List (Int × List UInt8)} {k : Nat} {p : Int × List UInt8} (h : L[k]? = some p) (hk : okP (L.take k) = true) : okP (L.take (k + 1)) = mayP p.1 p.2.length := by
  obtain ⟨a, X⟩ := p
  rw [pcs_take h]
  simp only [okP, List.all_append, List.all_cons, List.all_nil, Bool.and_true] at hk ⊢
  rw [hk, Bool.true_and]
theorem okP_all {L : List (Int × List UInt8)} (h : okP L = true) (k : Nat) : okP (L.take k) = true := by
  simp only [okP, List.all_eq_true] at h ⊢
  exact fun p hp => h p (List.mem_of_mem_take hp)
theorem okP_at {L : List (Int × List UInt8)} {k : Nat} {p : Int × List UInt8} (h : okP L = true) (hp : L[k]? = some p) : mayP p.1 p.2.length = true := by
  simp only [okP, List.all_eq_true] at h
  exact h p (List.mem_of_getElem? hp)
/-- The loop's variable lies in a box. -/
theorem box_keep {wr w2 : World} {a : Int} {u : Value} (h : Below (wr.alloc (.cells #[.int .i64 a, u] 36)).heap.size (wr.alloc (.cells #[.int .i64 a, u] 36)) w2) :
    ∀ W', Below w2.heap.size w2 W' → W'.cell? ⟨wr.heap.size, 0, none⟩ = some (.int .i64 a) ∧ W'.cell? ⟨wr.heap.size, 1, none⟩ = some u := fun W' hb => by
  have hz := h.size
  have b0 : (wr.alloc (.cells #[.int .i64 a, u] 36)).heap[wr.heap.size]? = some (.cells #[.int .i64 a, u] 36 (0, 0)) := heap_alloc_new _ _
  have b2 : W'.heap[wr.heap.size]? = some (.cells #[.int .i64 a, u] 36 (0, 0)) := (hb.block _ (by simp at hz; omega)).trans ((h.block _ (by simp)).trans b0)
  exact ⟨by rw [cell_of_row _ _ 0 _ _ _ b2]; rfl, by rw [cell_of_row _ _ 1 _ _ _ b2]; rfl⟩
theorem keep3 {wr w2 w3 : World} {a : Int} {u : Value} {g : Nat} (h : ∀ W', Below w2.heap.size w2 W' → W'.cell? ⟨wr.heap.size, 0, none⟩ = some (.int .i64 a) ∧ W'.cell? ⟨wr.heap.size, 1, none⟩ = some u) (hg : w2.drew.grownBy w3 (some g)) (hne : g < wr.heap.size) :
    w3.cell? ⟨wr.heap.size, 0, none⟩ = some (.int .i64 a) ∧ w3.cell? ⟨wr.heap.size, 1, none⟩ = some u := by
  have k := h w2 (Below.refl _ _)
  have hlt : wr.heap.size < w2.drew.heap.size := World.block_lt_of_cell? w2 _ k.1
  have hb : w3.heap[wr.heap.size]? = w2.heap[wr.heap.size]? := hg.block _ hlt (by intro e; injection e with e; omega)
  exact ⟨(cell_block hb 0).trans k.1, (cell_block hb 1).trans k.2⟩
theorem apply_below {w wr w2 w3 : World} {g : Nat} {o : Obj} (h1 : Below w.heap.size w wr) (h2 : Below (wr.alloc o).heap.size (wr.alloc o) w2) (hg : w2.drew.grownBy w3 (some g)) (hB : w.heap.size ≤ g) : Below w.heap.size w w3 := by
  have k : Below w.heap.size w w2.drew := bdrew (bthen (balloc h1 o) h2)
  exact k.grown hg k.size (fun j e => by injection e with e; omega)
theorem apply_arg {w : World} {A B : Option Addr} {l m : Nat} (c d : Nat) (hl : l ≤ 140737488555328) (h : l ≠ 4080) :
    Calls Try.prog 16 #[.slice A l c, .slice B m d] w fun e w' => e = .returned (.tuple #[.slice none 0 0, .int .i64 2]) ∧ Below w.heap.size w w' := by
  have q1 : ((l : Int) != 4080) = true := by rw [bne_iff_ne]; omega
  have q3 : (l != 4080) = true := by rw [bne_iff_ne]; omega
  clear h
  go_enter Try.func16, Try.ntmps16
  go_wp2
  go_ret2
  exact ⟨rfl, Below.refl _ _⟩
set_option maxHeartbeats 3200000 in
theorem apply_ok {w : World} {A0 A : Option Addr} {xs : List UInt8} (hx : xs.length = 4080) (c0 : Nat) (h0 : Rd w A0 xs) {L : List (Int × List UInt8)} {l : Nat} (hL : L.length = l) (c : Nat) (hA : RdP w A L) (hl : l ≤ 140737488555328) (hok : okP L = true) :
    Calls Try.prog 16 #[.slice A0 4080 c0, .slice A l c] w fun e w' => ∃ r, e = .returned (.tuple #[r, .int .i64 0]) ∧ Own w' w.heap.size r (layL xs L) ∧ Below w.heap.size w w' := by
  have HL := Lib.hid hL
  have HA := Lib.hid hA
  have HX := Lib.hid hx
  have H0 := Lib.hid h0
  have HOK := Lib.hid hok
  clear hL hA hx h0 hok
  go_enter Try.func16, Try.ntmps16
  go_wp2_with fail
  refine (clone_any HX.out _ H0.out (by decide)).mono ?_
  rintro e w1 ⟨rv, rfl, hvv, _, hbb⟩; obtain ⟨g, c1, rfl, hg1, hg2, hc1, hc2⟩ := hvv.formN HX.out (by decide); have O1 := Lib.hid hvv; have B1 := Lib.hid hbb; clear hvv hbb
  go_wp2
  go_loopw [16] (fun i wr => ∃ k : Nat, k ≤ l ∧ i = .int .i64 k ∧ Hid (Own wr w.heap.size (.slice (some ⟨g, 0, none⟩) 4080 c1) (layL xs (L.take k))) ∧ Hid (Below w.heap.size w wr) ∧ Hid (okP (L.take k) = true)) (fun i _ => l - (intOf i).toNat)
  case atStart => exact ⟨0, Nat.zero_le _, rfl, O1, B1, rfl⟩
  case round =>
    obtain ⟨k, hk, rfl, hv, hb, hall⟩ := hrel
    by_cases hlt : k < l
    · obtain ⟨b, o, C, d, rfl, hp⟩ := (HA.out.below hb.out).at_ (i := k) (by rw [HL.out]; exact hlt)
      have gL := Lib.hid (List.getElem?_eq_getElem (l := L) (i := k) (by rw [HL.out]; exact hlt))
      generalize L[k]'(by rw [HL.out]; exact hlt) = P at *
      obtain ⟨a, X⟩ := P
      have p0 := hp.c0
      have p1 := hp.c1
      have R1 := Lib.hid hp.rd
      have hok1 := hp.ok.len
      have hok2 := hp.ok.lo
      have hok3 := hp.ok.hi
      clear hp
      dsimp only at p0 p1 R1 hok1 hok2 hok3
      have hnx := Lib.hid (okP_take gL.out hall.out)
      have hms : X.length = X.length := rfl
      obtain ⟨m, hm⟩ : ∃ m, m = X.length := ⟨_, rfl⟩
      have hxl : Hid (mayP a X.length = mayP a m) := by show _ = _; rw [hm]
      rw [← hm] at p1 hok1
      have HM := Lib.hid hm
      clear hm hms
      have hgw : g < wr.heap.size := (World.ownsRow.lt hv.out g rfl).2
      have hBg : w.heap.size ≤ g := hg1
      have hmay : mayP a m = true := hxl.out.symm.trans (okP_at HOK.out gL.out)
      have hall2 : Hid (okP (L.take (k + 1)) = true) := by show _ = _; rw [hnx.out]; exact hxl.out.trans hmay
      have ft := Lib.hid (may_true hmay)
      obtain ⟨n, rfl⟩ := Int.eq_ofNat_of_zero_le ft.out.1
      have fit1 : n + m ≤ 4080 := by have := ft.out.2.2; omega
      have fit0 : 0 < m := ft.out.2.1
      have hts := Lib.hid (layL_take (xs := xs) gL.out)
      have z0 : (0 : Int) ≤ (n : Int) := by omega
      have z1 : (n : Int) ≤ 4080 := by omega
      have z3 : (n : Int).toNat = n := Int.toNat_natCast n
      go_wp2_with (go_at_call 54; refine (may_piece (w := _) ((n : Nat) : Int) C m d (by omega) (by omega) (by omega)).mono ?_; rintro e w2 ⟨rfl, hbb⟩; rw [hmay]; have B2 := Lib.hid hbb; have keep := Lib.hid (box_keep hbb); clear hbb)
      refine wp_region_held_drew (S := (fun w' : World => w'.cell? ⟨wr.heap.size, 0, none⟩ = some (.int .i64 ((n : Nat) : Int)) ∧ w'.cell? ⟨wr.heap.size, 1, none⟩ = some (.slice C m d))) (by kernel_rfl) (⟨(keep.out _ (Below.refl _ _)).1, (keep.out _ (Below.refl _ _)).2⟩) (fun hHeld => ?_)
      refine take_op (i := 0) 23 (v := ?_) rfl rfl (by kernel_rfl) (by kernel_rfl) (by kernel_rfl) (fun _ _ _ h => h) (Or.inl ⟨by rfl, ?_⟩) (by assumption) ?_
      rotate_left
      · (intro w hSw; (try dsimp only at hSw); first | (go_simp; done) | (go_simp; with_reducible rfl))
      try simp only [Act.put, List.setIfInBounds_toArray, List.set_cons_zero, List.set_cons_succ]
      refine take_op (i := 1) 24 (v := ?_) rfl rfl (by kernel_rfl) (by kernel_rfl) (by kernel_rfl) (fun _ _ _ h => h) (Or.inl ⟨by rfl, ?_⟩) (by assumption) ?_
      rotate_left
      · (intro w hSw; (try dsimp only at hSw); first | (go_simp; done) | (go_simp; with_reducible rfl))
      try simp only [Act.put, List.setIfInBounds_toArray, List.set_cons_zero, List.set_cons_succ]
      refine take_op (i := 2) 25 (v := ?_) rfl rfl (by kernel_rfl) (by kernel_rfl) (by kernel_rfl) (fun _ _ _ h => h) (Or.inl ⟨by rfl, ?_⟩) (by assumption) ?_
      rotate_left
      · (intro w hSw; (try dsimp only at hSw); first | (go_simp; done) | (go_simp; with_reducible rfl))
      try simp only [Act.put, List.setIfInBounds_toArray, List.set_cons_zero, List.set_cons_succ]
      refine take_op (i := 3) 26 (v := ?_) rfl rfl (by kernel_rfl) (by kernel_rfl) (by kernel_rfl) (fun _ _ _ h => h) (Or.inl ⟨by rfl, ?_⟩) (by assumption) ?_
      rotate_left
      · (intro w hSw; (try dsimp only at hSw); first | (go_simp; done) | (go_simp; with_reducible rfl))
      try simp only [Act.put, List.setIfInBounds_toArray, List.set_cons_zero, List.set_cons_succ]
      refine take_op (i := 4) 27 (v := ?_) rfl rfl (by kernel_rfl) (by kernel_rfl) (by kernel_rfl) (fun _ _ _ h => h) (Or.inl ⟨by rfl, ?_⟩) (by assumption) ?_
      rotate_left
      · (intro w hSw; (try dsimp only at hSw); first | (go_simp; done) | (go_simp; with_reducible rfl))
      try simp only [Act.put, List.setIfInBounds_toArray, List.set_cons_zero, List.set_cons_succ]
      refine take_op (i := 5) 28 (v := ?_) rfl rfl (by kernel_rfl) (by kernel_rfl) (by kernel_rfl) (fun _ _ _ h => h) (Or.inl ⟨by rfl, ?_⟩) (by assumption) ?_
      rotate_left
      · (intro w hSw; (try dsimp only at hSw); first | (go_simp; done) | (go_simp; with_reducible rfl))
      try simp only [Act.put, List.setIfInBounds_toArray, List.set_cons_zero, List.set_cons_succ]
      refine ready_one 6 (by kernel_rfl) rfl (fun K hK => ?_)
      (refine step_copy_own rfl (.tmp 26) (.tmp 28) 23 23 rfl Try.underlying23 info_u8 (xs := layL xs (L.take k)) (ys := X) ((hv.out.alloc _).below B2.out).drew n (4080 - n) (c1 - n) m d _ C rfl rfl HM.out.symm ((R1.out.alloc _).below B2.out).drew (fun h => by rw [cutA_some (by omega), Nat.zero_add]) (by omega) ?_; intro w3 hv3 hg3; rw [List.take_of_length_le (show X.length ≤ 4080 - n by rw [← HM.out]; omega)] at hv3; have HV := Lib.hid hv3; have G3 := Lib.hid hg3; have B3 := Lib.hid (apply_below hb.out B2.out hg3 hBg); clear hv3 hg3; have K3 := Lib.hid (keep3 keep.out G3.out hgw))
      refine hK.out _ _ ?_ (fun hHeld => ?_)
      · exact K3.out
      clear hK K
      try simp only [Act.put, List.setIfInBounds_toArray, List.set_cons_zero, List.set_cons_succ]
      refine wpAnyH_done (by kernel_rfl) ?_ _
      go_wp2
      go_roundw
      case rel => exact ⟨k + 1, by omega, by go_num, by rw [hts.out]; exact HV.out, B3.out, hall2⟩
      case measure => simp [intOf]; omega
    · obtain rfl : k = l := by omega
      go_wp2
      go_ret2
      have hv' := hv.out
      rw [List.take_of_length_le (by rw [HL.out]; exact Nat.le_refl _)] at hv'
      exact ⟨_, rfl, hv', hb.out⟩
set_option maxHeartbeats 3200000 in
theorem apply_bad {w : World} {A0 A : Option Addr} {xs : List UInt8} (hx : xs.length = 4080) (c0 : Nat) (h0 : Rd w A0 xs) {L : List (Int × List UInt8)} {l : Nat} (hL : L.length = l) (c : Nat) (hA : RdP w A L) (hl : l ≤ 140737488555328) (hok : okP L = false) :
    Calls Try.prog 16 #[.slice A0 4080 c0, .slice A l c] w fun e w' => e = .returned (.tuple #[.slice none 0 0, .int .i64 2]) ∧ Below w.heap.size w w' := by
  have HL := Lib.hid hL
  have HA := Lib.hid hA
  have HX := Lib.hid hx
  have H0 := Lib.hid h0
  have HOK := Lib.hid hok
  clear hL hA hx h0 hok
  go_enter Try.func16, Try.ntmps16
  go_wp2_with fail
  refine (clone_any HX.out _ H0.out (by decide)).mono ?_
  rintro e w1 ⟨rv, rfl, hvv, _, hbb⟩; obtain ⟨g, c1, rfl, hg1, hg2, hc1, hc2⟩ := hvv.formN HX.out (by decide); have O1 := Lib.hid hvv; have B1 := Lib.hid hbb; clear hvv hbb
  go_wp2
  go_loopw [16] (fun i wr => ∃ k : Nat, k ≤ l ∧ i = .int .i64 k ∧ Hid (Own wr w.heap.size (.slice (some ⟨g, 0, none⟩) 4080 c1) (layL xs (L.take k))) ∧ Hid (Below w.heap.size w wr) ∧ Hid (okP (L.take k) = true)) (fun i _ => l - (intOf i).toNat)
  case atStart => exact ⟨0, Nat.zero_le _, rfl, O1, B1, rfl⟩
  case round =>
    obtain ⟨k, hk, rfl, hv, hb, hall⟩ := hrel
    by_cases hlt : k < l
    · obtain ⟨b, o, C, d, rfl, hp⟩ := (HA.out.below hb.out).at_ (i := k) (by rw [HL.out]; exact hlt)
      have gL := Lib.hid (List.getElem?_eq_getElem (l := L) (i := k) (by rw [HL.out]; exact hlt))
      generalize L[k]'(by rw [HL.out]; exact hlt) = P at *
      obtain ⟨a, X⟩ := P
      have p0 := hp.c0
      have p1 := hp.c1
      have R1 := Lib.hid hp.rd
      have hok1 := hp.ok.len
      have hok2 := hp.ok.lo
      have hok3 := hp.ok.hi
      clear hp
      dsimp only at p0 p1 R1 hok1 hok2 hok3
      have hnx := Lib.hid (okP_take gL.out hall.out)
      have hms : X.length = X.length := rfl
      obtain ⟨m, hm⟩ : ∃ m, m = X.length := ⟨_, rfl⟩
      have hxl : Hid (mayP a X.length = mayP a m) := by show _ = _; rw [hm]
      rw [← hm] at p1 hok1
      have HM := Lib.hid hm
      clear hm hms
      have hgw : g < wr.heap.size := (World.ownsRow.lt hv.out g rfl).2
      have hBg : w.heap.size ≤ g := hg1
      by_cases hmay : mayP a m = true
      · have hall2 : Hid (okP (L.take (k + 1)) = true) := by show _ = _; rw [hnx.out]; exact hxl.out.trans hmay
        have ft := Lib.hid (may_true hmay)
        obtain ⟨n, rfl⟩ := Int.eq_ofNat_of_zero_le ft.out.1
        have fit1 : n + m ≤ 4080 := by have := ft.out.2.2; omega
        have fit0 : 0 < m := ft.out.2.1
        have hts := Lib.hid (layL_take (xs := xs) gL.out)
        have z0 : (0 : Int) ≤ (n : Int) := by omega
        have z1 : (n : Int) ≤ 4080 := by omega
        have z3 : (n : Int).toNat = n := Int.toNat_natCast n
        go_wp2_with (go_at_call 54; refine (may_piece (w := _) ((n : Nat) : Int) C m d (by omega) (by omega) (by omega)).mono ?_; rintro e w2 ⟨rfl, hbb⟩; rw [hmay]; have B2 := Lib.hid hbb; have keep := Lib.hid (box_keep hbb); clear hbb)
        refine wp_region_held_drew (S := (fun w' : World => w'.cell? ⟨wr.heap.size, 0, none⟩ = some (.int .i64 ((n : Nat) : Int)) ∧ w'.cell? ⟨wr.heap.size, 1, none⟩ = some (.slice C m d))) (by kernel_rfl) (⟨(keep.out _ (Below.refl _ _)).1, (keep.out _ (Below.refl _ _)).2⟩) (fun hHeld => ?_)
        refine take_op (i := 0) 23 (v := ?_) rfl rfl (by kernel_rfl) (by kernel_rfl) (by kernel_rfl) (fun _ _ _ h => h) (Or.inl ⟨by rfl, ?_⟩) (by assumption) ?_
        rotate_left
        · (intro w hSw; (try dsimp only at hSw); first | (go_simp; done) | (go_simp; with_reducible rfl))
        try simp only [Act.put, List.setIfInBounds_toArray, List.set_cons_zero, List.set_cons_succ]
        refine take_op (i := 1) 24 (v := ?_) rfl rfl (by kernel_rfl) (by kernel_rfl) (by kernel_rfl) (fun _ _ _ h => h) (Or.inl ⟨by rfl, ?_⟩) (by assumption) ?_
        rotate_left
        · (intro w hSw; (try dsimp only at hSw); first | (go_simp; done) | (go_simp; with_reducible rfl))
        try simp only [Act.put, List.setIfInBounds_toArray, List.set_cons_zero, List.set_cons_succ]
        refine take_op (i := 2) 25 (v := ?_) rfl rfl (by kernel_rfl) (by kernel_rfl) (by kernel_rfl) (fun _ _ _ h => h) (Or.inl ⟨by rfl, ?_⟩) (by assumption) ?_
        rotate_left
        · (intro w hSw; (try dsimp only at hSw); first | (go_simp; done) | (go_simp; with_reducible rfl))
        try simp only [Act.put, List.setIfInBounds_toArray, List.set_cons_zero, List.set_cons_succ]
        refine take_op (i := 3) 26 (v := ?_) rfl rfl (by kernel_rfl) (by kernel_rfl) (by kernel_rfl) (fun _ _ _ h => h) (Or.inl ⟨by rfl, ?_⟩) (by assumption) ?_
        rotate_left
        · (intro w hSw; (try dsimp only at hSw); first | (go_simp; done) | (go_simp; with_reducible rfl))
        try simp only [Act.put, List.setIfInBounds_toArray, List.set_cons_zero, List.set_cons_succ]
        refine take_op (i := 4) 27 (v := ?_) rfl rfl (by kernel_rfl) (by kernel_rfl) (by kernel_rfl) (fun _ _ _ h => h) (Or.inl ⟨by rfl, ?_⟩) (by assumption) ?_
        rotate_left
        · (intro w hSw; (try dsimp only at hSw); first | (go_simp; done) | (go_simp; with_reducible rfl))
        try simp only [Act.put, List.setIfInBounds_toArray, List.set_cons_zero, List.set_cons_succ]
        refine take_op (i := 5) 28 (v := ?_) rfl rfl (by kernel_rfl) (by kernel_rfl) (by kernel_rfl) (fun _ _ _ h => h) (Or.inl ⟨by rfl, ?_⟩) (by assumption) ?_
        rotate_left
        · (intro w hSw; (try dsimp only at hSw); first | (go_simp; done) | (go_simp; with_reducible rfl))
        try simp only [Act.put, List.setIfInBounds_toArray, List.set_cons_zero, List.set_cons_succ]
        refine ready_one 6 (by kernel_rfl) rfl (fun K hK => ?_)
        (refine step_copy_own rfl (.tmp 26) (.tmp 28) 23 23 rfl Try.underlying23 info_u8 (xs := layL xs (L.take k)) (ys := X) ((hv.out.alloc _).below B2.out).drew n (4080 - n) (c1 - n) m d _ C rfl rfl HM.out.symm ((R1.out.alloc _).below B2.out).drew (fun h => by rw [cutA_some (by omega), Nat.zero_add]) (by omega) ?_; intro w3 hv3 hg3; rw [List.take_of_length_le (show X.length ≤ 4080 - n by rw [← HM.out]; omega)] at hv3; have HV := Lib.hid hv3; have G3 := Lib.hid hg3; have B3 := Lib.hid (apply_below hb.out B2.out hg3 hBg); clear hv3 hg3; have K3 := Lib.hid (keep3 keep.out G3.out hgw))
        refine hK.out _ _ ?_ (fun hHeld => ?_)
        · exact K3.out
        clear hK K
        try simp only [Act.put, List.setIfInBounds_toArray, List.set_cons_zero, List.set_cons_succ]
        refine wpAnyH_done (by kernel_rfl) ?_ _
        go_wp2
        go_roundw
        case rel => exact ⟨k + 1, by omega, by go_num, by rw [hts.out]; exact HV.out, B3.out, hall2⟩
        case measure => simp [intOf]; omega
      · have hmay : mayP a m = false := by simpa using hmay
        go_wp2_with (go_at_call 54; refine (may_piece (w := _) a C m d (by omega) (by omega) (by omega)).mono ?_; rintro e w2 ⟨rfl, hbb⟩; rw [hmay]; have B2 := Lib.hid hbb; clear hbb)
        go_ret2
        exact ⟨rfl, bthen (balloc hb.out _) B2.out⟩
    · obtain rfl : k = l := by omega
      have h1 := hall.out
      rw [List.take_of_length_le (by rw [HL.out]; exact Nat.le_refl _), HOK.out] at h1
      cases h1
end Go.Proofs.Ytobnomlbkhkodaa.Y
