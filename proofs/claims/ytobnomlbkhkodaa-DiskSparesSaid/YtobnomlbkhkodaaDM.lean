/-
  package disk: where the bytes of the blocks lie (for DiskSpares).
-/
import Derived.Test.YtobnomlbkhkodaaDD
set_option linter.unusedVariables false
set_option linter.unusedSimpArgs false
namespace Go.Proofs.Ytobnomlbkhkodaa.Y
open Go.RowKit
attribute [local go_sem ↓] Go.wp_at_zero Go.wp_at_succ

/-- The blocks' bytes lie in such blocks of memory; those of the writes. -/
def RowsB (w : World) (gb n : Nat) (R : Nat → Prop) : Prop := ∀ (i : Nat) (v : Value) (k : Nat), i < n → w.cell? ⟨gb, i, none⟩ = some v → v.ownBlock = some k → R k
def RowsW (w : World) (ws : Value) (m : Nat) (R : Nat → Prop) : Prop := ∀ (i A n c : Nat) (v : Value) (k : Nat), ws = .slice (some ⟨A, 0, none⟩) n c → i < m → w.cell? ⟨A, i * 2 + 1, none⟩ = some v → v.ownBlock = some k → R k
theorem RowsB.kept {w w1 : World} {gb n : Nat} {R : Nat → Prop} (h : RowsB w gb n R) (hb : w1.heap[gb]? = w.heap[gb]?) : RowsB w1 gb n R := fun i v k hi hc hk => h i v k hi ((cell_block hb i).symm.trans hc) hk
theorem RowsW.kept {w w1 : World} {ws : Value} {m : Nat} {R : Nat → Prop} (h : RowsW w ws m R) (hb : ∀ k, ws.ownBlock = some k → w1.heap[k]? = w.heap[k]?) : RowsW w1 ws m R := fun i A n c v k e hi hc hk => h i A n c v k e hi ((cell_block (hb A (by rw [e]; rfl)) _).symm.trans hc) hk
theorem RowsW.nil (w : World) (R : Nat → Prop) : RowsW w (.slice none 0 0) 0 R := fun i A n c v k e => by cases e
/-- Nothing of a disk without writes has changed, where its rows lie apart. -/
theorem DiskAt.keepR {w w1 : World} {B g gb : Nat} {d : DS} {S R : Nat → Prop} (h : DiskAt w B g gb (.slice none 0 0) d) (hw : d.writes = []) (hr : RowsB w gb d.blocks.length R) (ht : Tch S w w1) (h1 : ¬ S g) (h2 : ¬ S gb) (h3 : ∀ k, R k → ¬ S k) : DiskAt w1 B g gb (.slice none 0 0) d := by
  refine ⟨ht.ob h.obj h1, ?_, ?_, h.bg, h.bgb, h.pos, h.many, h.few, h.arm0, h.fail0⟩
  · obtain ⟨vals, hv, hl, hd⟩ := h.row
    refine ⟨vals, ht.ob hv h2, hl, fun i v xs q1 q2 => ?_⟩
    rcases hd i v xs q1 q2 with q | ⟨p1, p2, p3⟩
    · exact .inl q
    · exact .inr ⟨p1, ht.own p2 (fun k hk => h3 k (hr i v k (List.getElem?_eq_some_iff.1 q2).1 (hv.cell q1) hk)), p3⟩
  · exact ⟨[], by rw [hw]; rfl, World.ownsRow_nil _ _ _ _, fun i q p hq => by simp at hq⟩
theorem own_head {w : World} {B : Nat} {e : TypeId} {z n : Nat} {A : Option Addr} {m c : Nat} {xs : List Value} (h : w.ownsRow B e z (.slice A m c) n xs) : ∀ b o, A = some ⟨b, o, none⟩ → o = 0 := by
  intro b o e
  subst e
  rcases h.2 with ⟨e, _⟩ | ⟨g, cap, cur, e, _⟩
  · cases e
  · injection e with e _ _
    injection e with e
    injection e
theorem cell_set_ne {w : World} {g i j : Nat} {v : Value} (h : i ≠ j) : (w.setCell ⟨g, i, none⟩ v).cell? ⟨g, j, none⟩ = w.cell? ⟨g, j, none⟩ := by
  exact World.cell?_setCell_other _ _ _ _ (by intro e; simp only [Addr.mk.injEq] at e; omega)
section
variable {w : World} {B g gb : Nat} {ws : Value} {d : DS}
theorem new_anyR {w : World} (n : Nat) (h1 : 1 ≤ n) (h2 : n ≤ 4096) : Calls Try.prog 32 #[.int .i64 n] w fun e w' => ∃ g gb, e = .returned (.tuple #[.pointer (some ⟨g, 0, none⟩), .int .i64 0]) ∧ DiskAt w' w.heap.size g gb (.slice none 0 0) (newD n) ∧ (∀ R, RowsB w' gb n R) ∧ Below w.heap.size w w' := by
  have hmk := make_slices n h2
  have e1 : decide ((n : Int) < 1) = false := decide_eq_false (by omega)
  have e2 : decide ((4096 : Int) < (n : Int)) = false := decide_eq_false (by omega)
  go_enter Try.func32, Try.ntmps32
  go_wp2_with fail
  go_ret2
  refine ⟨w.heap.size + 1, w.heap.size, rfl, ?_, fun R i v k hi hc hk => ?_, balloc (balloc (Below.refl _ _) _) _⟩
  rotate_left
  · have hcc := hc.symm.trans (((Ob.new w 23 (List.replicate n (Value.slice none 0 0))).below (balloc (Below.refl _ _) _)).cell (j := i) (by rw [List.getElem?_replicate, if_pos hi]))
    injection hcc with hcc
    rw [hcc] at hk
    cases hk
  have hb : (newD n).blocks.length = n := by simp [newD]
  refine ⟨?_, ⟨List.replicate n (Value.slice none 0 0), (Ob.new w _ _).below (balloc (Below.refl _ _) _), by simp [newD], fun i v xs hv hx => .inl ⟨?_, ?_⟩⟩, ⟨[], rfl, World.ownsRow_nil _ _ _ _, fun i q p hq => by simp at hq⟩, by simp, by simp, by rw [hb]; omega, by rw [hb]; exact h2, by simp [newD], by simp [newD], by simp [newD]⟩
  · rw [hb]
    have := heap_alloc_new (w.alloc (.cells (List.replicate n (Value.slice none 0 0)).toArray 23)) (.cells (diskCells w.heap.size n n (.slice none 0 0) false 0 0 0).toArray 97)
    rw [World.size_alloc] at this
    simpa [Ob, diskCells, newD] using this
  · exact (List.mem_replicate.1 (List.mem_of_getElem? hv)).2
  · exact (List.mem_replicate.1 (List.mem_of_getElem? hx)).2
set_option maxHeartbeats 1600000 in
theorem write_okR (h : DiskAt w B g gb ws d) (hB : B ≤ w.heap.size) (b : Nat) {A : Option Addr} {xs : List UInt8} (hx : xs.length = 4096) (c : Nat) (hA : Rd w A xs) (hAn : A ≠ none) (hRd : ∀ w', Tch (fun k => k = g) w w' → Rd w' A xs) (hb : b < d.blocks.length) (hs : stopE d = 0) (hf : d.writes.length < 1000000) (hnil : ws = .slice none 0 0) (hwn : d.writes = []) :
    Calls Try.prog 36 #[.pointer (some ⟨g, 0, none⟩), .int .i64 b, .slice A 4096 c] w fun e w' => ∃ ws', e = .returned (.int .i64 0) ∧ DiskAt w' B g gb ws' (addW (stopD d) b xs) ∧ Tch (Foot g gb (.slice none 0 0)) w w' ∧ w'.heap[gb]? = w.heap[gb]? ∧ RowsW w' ws' 1 (fun k => w.heap.size ≤ k ∧ k < w'.heap.size) := by
  subst hnil
  have HW := Lib.hid hwn
  have H := Lib.hid h
  have hw : Hid (wrongE d b = 0) := by show _ = _; unfold wrongE; rw [if_pos (by omega)]
  have HS := Lib.hid hs
  have HX := Lib.hid hx
  have HR := Lib.hid hRd
  have hbl : b < (stopD d).blocks.length := by rw [stopD_blocks]; exact hb
  have hwl : (stopD d).writes.length < 1000000 := by rw [stopD_writes]; exact hf
  clear h hb hs hx hRd hA hf hwn
  go_enter Try.func36, Try.ntmps36
  go_wp2_with fail
  refine (wrong_any H.out b).mono ?_
  rintro e w' ⟨rfl, rfl⟩
  rw [hw.out]
  go_wp2_with fail
  refine (stopped_any H.out).mono ?_
  rintro e w1 ⟨rfl, h1, t1⟩
  rw [HS.out]
  have H1 := Lib.hid h1
  have T1 := Lib.hid t1
  have R1 := Lib.hid (HR.out w1 t1)
  clear h1 t1
  go_wp2_with fail
  refine region_popN 13 (S := (fun w' : World => w'.cell? ⟨g, 1, none⟩ = some (.slice none 0 0))) (by simp only [List.take_succ_cons, List.take_zero]; rfl) (by simp only [List.drop_succ_cons, List.drop_zero]; rfl) (by kernel_rfl) (by kernel_rfl) rfl (by kernel_rfl) (by kernel_rfl) (H1.out.c1) (fun hHeld => ?_)
  refine take_op (i := 0) 24 (v := ?_) rfl rfl (by kernel_rfl) (by kernel_rfl) (by kernel_rfl) (fun _ _ _ h => h) (Or.inl ⟨by rfl, ?_⟩) (by assumption) ?_
  rotate_left
  · (intro w hSw; (try dsimp only at hSw); first | (go_simp; done) | (go_simp; with_reducible rfl))
  try simp only [Act.put, List.setIfInBounds_toArray, List.set_cons_zero, List.set_cons_succ]
  refine take_op (i := 1) 25 (v := ?_) rfl rfl (by kernel_rfl) (by kernel_rfl) (by kernel_rfl) (fun _ _ _ h => h) (Or.inl ⟨by rfl, ?_⟩) (by assumption) ?_
  rotate_left
  · (intro w hSw; (try dsimp only at hSw); first | (go_simp; done) | (go_simp; with_reducible rfl))
  try simp only [Act.put, List.setIfInBounds_toArray, List.set_cons_zero, List.set_cons_succ]
  refine take_op (i := 2) 26 (v := ?_) rfl rfl (by kernel_rfl) (by kernel_rfl) (by kernel_rfl) (fun _ _ _ h => h) (Or.inl ⟨by rfl, ?_⟩) (by assumption) ?_
  rotate_left
  · (intro w hSw; (try dsimp only at hSw); first | (go_simp; done) | (go_simp; with_reducible rfl))
  try simp only [Act.put, List.setIfInBounds_toArray, List.set_cons_zero, List.set_cons_succ]
  refine take_op (i := 3) 27 (v := ?_) rfl rfl (by kernel_rfl) (by kernel_rfl) (by kernel_rfl) (fun _ _ _ h => h) (Or.inl ⟨by rfl, ?_⟩) (by assumption) ?_
  rotate_left
  · (intro w hSw; (try dsimp only at hSw); first | (go_simp; done) | (go_simp; with_reducible rfl))
  try simp only [Act.put, List.setIfInBounds_toArray, List.set_cons_zero, List.set_cons_succ]
  refine take_op (i := 4) 28 (v := ?_) rfl rfl (by kernel_rfl) (by kernel_rfl) (by kernel_rfl) (fun _ _ _ h => h) (Or.inl ⟨by rfl, ?_⟩) (by assumption) ?_
  rotate_left
  · (intro w hSw; (try dsimp only at hSw); first | (go_simp; done) | (go_simp; with_reducible rfl))
  try simp only [Act.put, List.setIfInBounds_toArray, List.set_cons_zero, List.set_cons_succ]
  refine take_op (i := 5) 29 (v := ?_) rfl rfl (by kernel_rfl) (by kernel_rfl) (by kernel_rfl) (fun _ _ _ h => h) (Or.inl ⟨by rfl, ?_⟩) (by assumption) ?_
  rotate_left
  · (intro w hSw; (try dsimp only at hSw); first | (go_simp; done) | (go_simp; with_reducible rfl))
  try simp only [Act.put, List.setIfInBounds_toArray, List.set_cons_zero, List.set_cons_succ]
  refine take_op (i := 6) 30 (v := ?_) rfl rfl (by kernel_rfl) (by kernel_rfl) (by kernel_rfl) (fun _ _ _ h => h) (Or.inl ⟨by rfl, ?_⟩) (by assumption) ?_
  rotate_left
  · (intro w hSw; (try dsimp only at hSw); first | (go_simp; done) | (go_simp; with_reducible rfl))
  try simp only [Act.put, List.setIfInBounds_toArray, List.set_cons_zero, List.set_cons_succ]
  refine ready_one 7 (by kernel_rfl) rfl (fun K hK => ?_)
  (go_simp; go_at_call 52; refine (clone_any (w := w1.drew) HX.out _ (show Rd w1.drew A xs from R1.out) (by decide)).mono ?_; rintro e w2 ⟨rv, rfl, hvv, hn, hbb⟩; have HN : Hid (rv ≠ .slice none 0 0) := (fun e => hAn (hn.1 e)); obtain ⟨A2, k2, rfl, _, _, _⟩ := hvv.sliceN HX.out; have OC1 : Hid (Own w2 w1.heap.size (.slice A2 4096 k2) xs) := hvv; have OC := Lib.hid (Own.mono hvv (show B ≤ w1.heap.size from Nat.le_trans hB T1.out.size)); have BC : Hid (Below w1.heap.size w1 w2) := bthen (bdrew (Below.refl _ _)) hbb; have H2 := Lib.hid (H1.out.below BC.out); clear hvv hbb hn)
  refine hK.out _ _ ?_ (fun hHeld => ?_)
  · exact H2.out.c1
  clear hK K
  try simp only [Act.put, List.setIfInBounds_toArray, List.set_cons_zero, List.set_cons_succ]
  refine take_op (i := 8) 32 (v := ?_) rfl rfl (by kernel_rfl) (by kernel_rfl) (by kernel_rfl) (fun _ _ _ h => h) (Or.inl ⟨by rfl, ?_⟩) (by assumption) ?_
  rotate_left
  · (intro w hSw; (try dsimp only at hSw); first | (go_simp; done) | (go_simp; with_reducible rfl))
  try simp only [Act.put, List.setIfInBounds_toArray, List.set_cons_zero, List.set_cons_succ]
  refine ready_one 9 (by kernel_rfl) rfl (fun K hK => ?_)
  (go_simp)
  refine hK.out _ _ ?_ (fun hHeld => ?_)
  · exact (H2.out.below (balloc (Below.refl _ _) _)).c1
  clear hK K
  try simp only [Act.put, List.setIfInBounds_toArray, List.set_cons_zero, List.set_cons_succ]
  refine ready_one 10 (by kernel_rfl) rfl (fun K hK => ?_)
  (obtain ⟨qs, hq1, hq2, hq3⟩ := (H2.out.below (balloc (Below.refl _ _) (.cells #[.int .i64 (b : Int), .slice A2 4096 k2] 106))).wr; refine step_append_write rfl (.tmp 28) (.tmp 33) rfl B (.slice none 0 0) qs rfl hq2 (b : Int) (.slice A2 4096 k2) rfl w2.heap.size rfl (heap_alloc_new _ _) (by rw [hq1]; omega) (Nat.le_trans hB (Nat.le_trans T1.out.size (balloc BC.out _).size)) ?_; intro v3 w3 hown hgr hbl3; have HO := Lib.hid hown; have G3 := Lib.hid hgr; have HB3 := Lib.hid hbl3; have HQ1 := Lib.hid hq1; have HQ3 := Lib.hid hq3; have H3 := Lib.hid (H2.out.below (balloc (Below.refl _ _) (.cells #[.int .i64 (b : Int), .slice A2 4096 k2] 106))); have c3 : w3.cell? ⟨g, 1, none⟩ = some (.slice none 0 0) := ((Tch.refl (fun k => (Value.slice none 0 0).ownBlock = some k) _).grown hgr (fun j e => .inl e)).ob H3.out.obj (fun e => (ws_ne H3.out g e).1 rfl) |>.cell rfl; have f3 : w3.frozen? ⟨g, 1, none⟩ = false := ((Tch.refl (fun k => (Value.slice none 0 0).ownBlock = some k) _).grown hgr (fun j e => .inl e)).ob H3.out.obj (fun e => (ws_ne H3.out g e).1 rfl) |>.frozen 1; have hone : v3.oneCell' = true := own_oneCell hown; clear hown hgr hbl3 hq1 hq2 hq3)
  refine hK.out _ _ ?_ (fun hHeld => ?_)
  · exact c3
  clear hK K
  try simp only [Act.put, List.setIfInBounds_toArray, List.set_cons_zero, List.set_cons_succ]
  refine take_op (i := 11) 35 (v := ?_) rfl rfl (by kernel_rfl) (by kernel_rfl) (by kernel_rfl) (fun _ _ _ h => h) (Or.inl ⟨by rfl, ?_⟩) (by assumption) ?_
  rotate_left
  · (intro w hSw; (try dsimp only at hSw); first | (go_simp; done) | (go_simp; with_reducible rfl))
  try simp only [Act.put, List.setIfInBounds_toArray, List.set_cons_zero, List.set_cons_succ]
  refine take_op (i := 12) 36 (v := ?_) rfl rfl (by kernel_rfl) (by kernel_rfl) (by kernel_rfl) (fun _ _ _ h => h) (Or.inl ⟨by rfl, ?_⟩) (by assumption) ?_
  rotate_left
  · (intro w hSw; (try dsimp only at hSw); first | (go_simp; done) | (go_simp; with_reducible rfl))
  try simp only [Act.put, List.setIfInBounds_toArray, List.set_cons_zero, List.set_cons_succ]
  refine wpAnyH_done (by kernel_rfl) ?_ _
  show wpList _ _ _ _ _ _
  obtain ⟨A3, l3, k3, rfl⟩ := own_slice HO.out
  go_wp2_with fail
  have OC2 := OC.out.below (balloc (Below.refl _ _) (.cells #[.int .i64 (b : Int), .slice A2 4096 k2] 106))
  have hv3 : ∀ k, (Value.slice A3 l3 k3).ownBlock = some k → k ≠ g := fun k hk e => by
    rcases HB3.out with q | q
    · rw [q] at hk; exact (ws_ne H3.out k hk).1 e
    · rw [hk] at q
      injection q with q
      have := H3.out.obj.lt
      omega
  have hp := H3.out.pushed HQ1.out HQ3.out OC2 HN.out HX.out hbl hwl HO.out G3.out hv3
  go_ret
  have hq0 : qs = [] := List.eq_nil_of_length_eq_zero (by rw [HQ1.out, stopD_writes, HW.out]; rfl)
  have HO2 := HO.out
  rw [hq0] at HO2
  have hgg := gb_ne H.out
  refine ⟨_, rfl, hp.1, (T1.out.mono (fun k _ e => .inl e)).then (((Tch.below (S := Foot g gb (.slice none 0 0)) (balloc BC.out _)).trans hp.2)) (fun j q => .inl q), ?_, fun i A n c v k e hi hc hk => ?_⟩
  · obtain ⟨_, hgo, _⟩ := H.out.row
    have l0 := hgo.lt
    have l1 : gb < w1.heap.size := Nat.lt_of_lt_of_le l0 T1.out.size
    rw [Below.heap_setCell _ _ _ _ (by simpa using hgg), G3.out.block gb (Nat.lt_of_lt_of_le l1 (balloc BC.out _).size) (by simp [Value.ownBlock]), (balloc BC.out (.cells #[.int .i64 (b : Int), .slice A2 4096 k2] 106)).block gb l1, T1.out.block gb l0 hgg]
  · obtain rfl : i = 0 := by omega
    rw [e] at HO2 hv3
    have hc2 := World.ownsRow.cells HO2 (g := A) rfl 1 (.slice A2 4096 k2) rfl
    rw [add_plain] at hc2
    rw [cell_other (hv3 A rfl)] at hc
    have := hc.symm.trans hc2
    injection this with this
    rw [this] at hk
    have hlt := World.ownsRow.lt OC1.out k hk
    have s1 := T1.out.size
    have s2 := G3.out.size
    simp only [World.size_alloc] at s2
    refine ⟨by omega, ?_⟩
    simp only [World.size_setCell]
    omega
set_option maxHeartbeats 1600000 in
theorem sync_okR {R : Nat → Prop} (h : DiskAt w B g gb ws d) (hs : stopE d = 0) (hrb : RowsB w gb d.blocks.length R) (hrw : RowsW w ws d.writes.length R) : Calls Try.prog 33 #[.pointer (some ⟨g, 0, none⟩)] w fun e w' => e = .returned (.int .i64 0) ∧ DiskAt w' B g gb (.slice none 0 0) (syncD (stopD d)) ∧ Tch (Foot g gb ws) w w' ∧ RowsB w' gb d.blocks.length R := by
  have H := Lib.hid h
  have HRB := Lib.hid hrb
  have HRW := Lib.hid hrw
  have DB : Hid ((stopD d).blocks.length = d.blocks.length) := by show _ = _; rw [stopD_blocks]
  have DW : Hid ((stopD d).writes.length = d.writes.length) := by show _ = _; rw [stopD_writes]
  have HS := Lib.hid hs
  obtain ⟨D, hD⟩ : ∃ D, D = stopD d := ⟨_, rfl⟩
  rw [← hD]
  have HD := Lib.hid hD
  clear h hs hD hrb hrw
  go_enter Try.func33, Try.ntmps33
  go_wp2_with fail
  refine (none_any H.out).mono ?_
  rintro e w' ⟨rfl, rfl⟩
  go_wp2_with fail
  refine (stopped_any H.out).mono ?_
  rintro e w1 ⟨rfl, h1, t1⟩
  rw [HS.out]
  rw [← HD.out] at h1 DB DW
  have KB : Hid (RowsB w1 gb d.blocks.length R) := HRB.out.kept (t1.block gb (by obtain ⟨_, hgo, _⟩ := H.out.row; exact hgo.lt) (gb_ne H.out))
  have KW : Hid (RowsW w1 ws d.writes.length R) := HRW.out.kept (fun k hk => t1.block k (by obtain ⟨qs, _, q2, _⟩ := H.out.wr; exact (World.ownsRow.lt q2 k hk).2) (ws_ne H.out k hk).1)
  rw [← DB.out] at KB
  rw [← DW.out] at KW
  clear HD HS HRB HRW DW
  obtain ⟨A, c, hws⟩ := h1.wsForm
  obtain ⟨m, hm⟩ : ∃ m, m = D.writes.length := ⟨_, rfl⟩
  rw [← hm] at hws
  subst hws
  have HM := Lib.hid hm
  have cg := h1.c1
  have hml : m ≤ 1000000 := hm ▸ h1.few
  have H1 := Lib.hid h1
  have T1 := Lib.hid (t1.mono (S' := Foot g gb (.slice A m c)) (fun k _ e => .inl e))
  clear h1 t1 hm H
  go_wp2_with fail
  go_loopw [18] (fun i wr => ∃ k : Nat, k ≤ m ∧ i = .int .i64 k ∧ Hid (DiskAt wr B g gb (.slice A m c) { D with blocks := applyW D.blocks (D.writes.take k) }) ∧ Hid (Tch (Foot g gb (.slice A m c)) w wr) ∧ Hid (RowsB wr gb D.blocks.length R ∧ RowsW wr (.slice A m c) m R)) (fun i _ => m - (intOf i).toNat)
  case atStart => exact ⟨0, Nat.zero_le _, rfl, H1, T1, KB.out, by have := KW.out; rw [← HM.out] at this; exact this⟩
  case round =>
    obtain ⟨k, hk, rfl, hv, ht, hR⟩ := hrel
    by_cases hlt : k < m
    · have gL := Lib.hid (List.getElem?_eq_getElem (l := D.writes) (i := k) (by rw [← HM.out]; exact hlt))
      generalize D.writes[k]'(by rw [← HM.out]; exact hlt) = p at *
      obtain ⟨b, o, C1, c1, rfl, p0, p1, hne, ho, hl, hb⟩ := hv.out.write_at rfl gL.out
      have HV := Lib.hid (show DataV wr B (.slice C1 4096 c1) p.2 from .inr ⟨hne, ho, hl⟩)
      have hnx := Lib.hid (applyW_take (bs := D.blocks) gL.out)
      have hrk : Hid (∀ k2, (Value.slice C1 4096 c1).ownBlock = some k2 → R k2) := fun k2 hk2 => by
        obtain ⟨qs, _, q2, _⟩ := hv.out.wr
        have q3 := own_head q2
        obtain rfl : o = 0 := q3 b o rfl
        rw [Nat.zero_add] at p1
        exact hR.out.2 k b m c _ k2 rfl hlt p1 hk2
      have k0 := hv.out.c0
      have hmn := hv.out.many
      dsimp only at k0 hb hmn
      obtain ⟨n, hn⟩ : ∃ n, n = (applyW D.blocks (D.writes.take k)).length := ⟨_, rfl⟩
      rw [← hn] at k0 hb hmn
      obtain ⟨i, hi⟩ : ∃ i, i = p.1 := ⟨_, rfl⟩
      rw [← hi] at p0 hb
      have HI := Lib.hid hi
      have z0 : (0 : Int) ≤ (i : Int) := by omega
      have z1 : (i : Int) < (n : Int) := by omega
      have HN := Lib.hid hn
      clear hne ho hl hn hi
      go_wp2_with fail
      have bx := box2 wr 106 (.int .i64 (i : Int)) (.slice C1 4096 c1)
      have hb2 : Hid (Below wr.heap.size wr (wr.alloc (.cells #[.int .i64 (i : Int), .slice C1 4096 c1] 106))) := balloc (Below.refl _ _) _
      generalize wr.alloc (.cells #[.int .i64 (i : Int), .slice C1 4096 c1] 106) = w2 at *
      have H2 := Lib.hid (hv.out.below hb2.out)
      have fz : w2.frozen? ⟨gb, i, none⟩ = false := by
        obtain ⟨vals, hvv, _⟩ := H2.out.row
        exact hvv.frozen i
      have k2 : w2.cell? ⟨g, 0, none⟩ = some (.slice (some ⟨gb, 0, none⟩) n D.cap) := (hb2.out.cell (World.block_lt_of_cell? wr _ k0)).trans k0
      have e2 : ∃ u, w2.cell? ⟨gb, i, none⟩ = some u := by
        obtain ⟨vals, hvv, hvl, _⟩ := H2.out.row
        exact ⟨_, hvv.cell (List.getElem?_eq_getElem (by refine Nat.lt_of_lt_of_le ?_ hvl; dsimp only; rw [← HN.out]; omega))⟩
      obtain ⟨u2, e2⟩ := e2
      refine region_popN 9 (S := (fun w' : World => w'.cell? ⟨g, 0, none⟩ = some (.slice (some ⟨gb, 0, none⟩) n D.cap) ∧ w'.cell? ⟨wr.heap.size, 0, none⟩ = some (.int .i64 (i : Int)) ∧ w'.cell? ⟨wr.heap.size, 1, none⟩ = some (.slice C1 4096 c1))) (by simp only [List.take_succ_cons, List.take_zero]; rfl) (by simp only [List.drop_succ_cons, List.drop_zero]; rfl) (by kernel_rfl) (by kernel_rfl) rfl (by kernel_rfl) (by kernel_rfl) (⟨k2, bx.1, bx.2⟩) (fun hHeld => ?_)
      refine take_op (i := 0) 22 (v := ?_) rfl rfl (by kernel_rfl) (by kernel_rfl) (by kernel_rfl) (fun _ _ _ h => h) (Or.inl ⟨by rfl, ?_⟩) (by assumption) ?_
      rotate_left
      · (intro w hSw; (try dsimp only at hSw); first | (go_simp; done) | (go_simp; with_reducible rfl))
      try simp only [Act.put, List.setIfInBounds_toArray, List.set_cons_zero, List.set_cons_succ]
      refine take_op (i := 1) 23 (v := ?_) rfl rfl (by kernel_rfl) (by kernel_rfl) (by kernel_rfl) (fun _ _ _ h => h) (Or.inl ⟨by rfl, ?_⟩) (by assumption) ?_
      rotate_left
      · (intro w hSw; (try dsimp only at hSw); first | (go_simp; done) | (go_simp; with_reducible rfl))
      try simp only [Act.put, List.setIfInBounds_toArray, List.set_cons_zero, List.set_cons_succ]
      refine take_op (i := 2) 24 (v := ?_) rfl rfl (by kernel_rfl) (by kernel_rfl) (by kernel_rfl) (fun _ _ _ h => h) (Or.inl ⟨by rfl, ?_⟩) (by assumption) ?_
      rotate_left
      · (intro w hSw; (try dsimp only at hSw); first | (go_simp; done) | (go_simp; with_reducible rfl))
      try simp only [Act.put, List.setIfInBounds_toArray, List.set_cons_zero, List.set_cons_succ]
      refine take_op (i := 3) 25 (v := ?_) rfl rfl (by kernel_rfl) (by kernel_rfl) (by kernel_rfl) (fun _ _ _ h => h) (Or.inl ⟨by rfl, ?_⟩) (by assumption) ?_
      rotate_left
      · (intro w hSw; (try dsimp only at hSw); first | (go_simp; done) | (go_simp; with_reducible rfl))
      try simp only [Act.put, List.setIfInBounds_toArray, List.set_cons_zero, List.set_cons_succ]
      refine take_op (i := 4) 26 (v := ?_) rfl rfl (by kernel_rfl) (by kernel_rfl) (by kernel_rfl) (fun _ _ _ h => h) (Or.inl ⟨by rfl, ?_⟩) (by assumption) ?_
      rotate_left
      · (intro w hSw; (try dsimp only at hSw); first | (go_simp; done) | (go_simp; with_reducible rfl))
      try simp only [Act.put, List.setIfInBounds_toArray, List.set_cons_zero, List.set_cons_succ]
      refine take_op (i := 5) 27 (v := ?_) rfl rfl (by kernel_rfl) (by kernel_rfl) (by kernel_rfl) (fun _ _ _ h => h) (Or.inl ⟨by rfl, ?_⟩) (by assumption) ?_
      rotate_left
      · (intro w hSw; (try dsimp only at hSw); first | (go_simp; done) | (go_simp; with_reducible rfl))
      try simp only [Act.put, List.setIfInBounds_toArray, List.set_cons_zero, List.set_cons_succ]
      refine take_op (i := 6) 28 (v := ?_) rfl rfl (by kernel_rfl) (by kernel_rfl) (by kernel_rfl) (fun _ _ _ h => h) (Or.inl ⟨by rfl, ?_⟩) (by assumption) ?_
      rotate_left
      · (intro w hSw; (try dsimp only at hSw); first | (go_simp; done) | (go_simp; with_reducible rfl))
      try simp only [Act.put, List.setIfInBounds_toArray, List.set_cons_zero, List.set_cons_succ]
      refine take_op (i := 7) 29 (v := ?_) rfl rfl (by kernel_rfl) (by kernel_rfl) (by kernel_rfl) (fun _ _ _ h => h) (Or.inl ⟨by rfl, ?_⟩) (by assumption) ?_
      rotate_left
      · (intro w hSw; (try dsimp only at hSw); first | (go_simp; done) | (go_simp; with_reducible rfl))
      try simp only [Act.put, List.setIfInBounds_toArray, List.set_cons_zero, List.set_cons_succ]
      refine take_op (i := 8) 30 (v := ?_) rfl rfl (by kernel_rfl) (by kernel_rfl) (by kernel_rfl) (fun _ _ _ h => h) (Or.inl ⟨by rfl, ?_⟩) (by assumption) ?_
      rotate_left
      · (intro w hSw; (try dsimp only at hSw); first | (go_simp; done) | (go_simp; with_reducible rfl))
      try simp only [Act.put, List.setIfInBounds_toArray, List.set_cons_zero, List.set_cons_succ]
      refine wpAnyH_done (by kernel_rfl) ?_ _
      show wpList _ _ _ _ _ _
      go_wp2_with fail
      have hp := (H2.out.below (bdrew (Below.refl _ _))).setBlock (i := i) (HV.out.keep (S := fun _ => False) (Tch.below (bdrew hb2.out)) (fun _ _ _ q => q))
      go_roundw
      case rel =>
        refine ⟨k + 1, by omega, by go_num, ?_, ?_, ?_, ?_⟩
        · rw [hnx.out, ← HI.out]; exact hp.1
        · exact ht.out.then ((Tch.below (S := fun k => k = gb) (bdrew hb2.out)).trans hp.2) (fun j e => .inl (.inr (.inl e)))
        · intro i2 v2 k2 hi2 hc2 hk2
          by_cases e : i2 = i
          · subst e
            obtain ⟨vals2, hvv2, hvl2, _⟩ := H2.out.row
            dsimp only at hvl2
            rw [applyW_length] at hvl2
            have hs := Ob.cell (Ob.set (show Ob w2.drew gb 23 vals2 from hvv2) i2 (.slice C1 4096 c1)) (j := i2) (List.getElem?_set_self (by omega))
            have := hc2.symm.trans hs
            injection this with this
            rw [this] at hk2
            exact hrk.out k2 hk2
          · refine hR.out.1 i2 v2 k2 hi2 ?_ hk2
            have hne : (w2.drew.setCell ⟨gb, i, none⟩ (.slice C1 4096 c1)).cell? ⟨gb, i2, none⟩ = w2.cell? ⟨gb, i2, none⟩ := cell_set_ne (w := w2.drew) (fun q => e q.symm)
            exact ((cell_block (hb2.out.block gb (by obtain ⟨_, hgo, _⟩ := hv.out.row; exact hgo.lt)) i2).symm.trans hne.symm).trans hc2
        · refine hR.out.2.kept (fun k2 hk2 => ?_)
          have hne := (ws_ne hv.out k2 hk2).2
          show (w2.setCell ⟨gb, i, none⟩ (.slice C1 4096 c1)).heap[k2]? = _
          rw [Below.heap_setCell _ _ _ _ (by simpa using hne)]
          exact hb2.out.block k2 (by obtain ⟨qs, _, q2, _⟩ := hv.out.wr; exact (World.ownsRow.lt q2 k2 hk2).2)
      case measure => simp [intOf]; omega
    · obtain rfl : k = m := by omega
      have hc := Lib.hid hv.out.clear
      have fz := hv.out.obj.frozen 1
      have k1 := hv.out.c1
      go_wp2_with fail
      go_ret
      refine ⟨rfl, ?_, ht.out.trans (hc.out.2.mono (fun k _ e => .inl e)), by rw [← DB.out]; exact hR.out.1.kept (hc.out.2.block gb (by obtain ⟨_, hgo, _⟩ := hv.out.row; exact hgo.lt) (gb_ne hv.out))⟩
      have := hc.out.1
      rw [List.take_of_length_le (by rw [← HM.out]; exact Nat.le_refl _)] at this
      exact this
end
end Go.Proofs.Ytobnomlbkhkodaa.Y
