/-
  package disk: Sync.
-/
import Derived.Test.YtobnomlbkhkodaaD4
set_option linter.unusedVariables false
set_option linter.unusedSimpArgs false
namespace Go.Proofs.Ytobnomlbkhkodaa.Y
open Go.RowKit
attribute [local go_sem ↓] Go.wp_at_zero Go.wp_at_succ

def applyW (bs : List (List UInt8)) (ws : List (Nat × List UInt8)) : List (List UInt8) := ws.foldl (fun bs p => bs.set p.1 p.2) bs
theorem applyW_length (bs : List (List UInt8)) (ws : List (Nat × List UInt8)) : (applyW bs ws).length = bs.length := by
  unfold applyW
  induction ws generalizing bs with
  | nil => rfl
  | cons p ws ih => rw [List.foldl_cons, ih, List.length_set]
theorem take_at {α : Type} {L : List α} {k : Nat} {p : α} (h : L[k]? = some p) : L.take (k + 1) = L.take k ++ [p] := by
  rw [List.take_add_one, h]
  rfl
theorem applyW_take {bs : List (List UInt8)} {ws : List (Nat × List UInt8)} {k : Nat} {p : Nat × List UInt8} (h : ws[k]? = some p) : applyW bs (ws.take (k + 1)) = (applyW bs (ws.take k)).set p.1 p.2 := by
  rw [take_at h]
  simp [applyW, List.foldl_append]
def syncD (d : DS) : DS := { d with blocks := applyW d.blocks d.writes, writes := [] }
theorem box2 (w : World) (t : TypeId) (a u : Value) : (w.alloc (.cells #[a, u] t)).cell? ⟨w.heap.size, 0, none⟩ = some a ∧ (w.alloc (.cells #[a, u] t)).cell? ⟨w.heap.size, 1, none⟩ = some u :=
  ⟨by rw [cell_of_row _ _ 0 _ _ _ (heap_alloc_new w _)]; rfl, by rw [cell_of_row _ _ 1 _ _ _ (heap_alloc_new w _)]; rfl⟩
section
variable {w : World} {B g gb : Nat} {ws : Value} {d : DS}
/-- A block is set. -/
theorem DiskAt.setBlock (h : DiskAt w B g gb ws d) {i : Nat} {v : Value} {xs : List UInt8} (hv : DataV w B v xs) : DiskAt (w.setCell ⟨gb, i, none⟩ v) B g gb ws { d with blocks := d.blocks.set i xs } ∧ Tch (fun k => k = gb) w (w.setCell ⟨gb, i, none⟩ v) := by
  have T : Tch (fun k => k = gb) w (w.setCell ⟨gb, i, none⟩ v) := (Tch.refl _ w).grown (set_grown w gb i v) (fun j e => .inl (by injection e with e; exact e.symm))
  have hown : ∀ {B' : Nat} {v : Value} {xs : List UInt8}, Own w B' v xs → ∀ k, v.ownBlock = some k → ¬ k = gb := fun ho k hk e => own_foot h ho k hk (.inr (.inl e))
  refine ⟨⟨?_, ?_, ?_, h.bg, h.bgb, by simpa using h.pos, by simpa using h.many, h.few, h.arm0, h.fail0⟩, T⟩
  · have := T.ob h.obj (fun e => gb_ne h e.symm)
    simpa using this
  · obtain ⟨vals, hv1, hl, hd⟩ := h.row
    refine ⟨vals.set i v, hv1.set i v, by simpa using hl, fun j u ys h1 h2 => ?_⟩
    by_cases hij : i = j
    · subst hij
      have hlt : i < vals.length := by simpa using (List.getElem?_eq_some_iff.1 h1).1
      rw [List.getElem?_set_self hlt] at h1
      rw [List.getElem?_set_self (by have := (List.getElem?_eq_some_iff.1 h2).1; simpa using this)] at h2
      injection h1 with h1
      injection h2 with h2
      subst h1; subst h2
      exact hv.keep T hown
    · rw [List.getElem?_set_ne hij] at h1
      rw [List.getElem?_set_ne hij] at h2
      exact (hd j u ys h1 h2).keep T hown
  · obtain ⟨qs, h1, h2, h3⟩ := h.wr
    refine ⟨qs, h1, T.rows h2 (fun k hk e => (ws_ne h k hk).2 e), fun i q p hq hp => ?_⟩
    obtain ⟨e1, e2, e3, e4, e5⟩ := h3 i q p hq hp
    exact ⟨e1, e2, T.own e3 (hown e3), e4, by simpa using e5⟩
/-- No write is left. -/
theorem DiskAt.clear (h : DiskAt w B g gb ws d) : DiskAt (w.setCell ⟨g, 1, none⟩ (.slice none 0 0)) B g gb (.slice none 0 0) { d with writes := [] } ∧ Tch (fun k => k = g) w (w.setCell ⟨g, 1, none⟩ (.slice none 0 0)) := by
  have T : Tch (fun k => k = g) w (w.setCell ⟨g, 1, none⟩ (.slice none 0 0)) := (Tch.refl _ w).grown (set_grown w g 1 _) (fun j e => .inl (by injection e with e; exact e.symm))
  refine ⟨⟨h.obj.set 1 _, ?_, ⟨[], rfl, World.ownsRow_nil _ _ _ _, fun i q p hq => by simp at hq⟩, h.bg, h.bgb, h.pos, h.many, by simp, h.arm0, h.fail0⟩, T⟩
  obtain ⟨vals, hv, hl, hd⟩ := h.row
  exact ⟨vals, T.ob hv (gb_ne h), hl, fun i v xs h1 h2 => (hd i v xs h1 h2).keep T (own_g h)⟩
/-- The write at k. -/
theorem DiskAt.write_at (h : DiskAt w B g gb ws d) {A : Option Addr} {m c : Nat} (hws : ws = .slice A m c) {k : Nat} {p : Nat × List UInt8} (hk : d.writes[k]? = some p) :
    ∃ b o C1 c1, A = some ⟨b, o, none⟩ ∧ w.cell? ⟨b, o + k * 2, none⟩ = some (.int .i64 (p.1 : Int)) ∧ w.cell? ⟨b, o + k * 2 + 1, none⟩ = some (.slice C1 4096 c1) ∧ Value.slice C1 4096 c1 ≠ .slice none 0 0 ∧ Own w B (.slice C1 4096 c1) p.2 ∧ p.2.length = 4096 ∧ p.1 < d.blocks.length := by
  obtain ⟨qs, h1, h2, h3⟩ := h.wr
  have hlt : k < qs.length := by rw [h1]; exact (List.getElem?_eq_some_iff.1 hk).1
  obtain ⟨e1, e2, e3, e4, e5⟩ := h3 k _ p (List.getElem?_eq_getElem hlt) hk
  obtain ⟨f1, f2⟩ := wflat_at qs k _ (List.getElem?_eq_getElem hlt)
  obtain ⟨b, cap, cur, rfl, _, hc, _, hcl, _⟩ : ∃ b cap cur, ws = .slice (some ⟨b, 0, none⟩) qs.length cap ∧ B ≤ b ∧ w.heap[b]? = some (.cells cur 106 (0, 0)) ∧ True ∧ (∀ j x, (qs.flatMap wcell)[j]? = some x → cur[j]? = some x) ∧ True := by
    rcases h2.2 with ⟨_, h0⟩ | ⟨b, cap, cur, e, hb, hh, hr⟩
    · omega
    · refine ⟨b, cap, cur, e, hb, hh, trivial, fun j x hx => ?_, trivial⟩
      rw [← hr.2.2.2] at hx
      have hj := (List.getElem?_eq_some_iff.1 hx).1
      rw [List.getElem?_take_of_lt (by simp at hj; omega)] at hx
      simpa using hx
  injection hws with hA hm hc2
  obtain ⟨C1, c1, e, _⟩ := e3.slice
  rw [e4] at e
  refine ⟨b, 0, C1, c1, hA.symm, ?_, ?_, e ▸ e2, e ▸ e3, e4, e5⟩
  · rw [cell_of_row _ _ _ _ _ _ hc, Nat.zero_add, hcl _ _ f1, e1]
  · rw [cell_of_row _ _ _ _ _ _ hc, Nat.zero_add, hcl _ _ f2, e]
set_option maxHeartbeats 1600000 in
theorem sync_ok (h : DiskAt w B g gb ws d) (hs : stopE d = 0) : Calls Try.prog 33 #[.pointer (some ⟨g, 0, none⟩)] w fun e w' => e = .returned (.int .i64 0) ∧ DiskAt w' B g gb (.slice none 0 0) (syncD (stopD d)) ∧ Tch (Foot g gb ws) w w' := by
  have H := Lib.hid h
  have HS := Lib.hid hs
  obtain ⟨D, hD⟩ : ∃ D, D = stopD d := ⟨_, rfl⟩
  rw [← hD]
  have HD := Lib.hid hD
  clear h hs hD
  go_enter Try.func33, Try.ntmps33
  go_wp2_with fail
  refine (none_any H.out).mono ?_
  rintro e w' ⟨rfl, rfl⟩
  go_wp2_with fail
  refine (stopped_any H.out).mono ?_
  rintro e w1 ⟨rfl, h1, t1⟩
  rw [HS.out]
  rw [← HD.out] at h1
  clear HD HS
  obtain ⟨A, c, hws⟩ := h1.wsForm
  obtain ⟨m, hm⟩ : ∃ m, m = D.writes.length := ⟨_, rfl⟩
  rw [← hm] at hws
  subst hws
  have HM := Lib.hid hm
  have cg := h1.c1
  have hml : m ≤ 1000000 := hm ▸ h1.few
  have H1 := Lib.hid h1
  have T1 := Lib.hid (t1.mono (S' := Foot g gb (.slice A m c)) (fun k _ e => .inl e))
  clear h1 t1 hm H
  go_wp2_with fail
  go_loopw [18] (fun i wr => ∃ k : Nat, k ≤ m ∧ i = .int .i64 k ∧ Hid (DiskAt wr B g gb (.slice A m c) { D with blocks := applyW D.blocks (D.writes.take k) }) ∧ Hid (Tch (Foot g gb (.slice A m c)) w wr)) (fun i _ => m - (intOf i).toNat)
  case atStart => exact ⟨0, Nat.zero_le _, rfl, H1, T1⟩
  case round =>
    obtain ⟨k, hk, rfl, hv, ht⟩ := hrel
    by_cases hlt : k < m
    · have gL := Lib.hid (List.getElem?_eq_getElem (l := D.writes) (i := k) (by rw [← HM.out]; exact hlt))
      generalize D.writes[k]'(by rw [← HM.out]; exact hlt) = p at *
      obtain ⟨b, o, C1, c1, rfl, p0, p1, hne, ho, hl, hb⟩ := hv.out.write_at rfl gL.out
      have HV := Lib.hid (show DataV wr B (.slice C1 4096 c1) p.2 from .inr ⟨hne, ho, hl⟩)
      have hnx := Lib.hid (applyW_take (bs := D.blocks) gL.out)
      have k0 := hv.out.c0
      have hmn := hv.out.many
      dsimp only at k0 hb hmn
      obtain ⟨n, hn⟩ : ∃ n, n = (applyW D.blocks (D.writes.take k)).length := ⟨_, rfl⟩
      rw [← hn] at k0 hb hmn
      obtain ⟨i, hi⟩ : ∃ i, i = p.1 := ⟨_, rfl⟩
      rw [← hi] at p0 hb
      have HI := Lib.hid hi
      have z0 : (0 : Int) ≤ (i : Int) := by omega
      have z1 : (i : Int) < (n : Int) := by omega
      have HN := Lib.hid hn
      clear hne ho hl hn hi
      go_wp2_with fail
      have bx := box2 wr 106 (.int .i64 (i : Int)) (.slice C1 4096 c1)
      have hb2 : Hid (Below wr.heap.size wr (wr.alloc (.cells #[.int .i64 (i : Int), .slice C1 4096 c1] 106))) := balloc (Below.refl _ _) _
      generalize wr.alloc (.cells #[.int .i64 (i : Int), .slice C1 4096 c1] 106) = w2 at *
      have H2 := Lib.hid (hv.out.below hb2.out)
      have fz : w2.frozen? ⟨gb, i, none⟩ = false := by
        obtain ⟨vals, hvv, _⟩ := H2.out.row
        exact hvv.frozen i
      have k2 : w2.cell? ⟨g, 0, none⟩ = some (.slice (some ⟨gb, 0, none⟩) n D.cap) := (hb2.out.cell (World.block_lt_of_cell? wr _ k0)).trans k0
      have e2 : ∃ u, w2.cell? ⟨gb, i, none⟩ = some u := by
        obtain ⟨vals, hvv, hvl, _⟩ := H2.out.row
        exact ⟨_, hvv.cell (List.getElem?_eq_getElem (by refine Nat.lt_of_lt_of_le ?_ hvl; dsimp only; rw [← HN.out]; omega))⟩
      obtain ⟨u2, e2⟩ := e2
      refine region_popN 9 (S := (fun w' : World => w'.cell? ⟨g, 0, none⟩ = some (.slice (some ⟨gb, 0, none⟩) n D.cap) ∧ w'.cell? ⟨wr.heap.size, 0, none⟩ = some (.int .i64 (i : Int)) ∧ w'.cell? ⟨wr.heap.size, 1, none⟩ = some (.slice C1 4096 c1))) (by simp only [List.take_succ_cons, List.take_zero]; rfl) (by simp only [List.drop_succ_cons, List.drop_zero]; rfl) (by kernel_rfl) (by kernel_rfl) rfl (by kernel_rfl) (by kernel_rfl) (⟨k2, bx.1, bx.2⟩) (fun hHeld => ?_)
      refine take_op (i := 0) 22 (v := ?_) rfl rfl (by kernel_rfl) (by kernel_rfl) (by kernel_rfl) (fun _ _ _ h => h) (Or.inl ⟨by rfl, ?_⟩) (by assumption) ?_
      rotate_left
      · (intro w hSw; (try dsimp only at hSw); first | (go_simp; done) | (go_simp; with_reducible rfl))
      try simp only [Act.put, List.setIfInBounds_toArray, List.set_cons_zero, List.set_cons_succ]
      refine take_op (i := 1) 23 (v := ?_) rfl rfl (by kernel_rfl) (by kernel_rfl) (by kernel_rfl) (fun _ _ _ h => h) (Or.inl ⟨by rfl, ?_⟩) (by assumption) ?_
      rotate_left
      · (intro w hSw; (try dsimp only at hSw); first | (go_simp; done) | (go_simp; with_reducible rfl))
      try simp only [Act.put, List.setIfInBounds_toArray, List.set_cons_zero, List.set_cons_succ]
      refine take_op (i := 2) 24 (v := ?_) rfl rfl (by kernel_rfl) (by kernel_rfl) (by kernel_rfl) (fun _ _ _ h => h) (Or.inl ⟨by rfl, ?_⟩) (by assumption) ?_
      rotate_left
      · (intro w hSw; (try dsimp only at hSw); first | (go_simp; done) | (go_simp; with_reducible rfl))
      try simp only [Act.put, List.setIfInBounds_toArray, List.set_cons_zero, List.set_cons_succ]
      refine take_op (i := 3) 25 (v := ?_) rfl rfl (by kernel_rfl) (by kernel_rfl) (by kernel_rfl) (fun _ _ _ h => h) (Or.inl ⟨by rfl, ?_⟩) (by assumption) ?_
      rotate_left
      · (intro w hSw; (try dsimp only at hSw); first | (go_simp; done) | (go_simp; with_reducible rfl))
      try simp only [Act.put, List.setIfInBounds_toArray, List.set_cons_zero, List.set_cons_succ]
      refine take_op (i := 4) 26 (v := ?_) rfl rfl (by kernel_rfl) (by kernel_rfl) (by kernel_rfl) (fun _ _ _ h => h) (Or.inl ⟨by rfl, ?_⟩) (by assumption) ?_
      rotate_left
      · (intro w hSw; (try dsimp only at hSw); first | (go_simp; done) | (go_simp; with_reducible rfl))
      try simp only [Act.put, List.setIfInBounds_toArray, List.set_cons_zero, List.set_cons_succ]
      refine take_op (i := 5) 27 (v := ?_) rfl rfl (by kernel_rfl) (by kernel_rfl) (by kernel_rfl) (fun _ _ _ h => h) (Or.inl ⟨by rfl, ?_⟩) (by assumption) ?_
      rotate_left
      · (intro w hSw; (try dsimp only at hSw); first | (go_simp; done) | (go_simp; with_reducible rfl))
      try simp only [Act.put, List.setIfInBounds_toArray, List.set_cons_zero, List.set_cons_succ]
      refine take_op (i := 6) 28 (v := ?_) rfl rfl (by kernel_rfl) (by kernel_rfl) (by kernel_rfl) (fun _ _ _ h => h) (Or.inl ⟨by rfl, ?_⟩) (by assumption) ?_
      rotate_left
      · (intro w hSw; (try dsimp only at hSw); first | (go_simp; done) | (go_simp; with_reducible rfl))
      try simp only [Act.put, List.setIfInBounds_toArray, List.set_cons_zero, List.set_cons_succ]
      refine take_op (i := 7) 29 (v := ?_) rfl rfl (by kernel_rfl) (by kernel_rfl) (by kernel_rfl) (fun _ _ _ h => h) (Or.inl ⟨by rfl, ?_⟩) (by assumption) ?_
      rotate_left
      · (intro w hSw; (try dsimp only at hSw); first | (go_simp; done) | (go_simp; with_reducible rfl))
      try simp only [Act.put, List.setIfInBounds_toArray, List.set_cons_zero, List.set_cons_succ]
      refine take_op (i := 8) 30 (v := ?_) rfl rfl (by kernel_rfl) (by kernel_rfl) (by kernel_rfl) (fun _ _ _ h => h) (Or.inl ⟨by rfl, ?_⟩) (by assumption) ?_
      rotate_left
      · (intro w hSw; (try dsimp only at hSw); first | (go_simp; done) | (go_simp; with_reducible rfl))
      try simp only [Act.put, List.setIfInBounds_toArray, List.set_cons_zero, List.set_cons_succ]
      refine wpAnyH_done (by kernel_rfl) ?_ _
      show wpList _ _ _ _ _ _
      go_wp2_with fail
      have hp := (H2.out.below (bdrew (Below.refl _ _))).setBlock (i := i) (HV.out.keep (S := fun _ => False) (Tch.below (bdrew hb2.out)) (fun _ _ _ q => q))
      go_roundw
      case rel =>
        refine ⟨k + 1, by omega, by go_num, ?_, ?_⟩
        · rw [hnx.out, ← HI.out]; exact hp.1
        · exact ht.out.then ((Tch.below (S := fun k => k = gb) (bdrew hb2.out)).trans hp.2) (fun j e => .inl (.inr (.inl e)))
      case measure => simp [intOf]; omega
    · obtain rfl : k = m := by omega
      have hc := Lib.hid hv.out.clear
      have fz := hv.out.obj.frozen 1
      have k1 := hv.out.c1
      go_wp2_with fail
      go_ret
      refine ⟨rfl, ?_, ht.out.trans (hc.out.2.mono (fun k _ e => .inl e))⟩
      have := hc.out.1
      rw [List.take_of_length_le (by rw [← HM.out]; exact Nat.le_refl _)] at this
      exact this
theorem sync_stop (h : DiskAt w B g gb ws d) (hs : stopE d ≠ 0) :
    Calls Try.prog 33 #[.pointer (some ⟨g, 0, none⟩)] w fun e w' => e = .returned (.int .i64 (stopE d)) ∧ DiskAt w' B g gb ws (stopD d) ∧ Tch (fun k => k = g) w w' := by
  have H := Lib.hid h
  obtain ⟨s, hse⟩ : ∃ s, s = stopE d := ⟨_, rfl⟩
  rw [← hse] at hs ⊢
  have HS := Lib.hid hse
  have q1 : ((s : Int) != 0) = true := by rw [bne_iff_ne]; exact hs
  clear h hse
  go_enter Try.func33, Try.ntmps33
  go_wp2_with fail
  refine (none_any H.out).mono ?_
  rintro e w' ⟨rfl, rfl⟩
  go_wp2_with fail
  refine (stopped_any H.out).mono ?_
  rintro e w1 ⟨rfl, h1, t1⟩
  rw [← HS.out]
  have H1 := Lib.hid h1
  have T1 := Lib.hid t1
  clear h1 t1
  go_wp2_with fail
  go_ret
  exact ⟨rfl, H1.out, T1.out⟩
end
end Go.Proofs.Ytobnomlbkhkodaa.Y
