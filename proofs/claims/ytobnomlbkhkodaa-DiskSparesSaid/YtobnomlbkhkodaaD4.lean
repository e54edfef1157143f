/-
  package disk: Write, Sync.
-/
import Derived.Test.YtobnomlbkhkodaaD3
set_option linter.unusedVariables false
set_option linter.unusedSimpArgs false
namespace Go.Proofs.Ytobnomlbkhkodaa.Y
open Go.RowKit
attribute [local go_sem ↓] Go.wp_at_zero Go.wp_at_succ

theorem info_write : (Try.prog.info? 106).map (fun i => (i.zero, i.size, i.bytes)) = some (some (.agg #[.int .i64 0, .slice none 0 0]), 2, 32) := by kernel_rfl
theorem wflat_length (qs : List (Int × Value)) : (qs.flatMap wcell).length = qs.length * 2 := by
  induction qs with
  | nil => rfl
  | cons q qs ih => simp [List.flatMap_cons, wcell, ih]; omega
theorem wflat_at : ∀ (qs : List (Int × Value)) (i : Nat) (q : Int × Value), qs[i]? = some q → (qs.flatMap wcell)[i * 2]? = some (.int .i64 q.1) ∧ (qs.flatMap wcell)[i * 2 + 1]? = some q.2 := by
  intro qs
  induction qs with
  | nil => intro i q h; simp at h
  | cons a qs ih =>
    intro i q h
    cases i with
    | zero => simp at h; subst h; simp [wcell]
    | succ i =>
      have := ih i q (by simpa using h)
      rw [show (i + 1) * 2 = i * 2 + 1 + 1 from by omega, show i * 2 + 1 + 1 + 1 = (i * 2 + 1) + 1 + 1 from rfl]
      simpa [wcell] using this
section
variable {ops : Array Oper} {o : Oper} {a : Act} {Q : Exit → Act → World → Prop} {w : World}
theorem step_append_write {K : Act → World → Prop} {E : Prop} (hgd : o.guard = none) (s x : Operand)
    (ho : o.op = .call { callee := .builtin .append, args := #[s, x], argTypes := #[90, 90] })
    (base : Nat) (v : Value) (qs : List (Int × Value)) (hs : a.eval s = v) (h : w.ownsRow base 106 2 v qs.length (qs.flatMap wcell)) (p : Int) (u : Value) (hu : u.oneCell' = true) (g : Nat) (hx : a.eval x = .slice (some ⟨g, 0, none⟩) 1 1)
    (hg : w.heap[g]? = some (.cells #[.int .i64 p, u] 106 (0, 0))) (hL : qs.length ≤ 1000000) (hbase : base ≤ w.heap.size)
    (hk : ∀ v' w', w'.ownsRow base 106 2 v' (qs ++ [(p, u)]).length ((qs ++ [(p, u)]).flatMap wcell) → w.grownBy w' v.ownBlock → (v'.ownBlock = v.ownBlock ∨ v'.ownBlock = some w.heap.size) → K (a.put o.dst v') w') :
    if Region.wanted o (yielded ops a.tmps) = true then Oper.wp Try.prog o a w K Q else E := by
  rw [if_pos (by simp [Region.wanted, hgd])]
  obtain ⟨i0, hi, hzz⟩ := Option.map_eq_some_iff.1 info_write
  simp only [Prod.mk.injEq] at hzz
  obtain ⟨hz0, hz1, hz2⟩ := hzz
  have := append_run (P := Try.prog) (w := w) base 90 o.type 106 i0 _ 2 32 Try.underlying90 hi hz0 hz1 hz2 rfl (by decide) v qs.length (qs.flatMap wcell) h (some ⟨g, 0, none⟩) 1 1 [.int .i64 p, u] rfl
    (.inr ⟨_, rfl, fun j x hx => by
      rw [add_plain]
      rw [cell_of_row w g (0 + j) _ _ _ hg, Nat.zero_add]
      match j, hx with
      | 0, hx => simpa using hx
      | 1, hx => simpa using hx
      | (k + 2), hx => simp at hx⟩)
    (by intro x hx; simp at hx; rcases hx with rfl | rfl; rfl; exact hu) (by simp only [maxLen]; omega) (by omega) hbase
  obtain ⟨v', w', hr, hown, hgr, _, hbl⟩ := this
  unfold Oper.wp execOp
  simp only [ho, resolve, invoke, builtin, Sem.run_bind, Sem.run_pure, Result.andThen_ok, List.map_toArray, List.map_cons, List.map_nil, hs, hx, hr]
  refine hk v' w' ?_ hgr hbl
  simpa [wcell] using hown
end
theorem own_slice {w : World} {B : Nat} {e : TypeId} {z n : Nat} {v : Value} {xs : List Value} (h : w.ownsRow B e z v n xs) : ∃ A l c, v = .slice A l c := by
  rcases h.2 with ⟨rfl, _⟩ | ⟨g, cap, cur, rfl, _⟩
  · exact ⟨_, _, _, rfl⟩
  · exact ⟨_, _, _, rfl⟩
theorem own_oneCell {w : World} {B : Nat} {e : TypeId} {z n : Nat} {v : Value} {xs : List Value} (h : w.ownsRow B e z v n xs) : v.oneCell' = true := by
  obtain ⟨A, l, c, rfl⟩ := own_slice h
  rfl
section
variable {w : World} {B g gb : Nat} {ws : Value} {d : DS}
def addW (d : DS) (b : Nat) (xs : List UInt8) : DS := { d with writes := d.writes ++ [(b, xs)] }
/-- One write more. -/
theorem DiskAt.pushed (h : DiskAt w B g gb ws d) {qs : List (Int × Value)} (hq1 : qs.length = d.writes.length) (hq3 : ∀ (i : Nat) (q : Int × Value) (p : Nat × List UInt8), qs[i]? = some q → d.writes[i]? = some p → q.1 = (p.1 : Int) ∧ q.2 ≠ .slice none 0 0 ∧ Own w B q.2 p.2 ∧ p.2.length = 4096 ∧ p.1 < d.blocks.length)
    {b : Nat} {u v' : Value} {xs : List UInt8} (hu : Own w B u xs) (hun : u ≠ .slice none 0 0) (hx : xs.length = 4096) (hb : b < d.blocks.length) (hf : d.writes.length < 1000000) {w1 : World} (hown : w1.ownsRow B 106 2 v' (qs ++ [((b : Int), u)]).length ((qs ++ [((b : Int), u)]).flatMap wcell)) (hgr : w.grownBy w1 ws.ownBlock)
    (hvn : ∀ k, v'.ownBlock = some k → k ≠ g) : DiskAt (w1.setCell ⟨g, 1, none⟩ v') B g gb v' (addW d b xs) ∧ Tch (Foot g gb ws) w (w1.setCell ⟨g, 1, none⟩ v') := by
  have T : Tch (Foot g gb ws) w (w1.setCell ⟨g, 1, none⟩ v') := ((Tch.refl _ w).grown hgr (fun j e => .inl (.inr (.inr e)))).grown (set_grown w1 g 1 v') (fun j e => .inl (.inl (by injection e with e; exact e.symm)))
  have T1 : Tch (fun k => ws.ownBlock = some k) w w1 := (Tch.refl _ w).grown hgr (fun j e => .inl e)
  have hobj : Ob w1 g 97 _ := T1.ob h.obj (fun e => (ws_ne h g e).1 rfl)
  have T2 : Tch (fun k => k = g ∨ ws.ownBlock = some k) w (w1.setCell ⟨g, 1, none⟩ v') := ((Tch.refl _ w).grown hgr (fun j e => .inl (.inr e))).grown (set_grown w1 g 1 v') (fun j e => .inl (.inl (by injection e with e; exact e.symm)))
  have hkeep : ∀ {B' : Nat} {v : Value} {ys : List UInt8}, Own w B' v ys → Own (w1.setCell ⟨g, 1, none⟩ v') B' v ys := fun ho => T.own ho (own_foot h ho)
  refine ⟨⟨hobj.set 1 v', ?_, ?_, h.bg, h.bgb, h.pos, h.many, by simp [addW]; omega, h.arm0, h.fail0⟩, T⟩
  · obtain ⟨vals, hv, hl, hd⟩ := h.row
    refine ⟨vals, T2.ob hv (fun e => e.elim (fun e => gb_ne h e) (fun e => (ws_ne h gb e).2 rfl)), hl, fun i v ys h1 h2 => ?_⟩
    rcases hd i v ys h1 h2 with h | ⟨k1, k2, k3⟩
    · exact .inl h
    · exact .inr ⟨k1, hkeep k2, k3⟩
  · refine ⟨qs ++ [((b : Int), u)], by simp [addW, hq1], ?_, fun i q p hq hp => ?_⟩
    · have T3 : Tch (fun k => k = g) w1 (w1.setCell ⟨g, 1, none⟩ v') := (Tch.refl _ w1).grown (set_grown w1 g 1 v') (fun j e => .inl (by injection e with e; exact e.symm))
      exact T3.rows hown (fun k hk e => hvn k hk e)
    · by_cases hlt : i < qs.length
      · rw [List.getElem?_append_left hlt] at hq
        simp only [addW] at hp
        rw [List.getElem?_append_left (by omega)] at hp
        obtain ⟨e1, e2, e3, e4, e5⟩ := hq3 i q p hq hp
        exact ⟨e1, e2, hkeep e3, e4, e5⟩
      · have hi2 : i = qs.length := by
          have := (List.getElem?_eq_some_iff.1 hq).1
          simp at this
          omega
        subst hi2
        simp only [addW] at hp
        rw [List.getElem?_append_right (Nat.le_refl _)] at hq
        rw [hq1, List.getElem?_append_right (Nat.le_refl _)] at hp
        simp at hq hp
        subst hq; subst hp
        exact ⟨rfl, hun, hkeep hu, hx, hb⟩
theorem write_bad (h : DiskAt w B g gb ws d) (b : Int) {A : Option Addr} {l : Nat} (c : Nat) (hl : l ≤ 140737488555328) (hbad : ¬ (0 ≤ b ∧ b < d.blocks.length) ∨ l ≠ 4096) :
    Calls Try.prog 36 #[.pointer (some ⟨g, 0, none⟩), .int .i64 b, .slice A l c] w fun e w' => e = .returned (.int .i64 2) ∧ w = w' := by
  have H := Lib.hid h
  clear h
  by_cases hb : 0 ≤ b ∧ b < d.blocks.length
  · have hw : Hid (wrongE d b = 0) := by show _ = _; unfold wrongE; rw [if_pos hb]
    have hl4 : l ≠ 4096 := hbad.resolve_left (fun q => q hb)
    have q1 : ((l : Int) != 4096) = true := by rw [bne_iff_ne]; omega
    have q2 : (l != 4096) = true := by rw [bne_iff_ne]; exact hl4
    clear hb hbad hl4
    go_enter Try.func36, Try.ntmps36
    go_wp2_with fail
    refine (wrong_any H.out b).mono ?_
    rintro e w' ⟨rfl, rfl⟩
    rw [hw.out]
    go_wp2_with fail
    go_ret
    exact ⟨rfl, rfl⟩
  · have hw : Hid (wrongE d b = 2) := by show _ = _; unfold wrongE; rw [if_neg hb]
    clear hb hbad
    go_enter Try.func36, Try.ntmps36
    go_wp2_with fail
    refine (wrong_any H.out b).mono ?_
    rintro e w' ⟨rfl, rfl⟩
    rw [hw.out]
    go_wp2_with fail
    go_ret
    exact ⟨rfl, rfl⟩
theorem write_stop (h : DiskAt w B g gb ws d) (b : Nat) {A : Option Addr} (c : Nat) (hb : b < d.blocks.length) (hs : stopE d ≠ 0) :
    Calls Try.prog 36 #[.pointer (some ⟨g, 0, none⟩), .int .i64 b, .slice A 4096 c] w fun e w' => e = .returned (.int .i64 (stopE d)) ∧ DiskAt w' B g gb ws (stopD d) ∧ Tch (fun k => k = g) w w' := by
  have H := Lib.hid h
  have hw : Hid (wrongE d b = 0) := by show _ = _; unfold wrongE; rw [if_pos (by omega)]
  obtain ⟨s, hse⟩ : ∃ s, s = stopE d := ⟨_, rfl⟩
  rw [← hse] at hs ⊢
  have HS := Lib.hid hse
  have q1 : ((s : Int) == 0) = false := by rw [beq_eq_false_iff_ne]; exact hs
  clear h hb hse
  go_enter Try.func36, Try.ntmps36
  go_wp2_with fail
  refine (wrong_any H.out b).mono ?_
  rintro e w' ⟨rfl, rfl⟩
  rw [hw.out]
  go_wp2_with fail
  refine (stopped_any H.out).mono ?_
  rintro e w1 ⟨rfl, h1, t1⟩
  rw [← HS.out]
  have H1 := Lib.hid h1
  have T1 := Lib.hid t1
  clear h1 t1
  go_wp2_with fail
  go_ret
  exact ⟨rfl, H1.out, T1.out⟩
set_option maxHeartbeats 1600000 in
theorem write_ok (h : DiskAt w B g gb ws d) (hB : B ≤ w.heap.size) (b : Nat) {A : Option Addr} {xs : List UInt8} (hx : xs.length = 4096) (c : Nat) (hA : Rd w A xs) (hAn : A ≠ none) (hRd : ∀ w', Tch (fun k => k = g) w w' → Rd w' A xs) (hb : b < d.blocks.length) (hs : stopE d = 0) (hf : d.writes.length < 1000000) :
    Calls Try.prog 36 #[.pointer (some ⟨g, 0, none⟩), .int .i64 b, .slice A 4096 c] w fun e w' => ∃ ws', e = .returned (.int .i64 0) ∧ DiskAt w' B g gb ws' (addW (stopD d) b xs) ∧ Tch (Foot g gb ws) w w' ∧ (∀ k, ws'.ownBlock = some k → ws.ownBlock = some k ∨ w.heap.size ≤ k) := by
  have H := Lib.hid h
  have hw : Hid (wrongE d b = 0) := by show _ = _; unfold wrongE; rw [if_pos (by omega)]
  have HS := Lib.hid hs
  have HX := Lib.hid hx
  have HR := Lib.hid hRd
  have hbl : b < (stopD d).blocks.length := by rw [stopD_blocks]; exact hb
  have hwl : (stopD d).writes.length < 1000000 := by rw [stopD_writes]; exact hf
  clear h hb hs hx hRd hA hf
  go_enter Try.func36, Try.ntmps36
  go_wp2_with fail
  refine (wrong_any H.out b).mono ?_
  rintro e w' ⟨rfl, rfl⟩
  rw [hw.out]
  go_wp2_with fail
  refine (stopped_any H.out).mono ?_
  rintro e w1 ⟨rfl, h1, t1⟩
  rw [HS.out]
  have H1 := Lib.hid h1
  have T1 := Lib.hid t1
  have R1 := Lib.hid (HR.out w1 t1)
  clear h1 t1
  go_wp2_with fail
  refine region_popN 13 (S := (fun w' : World => w'.cell? ⟨g, 1, none⟩ = some ws)) (by simp only [List.take_succ_cons, List.take_zero]; rfl) (by simp only [List.drop_succ_cons, List.drop_zero]; rfl) (by kernel_rfl) (by kernel_rfl) rfl (by kernel_rfl) (by kernel_rfl) (H1.out.c1) (fun hHeld => ?_)
  refine take_op (i := 0) 24 (v := ?_) rfl rfl (by kernel_rfl) (by kernel_rfl) (by kernel_rfl) (fun _ _ _ h => h) (Or.inl ⟨by rfl, ?_⟩) (by assumption) ?_
  rotate_left
  · (intro w hSw; (try dsimp only at hSw); first | (go_simp; done) | (go_simp; with_reducible rfl))
  try simp only [Act.put, List.setIfInBounds_toArray, List.set_cons_zero, List.set_cons_succ]
  refine take_op (i := 1) 25 (v := ?_) rfl rfl (by kernel_rfl) (by kernel_rfl) (by kernel_rfl) (fun _ _ _ h => h) (Or.inl ⟨by rfl, ?_⟩) (by assumption) ?_
  rotate_left
  · (intro w hSw; (try dsimp only at hSw); first | (go_simp; done) | (go_simp; with_reducible rfl))
  try simp only [Act.put, List.setIfInBounds_toArray, List.set_cons_zero, List.set_cons_succ]
  refine take_op (i := 2) 26 (v := ?_) rfl rfl (by kernel_rfl) (by kernel_rfl) (by kernel_rfl) (fun _ _ _ h => h) (Or.inl ⟨by rfl, ?_⟩) (by assumption) ?_
  rotate_left
  · (intro w hSw; (try dsimp only at hSw); first | (go_simp; done) | (go_simp; with_reducible rfl))
  try simp only [Act.put, List.setIfInBounds_toArray, List.set_cons_zero, List.set_cons_succ]
  refine take_op (i := 3) 27 (v := ?_) rfl rfl (by kernel_rfl) (by kernel_rfl) (by kernel_rfl) (fun _ _ _ h => h) (Or.inl ⟨by rfl, ?_⟩) (by assumption) ?_
  rotate_left
  · (intro w hSw; (try dsimp only at hSw); first | (go_simp; done) | (go_simp; with_reducible rfl))
  try simp only [Act.put, List.setIfInBounds_toArray, List.set_cons_zero, List.set_cons_succ]
  refine take_op (i := 4) 28 (v := ?_) rfl rfl (by kernel_rfl) (by kernel_rfl) (by kernel_rfl) (fun _ _ _ h => h) (Or.inl ⟨by rfl, ?_⟩) (by assumption) ?_
  rotate_left
  · (intro w hSw; (try dsimp only at hSw); first | (go_simp; done) | (go_simp; with_reducible rfl))
  try simp only [Act.put, List.setIfInBounds_toArray, List.set_cons_zero, List.set_cons_succ]
  refine take_op (i := 5) 29 (v := ?_) rfl rfl (by kernel_rfl) (by kernel_rfl) (by kernel_rfl) (fun _ _ _ h => h) (Or.inl ⟨by rfl, ?_⟩) (by assumption) ?_
  rotate_left
  · (intro w hSw; (try dsimp only at hSw); first | (go_simp; done) | (go_simp; with_reducible rfl))
  try simp only [Act.put, List.setIfInBounds_toArray, List.set_cons_zero, List.set_cons_succ]
  refine take_op (i := 6) 30 (v := ?_) rfl rfl (by kernel_rfl) (by kernel_rfl) (by kernel_rfl) (fun _ _ _ h => h) (Or.inl ⟨by rfl, ?_⟩) (by assumption) ?_
  rotate_left
  · (intro w hSw; (try dsimp only at hSw); first | (go_simp; done) | (go_simp; with_reducible rfl))
  try simp only [Act.put, List.setIfInBounds_toArray, List.set_cons_zero, List.set_cons_succ]
  refine ready_one 7 (by kernel_rfl) rfl (fun K hK => ?_)
  (go_simp; go_at_call 52; refine (clone_any (w := w1.drew) HX.out _ (show Rd w1.drew A xs from R1.out) (by decide)).mono ?_; rintro e w2 ⟨rv, rfl, hvv, hn, hbb⟩; have HN : Hid (rv ≠ .slice none 0 0) := (fun e => hAn (hn.1 e)); obtain ⟨A2, k2, rfl, _, _, _⟩ := hvv.sliceN HX.out; have OC := Lib.hid (Own.mono hvv (show B ≤ w1.heap.size from Nat.le_trans hB T1.out.size)); have BC : Hid (Below w1.heap.size w1 w2) := bthen (bdrew (Below.refl _ _)) hbb; have H2 := Lib.hid (H1.out.below BC.out); clear hvv hbb hn)
  refine hK.out _ _ ?_ (fun hHeld => ?_)
  · exact H2.out.c1
  clear hK K
  try simp only [Act.put, List.setIfInBounds_toArray, List.set_cons_zero, List.set_cons_succ]
  refine take_op (i := 8) 32 (v := ?_) rfl rfl (by kernel_rfl) (by kernel_rfl) (by kernel_rfl) (fun _ _ _ h => h) (Or.inl ⟨by rfl, ?_⟩) (by assumption) ?_
  rotate_left
  · (intro w hSw; (try dsimp only at hSw); first | (go_simp; done) | (go_simp; with_reducible rfl))
  try simp only [Act.put, List.setIfInBounds_toArray, List.set_cons_zero, List.set_cons_succ]
  refine ready_one 9 (by kernel_rfl) rfl (fun K hK => ?_)
  (go_simp)
  refine hK.out _ _ ?_ (fun hHeld => ?_)
  · exact (H2.out.below (balloc (Below.refl _ _) _)).c1
  clear hK K
  try simp only [Act.put, List.setIfInBounds_toArray, List.set_cons_zero, List.set_cons_succ]
  refine ready_one 10 (by kernel_rfl) rfl (fun K hK => ?_)
  (obtain ⟨qs, hq1, hq2, hq3⟩ := (H2.out.below (balloc (Below.refl _ _) (.cells #[.int .i64 (b : Int), .slice A2 4096 k2] 106))).wr; refine step_append_write rfl (.tmp 28) (.tmp 33) rfl B ws qs rfl hq2 (b : Int) (.slice A2 4096 k2) rfl w2.heap.size rfl (heap_alloc_new _ _) (by rw [hq1]; omega) (Nat.le_trans hB (Nat.le_trans T1.out.size (balloc BC.out _).size)) ?_; intro v3 w3 hown hgr hbl3; have HO := Lib.hid hown; have G3 := Lib.hid hgr; have HB3 := Lib.hid hbl3; have HQ1 := Lib.hid hq1; have HQ3 := Lib.hid hq3; have H3 := Lib.hid (H2.out.below (balloc (Below.refl _ _) (.cells #[.int .i64 (b : Int), .slice A2 4096 k2] 106))); have c3 : w3.cell? ⟨g, 1, none⟩ = some ws := ((Tch.refl (fun k => ws.ownBlock = some k) _).grown hgr (fun j e => .inl e)).ob H3.out.obj (fun e => (ws_ne H3.out g e).1 rfl) |>.cell rfl; have f3 : w3.frozen? ⟨g, 1, none⟩ = false := ((Tch.refl (fun k => ws.ownBlock = some k) _).grown hgr (fun j e => .inl e)).ob H3.out.obj (fun e => (ws_ne H3.out g e).1 rfl) |>.frozen 1; have hone : v3.oneCell' = true := own_oneCell hown; clear hown hgr hbl3 hq1 hq2 hq3)
  refine hK.out _ _ ?_ (fun hHeld => ?_)
  · exact c3
  clear hK K
  try simp only [Act.put, List.setIfInBounds_toArray, List.set_cons_zero, List.set_cons_succ]
  refine take_op (i := 11) 35 (v := ?_) rfl rfl (by kernel_rfl) (by kernel_rfl) (by kernel_rfl) (fun _ _ _ h => h) (Or.inl ⟨by rfl, ?_⟩) (by assumption) ?_
  rotate_left
  · (intro w hSw; (try dsimp only at hSw); first | (go_simp; done) | (go_simp; with_reducible rfl))
  try simp only [Act.put, List.setIfInBounds_toArray, List.set_cons_zero, List.set_cons_succ]
  refine take_op (i := 12) 36 (v := ?_) rfl rfl (by kernel_rfl) (by kernel_rfl) (by kernel_rfl) (fun _ _ _ h => h) (Or.inl ⟨by rfl, ?_⟩) (by assumption) ?_
  rotate_left
  · (intro w hSw; (try dsimp only at hSw); first | (go_simp; done) | (go_simp; with_reducible rfl))
  try simp only [Act.put, List.setIfInBounds_toArray, List.set_cons_zero, List.set_cons_succ]
  refine wpAnyH_done (by kernel_rfl) ?_ _
  show wpList _ _ _ _ _ _
  obtain ⟨A3, l3, k3, rfl⟩ := own_slice HO.out
  go_wp2_with fail
  have OC2 := OC.out.below (balloc (Below.refl _ _) (.cells #[.int .i64 (b : Int), .slice A2 4096 k2] 106))
  have hv3 : ∀ k, (Value.slice A3 l3 k3).ownBlock = some k → k ≠ g := fun k hk e => by
    rcases HB3.out with q | q
    · rw [q] at hk; exact (ws_ne H3.out k hk).1 e
    · rw [hk] at q
      injection q with q
      have := H3.out.obj.lt
      omega
  have hp := H3.out.pushed HQ1.out HQ3.out OC2 HN.out HX.out hbl hwl HO.out G3.out hv3
  go_ret
  refine ⟨_, rfl, hp.1, (T1.out.mono (fun k _ e => .inl e)).then (((Tch.below (S := Foot g gb ws) (balloc BC.out _)).trans hp.2)) (fun j q => .inl q), fun k hk => ?_⟩
  rcases HB3.out with q | q
  · left; rw [q] at hk; exact hk
  · right
    rw [hk] at q
    injection q with q
    have := (balloc BC.out (.cells #[.int .i64 (b : Int), .slice A2 4096 k2] 106)).size
    have := T1.out.size
    omega
end
end Go.Proofs.Ytobnomlbkhkodaa.Y
