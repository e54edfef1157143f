/-
  package snapshot: Commit, Abort, Kill, place, Visible, Conflict.
-/
import Derived.Test.YtlfplcidgccgdaaN2
set_option linter.unusedVariables false
set_option linter.unusedSimpArgs false
namespace Go.Proofs.Ytlfplcidgccgdaa.Y
open Go.RowKit Go.Maps
attribute [local go_sem ↓] Go.wp_at_zero Go.wp_at_succ

section
variable {w : World} {g bo bc bd bg : Nat} {s : TS}
theorem begin_full (h : TableAt w g bo bc bd bg s) (h16 : s.so = 16) : Calls Try.prog 18 #[.pointer (some ⟨g, 0, none⟩)] w fun e w' => e = .returned (.tuple #[.int .i64 0, .int .i64 5]) ∧ w = w' := by
  have H := Lib.hid h
  have c := h.c2
  have l := h.mo.len 3
  rw [h16] at l
  have z2 : decide ((16 : Int) ≤ ((16 : Nat) : Int)) = true := decide_eq_true (by omega)
  clear h h16
  go_enter Try.func18, Try.ntmps18
  go_wp2_with fail
  refine (tnone_any H.out).mono ?_
  rintro e w' ⟨rfl, rfl⟩
  go_wp2_with fail
  go_ret2
  exact ⟨rfl, rfl⟩
theorem commit_bad (h : TableAt w g bo bc bd bg s) (tx : Int) (hx : wf64 tx) (ho : s.op tx = none) : Calls Try.prog 19 #[.pointer (some ⟨g, 0, none⟩), .int .i64 tx] w fun e w' => e = .returned (.int .i64 9) ∧ w = w' := by
  have H := Lib.hid h
  have K := Lib.hid (twrong_any h tx hx)
  have e9 : wrongT s tx = 9 := by unfold wrongT; rw [ho]; rfl
  rw [e9] at K
  clear h hx ho e9
  go_enter Try.func19, Try.ntmps19
  go_wp2_with fail
  refine K.out.mono ?_
  rintro e w' ⟨rfl, rfl⟩
  go_wp2_with fail
  go_ret
  exact ⟨rfl, rfl⟩
theorem abort_bad (h : TableAt w g bo bc bd bg s) (tx : Int) (hx : wf64 tx) (ho : s.op tx = none) : Calls Try.prog 20 #[.pointer (some ⟨g, 0, none⟩), .int .i64 tx] w fun e w' => e = .returned (.int .i64 9) ∧ w = w' := by
  have H := Lib.hid h
  have K := Lib.hid (twrong_any h tx hx)
  have e9 : wrongT s tx = 9 := by unfold wrongT; rw [ho]; rfl
  rw [e9] at K
  clear h hx ho e9
  go_enter Try.func20, Try.ntmps20
  go_wp2_with fail
  refine K.out.mono ?_
  rintro e w' ⟨rfl, rfl⟩
  go_wp2_with fail
  go_ret
  exact ⟨rfl, rfl⟩
theorem kill_bad (h : TableAt w g bo bc bd bg s) (tx : Int) (hx : wf64 tx) (ho : s.op tx = none) : Calls Try.prog 21 #[.pointer (some ⟨g, 0, none⟩), .int .i64 tx] w fun e w' => e = .returned (.int .i64 9) ∧ w = w' := by
  have H := Lib.hid h
  have K := Lib.hid (twrong_any h tx hx)
  have e9 : wrongT s tx = 9 := by unfold wrongT; rw [ho]; rfl
  rw [e9] at K
  clear h hx ho e9
  go_enter Try.func21, Try.ntmps21
  go_wp2_with fail
  refine K.out.mono ?_
  rintro e w' ⟨rfl, rfl⟩
  go_wp2_with fail
  go_ret
  exact ⟨rfl, rfl⟩
def comS (s : TS) (tx : Int) : TS := { s with op := updM s.op tx none, so := s.so - 1, last := s.last + 1, cm := updM s.cm tx (some (s.last + 1)), sc := if (s.cm tx).isSome then s.sc else s.sc + 1 }
theorem so_pos {s : TS} (h : TableAt w g bo bc bd bg s) {tx p : Int} (hx : wf64 tx) (ho : s.op tx = some p) : 1 ≤ s.so := by
  obtain ⟨D, h1, h2, h3⟩ := h.mo
  have hh := (h3 tx hx).1
  rw [ho] at hh
  have hd := size_del (k := .int .i64 tx) (h1.tidy law_int)
  rw [hh, h2] at hd
  simp at hd
  omega
theorem ok_end {s : TS} (h : TOk s) (hp : 1 ≤ s.so) {tx : Int} {d : Int} (hd : 0 ≤ d ∧ d ≤ 1) (M : Int → Option Int) (n : Nat) (M2 : Int → Option Int) (n2 : Nat) (hn2 : n2 ≤ 64) (M3 : Int → Option Int) (n3 : Nat) : TOk { s with op := updM s.op tx none, so := s.so - 1, last := s.last + d, cm := M, sc := n, dd := M2, sd := n2, gn := M3, sg := n3 } := by
  have b1 := h.room
  have b2 := h.l0
  have b3 := h.so16
  refine ⟨h.f1, h.fn, h.nm, by dsimp only; omega, by dsimp only; omega, fun k p e => ?_, by dsimp only; omega, hn2⟩
  have e' : updM s.op tx none k = some p := e
  unfold updM at e'
  split at e'
  · cases e'
  · have := h.opk k p e'
    dsimp only
    omega
set_option maxHeartbeats 1600000 in
set_option maxRecDepth 100000 in
theorem commit_ok (h : TableAt w g bo bc bd bg s) (tx p : Int) (hx : wf64 tx) (ho : s.op tx = some p) (hsz : s.sc < 1000000) : Calls Try.prog 19 #[.pointer (some ⟨g, 0, none⟩), .int .i64 tx] w fun e w' => e = .returned (.int .i64 0) ∧ TableAt w' g bo bc bd bg (comS s tx) ∧ Tch (fun k => k = g ∨ k = bo ∨ k = bc) w w' := by
  have H := Lib.hid h
  have K := Lib.hid (twrong_any h tx hx)
  have e0 : wrongT s tx = 0 := by unfold wrongT; rw [ho]; rfl
  rw [e0] at K
  have k2 := h.c2
  have ok := h.ok
  have HO := Lib.hid ho
  have HX := Lib.hid hx
  have HS := Lib.hid hsz
  have pk := ok.opk tx p ho
  have b0 := ok.l0
  have b1 := ok.room
  have b2 := ok.nm
  have b3 := ok.f1
  have b4 := ok.fn
  have WL : Hid (wf64 (s.last + 1)) := ⟨by omega, by omega⟩
  have b5 : s.last < 4611686018427387904 := by omega
  have z1 : IntKind.i64.wrap (s.last + 1) = s.last + 1 := by rw [IntKind.wrap_i64]; omega
  have hne := map_ob h.mo h.obj
  clear h hx ho e0 ok pk b1 b2 b3 b4 hsz
  go_enter Try.func19, Try.ntmps19
  go_wp2_with fail
  refine K.out.mono ?_
  rintro e w' ⟨rfl, rfl⟩
  go_upto_region 4 with (fail)
  go_wp2_with (at_delete; refine wpList_del_MI rfl (.tmp 15) (.tmp 16) rfl bo rfl H.out.mo tx rfl HX.out ?_; intro w1 hm1 ht1; have M1 := Lib.hid hm1; have T1 := Lib.hid ht1; have O1 := Lib.hid (ht1.ob H.out.obj (fun e => hne e.symm)); have a6 := O1.out.cell (j := 6) rfl; have f6 := O1.out.frozen 6; clear hm1 ht1)
  have S2 := Lib.hid (O1.out.set 6 (.int .i64 (s.last + 1)))
  have T2 : Hid (Tch (fun k => k = g) w1 (w1.setCell ⟨g, 6, none⟩ (.int .i64 (s.last + 1)))) := (Tch.refl _ _).grown (set_grown _ _ _ _) (fun j e => .inl (by injection e with e; exact e.symm))
  have hc1 := H.out.mc.kept (T1.out.block _ H.out.mc.lt (fun e => H.out.oc e.symm))
  have hg1 := H.out.mg.kept (T1.out.block _ H.out.mg.lt (fun e => H.out.og e.symm))
  have hd1 := H.out.md.kept (T1.out.block _ H.out.md.lt (fun e => H.out.od e.symm))
  have M2 := Lib.hid (M1.out.kept (T2.out.block _ M1.out.lt hne))
  have C2 := Lib.hid (hc1.kept (T2.out.block _ hc1.lt (map_ob H.out.mc H.out.obj)))
  have D2 := Lib.hid (hd1.kept (T2.out.block _ hd1.lt (map_ob H.out.md H.out.obj)))
  have G2 := Lib.hid (hg1.kept (T2.out.block _ hg1.lt (map_ob H.out.mg H.out.obj)))
  have T12 : Hid (Tch (fun k => k = g ∨ k = bo) w (w1.setCell ⟨g, 6, none⟩ (.int .i64 (s.last + 1)))) := (T1.out.mono (fun k _ e => .inr e)).trans (T2.out.mono (fun k _ e => .inl e))
  clear hc1 hg1 hd1
  generalize w1.setCell ⟨g, 6, none⟩ (.int .i64 (s.last + 1)) = w2 at *
  have k3 : w2.cell? ⟨g, 3, none⟩ = some (.map (some bc)) := S2.out.cell rfl
  have k6 : w2.cell? ⟨g, 6, none⟩ = some (.int .i64 (s.last + 1)) := S2.out.cell rfl
  go_upto_region 6 with (fail)
  refine region_popN 9 (S := (fun w' : World => w'.cell? ⟨g, 3, none⟩ = some (.map (some bc)) ∧ w'.cell? ⟨g, 6, none⟩ = some (.int .i64 (s.last + 1)))) (by simp only [List.take_succ_cons, List.take_zero]; rfl) (by simp only [List.drop_succ_cons, List.drop_zero]; rfl) (by kernel_rfl) (by kernel_rfl) rfl (by kernel_rfl) (by kernel_rfl) (⟨k3, k6⟩) (fun hHeld => ?_)
  refine take_op (i := 0) 24 (v := ?_) rfl rfl (by kernel_rfl) (by kernel_rfl) (by kernel_rfl) (fun _ _ _ h => h) (Or.inl ⟨by rfl, ?_⟩) (by assumption) ?_
  rotate_left
  · (intro w hSw; (try dsimp only at hSw); first | (go_simp; done) | (go_simp; with_reducible rfl))
  try simp only [Act.put, List.setIfInBounds_toArray, List.set_cons_zero, List.set_cons_succ]
  refine take_op (i := 1) 25 (v := ?_) rfl rfl (by kernel_rfl) (by kernel_rfl) (by kernel_rfl) (fun _ _ _ h => h) (Or.inl ⟨by rfl, ?_⟩) (by assumption) ?_
  rotate_left
  · (intro w hSw; (try dsimp only at hSw); first | (go_simp; done) | (go_simp; with_reducible rfl))
  try simp only [Act.put, List.setIfInBounds_toArray, List.set_cons_zero, List.set_cons_succ]
  refine take_op (i := 2) 26 (v := ?_) rfl rfl (by kernel_rfl) (by kernel_rfl) (by kernel_rfl) (fun _ _ _ h => h) (Or.inl ⟨by rfl, ?_⟩) (by assumption) ?_
  rotate_left
  · (intro w hSw; (try dsimp only at hSw); first | (go_simp; done) | (go_simp; with_reducible rfl))
  try simp only [Act.put, List.setIfInBounds_toArray, List.set_cons_zero, List.set_cons_succ]
  refine take_op (i := 3) 27 (v := ?_) rfl rfl (by kernel_rfl) (by kernel_rfl) (by kernel_rfl) (fun _ _ _ h => h) (Or.inl ⟨by rfl, ?_⟩) (by assumption) ?_
  rotate_left
  · (intro w hSw; (try dsimp only at hSw); first | (go_simp; done) | (go_simp; with_reducible rfl))
  try simp only [Act.put, List.setIfInBounds_toArray, List.set_cons_zero, List.set_cons_succ]
  refine take_op (i := 4) 28 (v := ?_) rfl rfl (by kernel_rfl) (by kernel_rfl) (by kernel_rfl) (fun _ _ _ h => h) (Or.inl ⟨by rfl, ?_⟩) (by assumption) ?_
  rotate_left
  · (intro w hSw; (try dsimp only at hSw); first | (go_simp; done) | (go_simp; with_reducible rfl))
  try simp only [Act.put, List.setIfInBounds_toArray, List.set_cons_zero, List.set_cons_succ]
  refine take_op (i := 5) 29 (v := ?_) rfl rfl (by kernel_rfl) (by kernel_rfl) (by kernel_rfl) (fun _ _ _ h => h) (Or.inl ⟨by rfl, ?_⟩) (by assumption) ?_
  rotate_left
  · (intro w hSw; (try dsimp only at hSw); first | (go_simp; done) | (go_simp; with_reducible rfl))
  try simp only [Act.put, List.setIfInBounds_toArray, List.set_cons_zero, List.set_cons_succ]
  refine take_op (i := 6) 30 (v := ?_) rfl rfl (by kernel_rfl) (by kernel_rfl) (by kernel_rfl) (fun _ _ _ h => h) (Or.inl ⟨by rfl, ?_⟩) (by assumption) ?_
  rotate_left
  · (intro w hSw; (try dsimp only at hSw); first | (go_simp; done) | (go_simp; with_reducible rfl))
  try simp only [Act.put, List.setIfInBounds_toArray, List.set_cons_zero, List.set_cons_succ]
  refine take_op (i := 7) 31 (v := ?_) rfl rfl (by kernel_rfl) (by kernel_rfl) (by kernel_rfl) (fun _ _ _ h => h) (Or.inl ⟨by rfl, ?_⟩) (by assumption) ?_
  rotate_left
  · (intro w hSw; (try dsimp only at hSw); first | (go_simp; done) | (go_simp; with_reducible rfl))
  try simp only [Act.put, List.setIfInBounds_toArray, List.set_cons_zero, List.set_cons_succ]
  refine take_op (i := 8) 32 (v := ?_) rfl rfl (by kernel_rfl) (by kernel_rfl) (by kernel_rfl) (fun _ _ _ h => h) (Or.inl ⟨by rfl, ?_⟩) (by assumption) ?_
  rotate_left
  · (intro w hSw; (try dsimp only at hSw); first | (go_simp; done) | (go_simp; with_reducible rfl))
  try simp only [Act.put, List.setIfInBounds_toArray, List.set_cons_zero, List.set_cons_succ]
  refine wpAnyH_done (by kernel_rfl) ?_ _
  show wpList _ _ _ _ _ _
  refine wpList_put_MI rfl (.tmp 27) (.tmp 28) (.tmp 32) rfl bc rfl (C2.out.below (bdrew (Below.refl _ _))) tx (s.last + 1) rfl rfl HX.out WL.out (by have := HS.out; simp only [maxLen]; omega) ?_
  intro w3 hm3 ht3
  have M3 := Lib.hid hm3
  have T3 := Lib.hid ht3
  clear hm3 ht3
  go_wp2_with fail
  go_ret
  have TT : Tch (fun k => k = bc) w2 w3 := (Tch.below (S := fun k => k = bc) (bdrew (Below.refl _ _))).trans T3.out
  have hp := so_pos H.out HX.out HO.out
  refine ⟨rfl, ⟨TT.ob S2.out (fun e => map_ob H.out.mc H.out.obj e.symm), M2.out.kept (TT.block _ M2.out.lt H.out.oc) |> fun q => by rw [HO.out] at q; exact q, M3.out, D2.out.kept (TT.block _ D2.out.lt (fun e => H.out.cd e.symm)), G2.out.kept (TT.block _ G2.out.lt (fun e => H.out.cg e.symm)), H.out.oc, H.out.od, H.out.og, H.out.cd, H.out.cg, H.out.dg, ?_⟩, (T12.out.mono (fun k _ e => e.elim .inl (fun e => .inr (.inl e)))).trans (TT.mono (fun k _ e => .inr (.inr e)))⟩
  exact ok_end H.out.ok hp (by omega) _ _ _ _ H.out.ok.sd64 _ _
def aboS (s : TS) (tx : Int) : TS := { s with op := updM s.op tx none, so := s.so - 1, gn := updM s.gn tx (some tx), sg := if (s.gn tx).isSome then s.sg else s.sg + 1 }
def kilS (s : TS) (tx : Int) : TS := { s with op := updM s.op tx none, so := s.so - 1, dd := updM s.dd tx (some tx), sd := if (s.dd tx).isSome then s.sd else s.sd + 1 }
set_option maxHeartbeats 1600000 in
set_option maxRecDepth 100000 in
theorem abort_ok (h : TableAt w g bo bc bd bg s) (tx p : Int) (hx : wf64 tx) (ho : s.op tx = some p) (hsz : s.sg < 1000000) : Calls Try.prog 20 #[.pointer (some ⟨g, 0, none⟩), .int .i64 tx] w fun e w' => e = .returned (.int .i64 0) ∧ TableAt w' g bo bc bd bg (aboS s tx) ∧ Tch (fun k => k = g ∨ k = bo ∨ k = bg) w w' := by
  have H := Lib.hid h
  have K := Lib.hid (twrong_any h tx hx)
  have e0 : wrongT s tx = 0 := by unfold wrongT; rw [ho]; rfl
  rw [e0] at K
  have k2 := h.c2
  have ok := h.ok
  have HO := Lib.hid ho
  have HX := Lib.hid hx
  have HS := Lib.hid hsz
  have pk := ok.opk tx p ho
  have b0 := ok.l0
  have b1 := ok.room
  have b2 := ok.nm
  have b3 := ok.f1
  have b4 := ok.fn
  have WL : Hid (wf64 (s.last + 1)) := ⟨by omega, by omega⟩
  have b5 : s.last < 4611686018427387904 := by omega
  have z1 : IntKind.i64.wrap (s.last + 1) = s.last + 1 := by rw [IntKind.wrap_i64]; omega
  have hne := map_ob h.mo h.obj
  clear h hx ho e0 ok pk b1 b2 b3 b4 hsz
  go_enter Try.func20, Try.ntmps20
  go_wp2_with fail
  refine K.out.mono ?_
  rintro e w' ⟨rfl, rfl⟩
  go_upto_region 4 with (fail)
  go_wp2_with (first | (at_delete; refine wpList_del_MI rfl (.tmp 15) (.tmp 16) rfl bo rfl H.out.mo tx rfl HX.out ?_; intro w1 hm1 ht1; have M1 := Lib.hid hm1; have T1 := Lib.hid ht1; have O1 := Lib.hid (ht1.ob H.out.obj (fun e => hne e.symm)); have a5 := O1.out.cell (j := 5) rfl; have X1 := Lib.hid (H.out.mg.kept (ht1.block _ H.out.mg.lt (fun e => H.out.og e.symm))); clear hm1 ht1) | (at_mapUpdate; refine wpList_put_MI rfl (.tmp 20) (.tmp 21) (.tmp 22) rfl bg rfl X1.out tx tx rfl rfl HX.out HX.out (by have := HS.out; simp only [maxLen]; omega) ?_; intro w3 hm3 ht3; have M3 := Lib.hid hm3; have T3 := Lib.hid ht3; clear hm3 ht3))
  go_ret
  have hp := so_pos H.out HX.out HO.out
  have C1 := H.out.mc.kept (T1.out.block _ H.out.mc.lt (fun e => H.out.oc e.symm))
  have D1 := H.out.md.kept (T1.out.block _ H.out.md.lt (fun e => H.out.od e.symm))
  refine ⟨rfl, ⟨T3.out.ob O1.out (fun e => map_ob H.out.mg H.out.obj e.symm), M1.out.kept (T3.out.block _ M1.out.lt H.out.og) |> fun q => by rw [HO.out] at q; exact q, C1.kept (T3.out.block _ C1.lt H.out.cg), D1.kept (T3.out.block _ D1.lt H.out.dg), M3.out, H.out.oc, H.out.od, H.out.og, H.out.cd, H.out.cg, H.out.dg, ?_⟩, (T1.out.mono (fun k _ e => .inr (.inl e))).trans (T3.out.mono (fun k _ e => .inr (.inr e)))⟩
  have := ok_end H.out.ok hp (d := 0) (tx := tx) (by omega) s.cm s.sc s.dd s.sd H.out.ok.sd64 (updM s.gn tx (some tx)) (if (s.gn tx).isSome then s.sg else s.sg + 1)
  rw [Int.add_zero] at this
  exact this
set_option maxHeartbeats 1600000 in
set_option maxRecDepth 100000 in
theorem kill_ok (h : TableAt w g bo bc bd bg s) (tx p : Int) (hx : wf64 tx) (ho : s.op tx = some p) (hsz : s.sd < 64) : Calls Try.prog 21 #[.pointer (some ⟨g, 0, none⟩), .int .i64 tx] w fun e w' => e = .returned (.int .i64 0) ∧ TableAt w' g bo bc bd bg (kilS s tx) ∧ Tch (fun k => k = g ∨ k = bo ∨ k = bd) w w' := by
  have H := Lib.hid h
  have K := Lib.hid (twrong_any h tx hx)
  have e0 : wrongT s tx = 0 := by unfold wrongT; rw [ho]; rfl
  rw [e0] at K
  have k2 := h.c2
  have ok := h.ok
  have HO := Lib.hid ho
  have HX := Lib.hid hx
  have HS := Lib.hid hsz
  have pk := ok.opk tx p ho
  have b0 := ok.l0
  have b1 := ok.room
  have b2 := ok.nm
  have b3 := ok.f1
  have b4 := ok.fn
  have WL : Hid (wf64 (s.last + 1)) := ⟨by omega, by omega⟩
  have b5 : s.last < 4611686018427387904 := by omega
  have z1 : IntKind.i64.wrap (s.last + 1) = s.last + 1 := by rw [IntKind.wrap_i64]; omega
  have hne := map_ob h.mo h.obj
  clear h hx ho e0 ok pk b1 b2 b3 b4 hsz
  have ln := H.out.md.len 3
  have kd := H.out.c4
  obtain ⟨nd, hnd⟩ : ∃ nd, nd = s.sd := ⟨_, rfl⟩
  rw [← hnd] at ln
  have HND := Lib.hid hnd
  have q64 : decide ((64 : Int) ≤ (nd : Int)) = false := decide_eq_false (by have := HS.out; omega)
  clear hnd
  go_enter Try.func21, Try.ntmps21
  go_wp2_with fail
  refine K.out.mono ?_
  rintro e w' ⟨rfl, rfl⟩
  go_upto_region 6 with (fail)
  go_wp2_with (first | (at_delete; refine wpList_del_MI rfl (.tmp 21) (.tmp 22) rfl bo rfl H.out.mo tx rfl HX.out ?_; intro w1 hm1 ht1; have M1 := Lib.hid hm1; have T1 := Lib.hid ht1; have O1 := Lib.hid (ht1.ob H.out.obj (fun e => hne e.symm)); have a5 := O1.out.cell (j := 4) rfl; have X1 := Lib.hid (H.out.md.kept (ht1.block _ H.out.md.lt (fun e => H.out.od e.symm))); clear hm1 ht1) | (at_mapUpdate; refine wpList_put_MI rfl (.tmp 26) (.tmp 27) (.tmp 28) rfl bd rfl X1.out tx tx rfl rfl HX.out HX.out (by have := HS.out; simp only [maxLen]; omega) ?_; intro w3 hm3 ht3; have M3 := Lib.hid hm3; have T3 := Lib.hid ht3; clear hm3 ht3))
  go_ret
  have hp := so_pos H.out HX.out HO.out
  have C1 := H.out.mc.kept (T1.out.block _ H.out.mc.lt (fun e => H.out.oc e.symm))
  have G1 := H.out.mg.kept (T1.out.block _ H.out.mg.lt (fun e => H.out.og e.symm))
  refine ⟨rfl, ⟨T3.out.ob O1.out (fun e => map_ob H.out.md H.out.obj e.symm), M1.out.kept (T3.out.block _ M1.out.lt H.out.od) |> fun q => by rw [HO.out] at q; exact q, C1.kept (T3.out.block _ C1.lt H.out.cd), M3.out, G1.kept (T3.out.block _ G1.lt (fun e => H.out.dg e.symm)), H.out.oc, H.out.od, H.out.og, H.out.cd, H.out.cg, H.out.dg, ?_⟩, (T1.out.mono (fun k _ e => .inr (.inl e))).trans (T3.out.mono (fun k _ e => .inr (.inr e)))⟩
  have := ok_end H.out.ok hp (d := 0) (tx := tx) (by omega) s.cm s.sc (updM s.dd tx (some tx)) (if (s.dd tx).isSome then s.sd else s.sd + 1) (by have := HS.out; split <;> omega) s.gn s.sg
  rw [Int.add_zero] at this
  exact this
theorem kill_full (h : TableAt w g bo bc bd bg s) (tx p : Int) (hx : wf64 tx) (ho : s.op tx = some p) (h64 : s.sd = 64) : Calls Try.prog 21 #[.pointer (some ⟨g, 0, none⟩), .int .i64 tx] w fun e w' => e = .returned (.int .i64 5) ∧ w = w' := by
  have H := Lib.hid h
  have K := Lib.hid (twrong_any h tx hx)
  have e0 : wrongT s tx = 0 := by unfold wrongT; rw [ho]; rfl
  rw [e0] at K
  have ln := h.md.len 3
  have kd := h.c4
  rw [h64] at ln
  have q64 : decide ((64 : Int) ≤ ((64 : Nat) : Int)) = true := decide_eq_true (by omega)
  clear h hx ho e0 h64
  go_enter Try.func21, Try.ntmps21
  go_wp2_with fail
  refine K.out.mono ?_
  rintro e w' ⟨rfl, rfl⟩
  go_wp2_with fail
  go_ret
  exact ⟨rfl, rfl⟩
end
end Go.Proofs.Ytlfplcidgccgdaa.Y
