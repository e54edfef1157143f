/-
  SnapshotNone's walk.
-/
import Derived.Test.YtlfplcidgccgdaaN6
set_option linter.unusedVariables false
set_option linter.unusedSimpArgs false
namespace Go.Proofs.Ytlfplcidgccgdaa.Y
open Go.RowKit Go.Maps
attribute [local go_sem ↓] Go.wp_at_zero Go.wp_at_succ

/-- A table that New did not make. -/
def NoneT (w : World) (p : Option Addr) : Prop := p = none ∨ ∃ g, p = some ⟨g, 0, none⟩ ∧ Ob w g 102 [.int .i64 0, .int .i64 0, .map none, .map none, .map none, .map none, .int .i64 0]
section
variable {w : World} {p : Option Addr}
theorem NoneT.below {w1 : World} (h : NoneT w p) (hb : Below w.heap.size w w1) : NoneT w1 p := by
  rcases h with h | ⟨g, e, h⟩
  · exact .inl h
  · exact .inr ⟨g, e, h.below hb⟩
theorem tnone_yes (h : NoneT w p) : Calls Try.prog 66 #[.pointer p] w fun e w' => e = .returned (.bool true) ∧ w = w' := by
  have q : ∀ (w : World) (r : Option Nat), (binOp .eql 100 (.map r) (.map none)).run Try.prog w = .ok (.bool r.isNone) w := fun w r => run_eql_map_nil w _ _ _ r Try.underlying100
  rcases h with rfl | ⟨g, rfl, h⟩
  · go_enter Try.func66, Try.ntmps66
    go_wp2
    go_ret
    exact ⟨rfl, rfl⟩
  · have c := h.cell (j := 2) rfl
    clear h
    go_enter Try.func66, Try.ntmps66
    go_wp2
    go_ret
    exact ⟨rfl, rfl⟩
theorem tnext_none (h : NoneT w p) : Calls Try.prog 17 #[.pointer p] w fun e w' => e = .returned (.int .i64 0) ∧ w = w' := by
  have H := Lib.hid h
  clear h
  go_enter Try.func17, Try.ntmps17
  go_wp2_with fail
  refine (tnone_yes H.out).mono ?_
  rintro e w' ⟨rfl, rfl⟩
  go_wp2_with fail
  go_ret
  exact ⟨rfl, rfl⟩
theorem tbegin_none (h : NoneT w p) : Calls Try.prog 18 #[.pointer p] w fun e w' => e = .returned (.tuple #[.int .i64 0, .int .i64 1]) ∧ w = w' := by
  have H := Lib.hid h
  clear h
  go_enter Try.func18, Try.ntmps18
  go_wp2_with fail
  refine (tnone_yes H.out).mono ?_
  rintro e w' ⟨rfl, rfl⟩
  go_wp2_with fail
  go_ret2
  exact ⟨rfl, rfl⟩
theorem twrong_none (h : NoneT w p) (tx : Int) : Calls Try.prog 69 #[.pointer p, .int .i64 tx] w fun e w' => e = .returned (.int .i64 1) ∧ w = w' := by
  have H := Lib.hid h
  clear h
  go_enter Try.func69, Try.ntmps69
  go_wp2_with fail
  refine (tnone_yes H.out).mono ?_
  rintro e w' ⟨rfl, rfl⟩
  go_wp2_with fail
  go_ret
  exact ⟨rfl, rfl⟩
theorem tisOpen_none (h : NoneT w p) (tx : Int) : Calls Try.prog 24 #[.pointer p, .int .i64 tx] w fun e w' => e = .returned (.bool false) ∧ w = w' := by
  have H := Lib.hid h
  clear h
  go_enter Try.func24, Try.ntmps24
  go_wp2_with fail
  refine (tnone_yes H.out).mono ?_
  rintro e w' ⟨rfl, rfl⟩
  go_wp2_with fail
  go_ret
  exact ⟨rfl, rfl⟩
theorem tcommit_none (h : NoneT w p) (tx : Int) : Calls Try.prog 19 #[.pointer p, .int .i64 tx] w fun e w' => e = .returned (.int .i64 1) ∧ w = w' := by
  have H := Lib.hid h
  clear h
  go_enter Try.func19, Try.ntmps19
  go_wp2_with fail
  refine (twrong_none H.out tx).mono ?_
  rintro e w' ⟨rfl, rfl⟩
  go_wp2_with fail
  go_ret
  exact ⟨rfl, rfl⟩
theorem tabort_none (h : NoneT w p) (tx : Int) : Calls Try.prog 20 #[.pointer p, .int .i64 tx] w fun e w' => e = .returned (.int .i64 1) ∧ w = w' := by
  have H := Lib.hid h
  clear h
  go_enter Try.func20, Try.ntmps20
  go_wp2_with fail
  refine (twrong_none H.out tx).mono ?_
  rintro e w' ⟨rfl, rfl⟩
  go_wp2_with fail
  go_ret
  exact ⟨rfl, rfl⟩
theorem tkill_none (h : NoneT w p) (tx : Int) : Calls Try.prog 21 #[.pointer p, .int .i64 tx] w fun e w' => e = .returned (.int .i64 1) ∧ w = w' := by
  have H := Lib.hid h
  clear h
  go_enter Try.func21, Try.ntmps21
  go_wp2_with fail
  refine (twrong_none H.out tx).mono ?_
  rintro e w' ⟨rfl, rfl⟩
  go_wp2_with fail
  go_ret
  exact ⟨rfl, rfl⟩
theorem tconflict_none (h : NoneT w p) (tx x : Int) : Calls Try.prog 61 #[.pointer p, .int .i64 tx, .int .i64 x] w fun e w' => e = .returned (.int .i64 1) ∧ w = w' := by
  have H := Lib.hid h
  clear h
  go_enter Try.func61, Try.ntmps61
  go_wp2_with fail
  refine (twrong_none H.out tx).mono ?_
  rintro e w' ⟨rfl, rfl⟩
  go_wp2_with fail
  go_ret
  exact ⟨rfl, rfl⟩
theorem tvisible_none (h : NoneT w p) (tx x : Int) : Calls Try.prog 22 #[.pointer p, .int .i64 tx, .int .i64 x] w fun e w' => e = .returned (.bool false) ∧ w = w' := by
  have H := Lib.hid h
  clear h
  go_enter Try.func22, Try.ntmps22
  go_wp2_with fail
  refine (tisOpen_none H.out tx).mono ?_
  rintro e w' ⟨rfl, rfl⟩
  go_wp2_with fail
  go_ret
  exact ⟨rfl, rfl⟩
theorem ttoAll_none (h : NoneT w p) (tx : Int) : Calls Try.prog 62 #[.pointer p, .int .i64 tx] w fun e w' => e = .returned (.bool false) ∧ w = w' := by
  have H := Lib.hid h
  clear h
  go_enter Try.func62, Try.ntmps62
  go_wp2_with fail
  refine (tnone_yes H.out).mono ?_
  rintro e w' ⟨rfl, rfl⟩
  go_wp2_with fail
  go_ret
  exact ⟨rfl, rfl⟩
theorem topen_none (h : NoneT w p) : Calls Try.prog 60 #[.pointer p] w fun e w' => e = .returned (.slice none 0 0) ∧ w = w' := by
  have H := Lib.hid h
  clear h
  go_enter Try.func60, Try.ntmps60
  go_wp2_with fail
  refine (tnone_yes H.out).mono ?_
  rintro e w' ⟨rfl, rfl⟩
  go_wp2_with fail
  go_ret
  exact ⟨rfl, rfl⟩
theorem tdead_none (h : NoneT w p) : Calls Try.prog 63 #[.pointer p] w fun e w' => e = .returned (.slice none 0 0) ∧ w = w' := by
  have H := Lib.hid h
  clear h
  go_enter Try.func63, Try.ntmps63
  go_wp2_with fail
  refine (tnone_yes H.out).mono ?_
  rintro e w' ⟨rfl, rfl⟩
  go_wp2_with fail
  go_ret
  exact ⟨rfl, rfl⟩
theorem tbury_none (h : NoneT w p) : Calls Try.prog 64 #[.pointer p] w fun e w' => e = .returned (.slice none 0 0) ∧ w = w' := by
  have H := Lib.hid h
  clear h
  go_enter Try.func64, Try.ntmps64
  go_wp2_with fail
  refine (tdead_none H.out).mono ?_
  rintro e w' ⟨rfl, rfl⟩
  go_wp2_with fail
  go_loop [10] (fun i => i = .int .i64 0) (fun _ => 0)
  case atStart => rfl
  case round =>
    subst hrel
    go_wp2_with fail
    go_ret
    exact ⟨rfl, rfl⟩
end
set_option maxHeartbeats 3200000 in
set_option maxRecDepth 100000 in
theorem snapshotNone_walk (tx x : Int) (w : World) (v0 : (Lit.int .i64 tx).wf = true) (v1 : (Lit.int .i64 x).wf = true) : Calls Try.prog 14 #[.int .i64 tx, .int .i64 x] w fun e w' => e = .returned (.bool true) ∧ Below w.heap.size w w' := by
  clear v0 v1
  go_enter Try.func14, Try.ntmps14
  go_wp2_with fail
  obtain ⟨w2, hw2⟩ : ∃ w2, w2 = (w.alloc (.cells #[.int .i64 0, .int .i64 0, .map none, .map none, .map none, .map none, .int .i64 0] 102)).alloc (.cells #[.pointer none, .pointer (some ⟨w.heap.size, 0, none⟩)] 23) := ⟨_, rfl⟩
  have b2 : Below w.heap.size w w2 := by rw [hw2]; exact balloc (balloc (Below.refl _ _) _) _
  have oT : Ob w2 w.heap.size 102 [.int .i64 0, .int .i64 0, .map none, .map none, .map none, .map none, .int .i64 0] := by rw [hw2]; exact (Ob.new w _ _).below (balloc (Below.refl _ _) _)
  have oL : Ob w2 (w.heap.size + 1) 23 [.pointer none, .pointer (some ⟨w.heap.size, 0, none⟩)] := by
    rw [hw2]
    have := Ob.new (w.alloc (.cells #[.int .i64 0, .int .i64 0, .map none, .map none, .map none, .map none, .int .i64 0] 102)) 23 [.pointer none, .pointer (some ⟨w.heap.size, 0, none⟩)]
    rw [World.size_alloc] at this
    exact this
  rw [← hw2]
  have OT := Lib.hid oT
  have B2 := Lib.hid b2
  have OL := Lib.hid oL
  clear hw2 oT b2 oL
  go_loopw [15] (fun i wr => ∃ k : Nat, k ≤ 2 ∧ i = .int .i64 k ∧ wr = w2) (fun i _ => 2 - (intOf i).toNat)
  case atStart => exact ⟨0, by decide, rfl, rfl⟩
  case round =>
    obtain ⟨k, hk, rfl, rfl⟩ := hrel
    by_cases hlt : k < 2
    · obtain ⟨q, hq, hc⟩ : ∃ q, NoneT wr q ∧ wr.cell? ⟨w.heap.size + 1, k, none⟩ = some (.pointer q) := by
        match k, hlt with
        | 0, _ => exact ⟨none, .inl rfl, OL.out.cell rfl⟩
        | 1, _ => exact ⟨_, .inr ⟨_, rfl, OT.out⟩, OL.out.cell rfl⟩
      have HQ := Lib.hid hq
      have z0 : (0 : Int) ≤ (k : Int) := by omega
      have z1 : (k : Int) < 2 := by omega
      clear hq
      go_wp2_with fail
      refine (tbegin_none HQ.out).mono ?_
      rintro e w' ⟨rfl, rfl⟩
      go_wp2_with fail
      refine (tcommit_none HQ.out tx).mono ?_
      rintro e w' ⟨rfl, rfl⟩
      go_wp2_with fail
      refine (tabort_none HQ.out tx).mono ?_
      rintro e w' ⟨rfl, rfl⟩
      go_wp2_with fail
      refine (tkill_none HQ.out tx).mono ?_
      rintro e w' ⟨rfl, rfl⟩
      go_wp2_with fail
      refine (tconflict_none HQ.out tx x).mono ?_
      rintro e w' ⟨rfl, rfl⟩
      go_wp2_with fail
      refine (tisOpen_none HQ.out tx).mono ?_
      rintro e w' ⟨rfl, rfl⟩
      go_wp2_with fail
      refine (tvisible_none HQ.out tx x).mono ?_
      rintro e w' ⟨rfl, rfl⟩
      go_wp2_with fail
      refine (ttoAll_none HQ.out x).mono ?_
      rintro e w' ⟨rfl, rfl⟩
      go_wp2_with fail
      refine (topen_none HQ.out).mono ?_
      rintro e w' ⟨rfl, rfl⟩
      go_wp2_with fail
      refine (tdead_none HQ.out).mono ?_
      rintro e w' ⟨rfl, rfl⟩
      go_wp2_with fail
      refine (tbury_none HQ.out).mono ?_
      rintro e w' ⟨rfl, rfl⟩
      go_wp2_with fail
      refine (tnext_none HQ.out).mono ?_
      rintro e w' ⟨rfl, rfl⟩
      go_wp2_with fail
      go_roundw
      case rel => exact ⟨k + 1, by omega, by go_num, trivial⟩
      case measure => simp [intOf]; omega
    · obtain rfl : k = 2 := by omega
      go_wp2_with fail
      refine (awake14 (w := _)).mono ?_
      rintro e wz ⟨rfl, hb⟩
      have BZ := Lib.hid (bthen B2.out hb)
      clear hb
      go_wp2_with fail
      go_ret
      exact ⟨rfl, BZ.out⟩
end Go.Proofs.Ytlfplcidgccgdaa.Y
