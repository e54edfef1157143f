/-
  package disk: stopped, whole, New, Durable, Pending, Blocks, Arm, Fail.
-/
import Derived.Test.YtobnomlbkhkodaaD2
import Derived.Test.YtobnomlbkhkodaaYP
import Derived.Lib.SliceRun
set_option linter.unusedVariables false
set_option linter.unusedSimpArgs false
namespace Go.Proofs.Ytobnomlbkhkodaa.Y
open Go.RowKit
attribute [local go_sem ↓] Go.wp_at_zero Go.wp_at_succ

def stopE (d : DS) : Int := if d.down = true then 6 else if spentB d.arm = true then 6 else if spentB d.fail = true then d.wth else 0
def stopD (d : DS) : DS := if d.down = true then d else { d with down := spentB d.arm, arm := spentV d.arm, fail := spentV d.fail }
theorem stopD_blocks (d : DS) : (stopD d).blocks = d.blocks := by unfold stopD; split <;> rfl
theorem stopD_writes (d : DS) : (stopD d).writes = d.writes := by unfold stopD; split <;> rfl
theorem spentV_range {n : Int} (h : 0 ≤ n ∧ n ≤ 4611686018427387905) : 0 ≤ spentV n ∧ spentV n ≤ 4611686018427387905 := by unfold spentV; split <;> omega
section
variable {w : World} {B g gb : Nat} {ws : Value} {d : DS}
set_option maxHeartbeats 3200000 in
theorem stopped_any (h : DiskAt w B g gb ws d) : Calls Try.prog 57 #[.pointer (some ⟨g, 0, none⟩)] w fun e w' => e = .returned (.int .i64 (stopE d)) ∧ DiskAt w' B g gb ws (stopD d) ∧ Tch (fun k => k = g) w w' := by
  have H := Lib.hid h
  have c2 := h.c2
  have hO := Lib.hid h.obj
  have ha := h.arm0
  have hf := h.fail0
  clear h
  unfold stopE stopD
  cases hd : d.down with
  | true =>
    rw [hd] at c2
    clear hd
    simp only [if_true]
    go_enter Try.func57, Try.ntmps57
    go_wp2_with fail
    go_ret
    exact ⟨rfl, H.out, Tch.refl _ _⟩
  | false =>
    rw [hd] at c2
    have HD := Lib.hid hd
    have hs1 : ∀ k, k = g → k = g := fun _ e => e
    clear hd
    simp only [Bool.false_eq_true, if_false]
    cases ba : spentB d.arm <;> cases bf : spentB d.fail
    · have BA := Lib.hid ba
      have BF := Lib.hid bf
      clear ba bf
      simp only [Bool.false_eq_true, if_false, if_true]
      go_enter Try.func57, Try.ntmps57
      go_wp2_with fail
      refine wp_region_held_drew (S := (fun _ : World => True)) (by kernel_rfl) (trivial) (fun hHeld => ?_)
      refine take_op (i := 0) 9 (v := ?_) rfl rfl (by kernel_rfl) (by kernel_rfl) (by kernel_rfl) (fun _ _ _ h => h) (Or.inl ⟨by rfl, ?_⟩) (by assumption) ?_
      rotate_left
      · (intro w hSw; (try dsimp only at hSw); first | (go_simp; done) | (go_simp; with_reducible rfl))
      try simp only [Act.put, List.setIfInBounds_toArray, List.set_cons_zero, List.set_cons_succ]
      refine take_op (i := 1) 10 (v := ?_) rfl rfl (by kernel_rfl) (by kernel_rfl) (by kernel_rfl) (fun _ _ _ h => h) (Or.inl ⟨by rfl, ?_⟩) (by assumption) ?_
      rotate_left
      · (intro w hSw; (try dsimp only at hSw); first | (go_simp; done) | (go_simp; with_reducible rfl))
      try simp only [Act.put, List.setIfInBounds_toArray, List.set_cons_zero, List.set_cons_succ]
      refine take_op (i := 2) 11 (v := ?_) rfl rfl (by kernel_rfl) (by kernel_rfl) (by kernel_rfl) (fun _ _ _ h => h) (Or.inl ⟨by rfl, ?_⟩) (by assumption) ?_
      rotate_left
      · (intro w hSw; (try dsimp only at hSw); first | (go_simp; done) | (go_simp; with_reducible rfl))
      try simp only [Act.put, List.setIfInBounds_toArray, List.set_cons_zero, List.set_cons_succ]
      refine take_op (i := 4) 13 (v := ?_) rfl rfl (by kernel_rfl) (by kernel_rfl) (by kernel_rfl) (fun _ _ _ h => h) (Or.inl ⟨by rfl, ?_⟩) (by assumption) ?_
      rotate_left
      · (intro w hSw; (try dsimp only at hSw); first | (go_simp; done) | (go_simp; with_reducible rfl))
      try simp only [Act.put, List.setIfInBounds_toArray, List.set_cons_zero, List.set_cons_succ]
      refine take_op (i := 5) 14 (v := ?_) rfl rfl (by kernel_rfl) (by kernel_rfl) (by kernel_rfl) (fun _ _ _ h => h) (Or.inl ⟨by rfl, ?_⟩) (by assumption) ?_
      rotate_left
      · (intro w hSw; (try dsimp only at hSw); first | (go_simp; done) | (go_simp; with_reducible rfl))
      try simp only [Act.put, List.setIfInBounds_toArray, List.set_cons_zero, List.set_cons_succ]
      refine take_op (i := 6) 15 (v := ?_) rfl rfl (by kernel_rfl) (by kernel_rfl) (by kernel_rfl) (fun _ _ _ h => h) (Or.inl ⟨by rfl, ?_⟩) (by assumption) ?_
      rotate_left
      · (intro w hSw; (try dsimp only at hSw); first | (go_simp; done) | (go_simp; with_reducible rfl))
      try simp only [Act.put, List.setIfInBounds_toArray, List.set_cons_zero, List.set_cons_succ]
      refine ready_one 3 (by kernel_rfl) rfl (fun K hK => ?_)
      (go_simp; go_at_call 76; refine (spent_any (w := w.drew) (show Ob w.drew g _ _ from hO.out) (j := 4) rfl hf.1 (by omega)).mono ?_; rintro e w1 ⟨rfl, ho1, hg1⟩; rw [BF.out]; have O1 := Lib.hid ho1; have T1 := Lib.hid ((show Tch (fun k => k = g) w w.drew from Tch.below (bdrew (Below.refl _ _))).grown hg1 (fun j e => .inl (by injection e with e; exact e.symm))); clear ho1 hg1)
      refine hK.out _ _ ?_ (fun hHeld => ?_)
      · trivial
      clear hK K
      try simp only [Act.put, List.setIfInBounds_toArray, List.set_cons_zero, List.set_cons_succ]
      refine ready_one 7 (by kernel_rfl) rfl (fun K hK => ?_)
      (go_simp; go_at_call 76; refine (spent_any O1.out (j := 3) rfl ha.1 (by omega)).mono ?_; rintro e w2 ⟨rfl, ho2, hg2⟩; rw [BA.out]; have O2 := Lib.hid ho2; have T2 := Lib.hid (T1.out.grown hg2 (fun j e => .inl (by injection e with e; exact e.symm))); have k2 : w2.cell? ⟨g, 2, none⟩ = some (.bool d.down) := ho2.cell rfl; have f2 := ho2.frozen 2; have k5 : w2.cell? ⟨g, 5, none⟩ = some (.int .i64 d.wth) := ho2.cell rfl; clear ho2 hg2)
      refine hK.out _ _ ?_ (fun hHeld => ?_)
      · trivial
      clear hK K
      try simp only [Act.put, List.setIfInBounds_toArray, List.set_cons_zero, List.set_cons_succ]
      refine take_op (i := 8) 3 (v := ?_) rfl rfl (by kernel_rfl) (by kernel_rfl) (by kernel_rfl) (fun _ _ _ h => h) (Or.inl ⟨by rfl, ?_⟩) (by assumption) ?_
      rotate_left
      · (intro w hSw; (try dsimp only at hSw); first | (go_simp; done) | (go_simp; with_reducible rfl))
      try simp only [Act.put, List.setIfInBounds_toArray, List.set_cons_zero, List.set_cons_succ]
      refine take_op (i := 9) 4 (v := ?_) rfl rfl (by kernel_rfl) (by kernel_rfl) (by kernel_rfl) (fun _ _ _ h => h) (Or.inl ⟨by rfl, ?_⟩) (by assumption) ?_
      rotate_left
      · (intro w hSw; (try dsimp only at hSw); first | (go_simp; done) | (go_simp; with_reducible rfl))
      try simp only [Act.put, List.setIfInBounds_toArray, List.set_cons_zero, List.set_cons_succ]
      refine wpAnyH_done (by kernel_rfl) ?_ _
      go_wp2_with fail
      go_ret
      refine ⟨rfl, H.out.upd T2.out hs1 false (spentV d.arm) (spentV d.fail) d.wth (spentV_range ha) (spentV_range hf) ?_, T2.out⟩
      have := O2.out
      rw [HD.out] at this
      exact this
    · have BA := Lib.hid ba
      have BF := Lib.hid bf
      clear ba bf
      simp only [Bool.false_eq_true, if_false, if_true]
      go_enter Try.func57, Try.ntmps57
      go_wp2_with fail
      refine wp_region_held_drew (S := (fun _ : World => True)) (by kernel_rfl) (trivial) (fun hHeld => ?_)
      refine take_op (i := 0) 9 (v := ?_) rfl rfl (by kernel_rfl) (by kernel_rfl) (by kernel_rfl) (fun _ _ _ h => h) (Or.inl ⟨by rfl, ?_⟩) (by assumption) ?_
      rotate_left
      · (intro w hSw; (try dsimp only at hSw); first | (go_simp; done) | (go_simp; with_reducible rfl))
      try simp only [Act.put, List.setIfInBounds_toArray, List.set_cons_zero, List.set_cons_succ]
      refine take_op (i := 1) 10 (v := ?_) rfl rfl (by kernel_rfl) (by kernel_rfl) (by kernel_rfl) (fun _ _ _ h => h) (Or.inl ⟨by rfl, ?_⟩) (by assumption) ?_
      rotate_left
      · (intro w hSw; (try dsimp only at hSw); first | (go_simp; done) | (go_simp; with_reducible rfl))
      try simp only [Act.put, List.setIfInBounds_toArray, List.set_cons_zero, List.set_cons_succ]
      refine take_op (i := 2) 11 (v := ?_) rfl rfl (by kernel_rfl) (by kernel_rfl) (by kernel_rfl) (fun _ _ _ h => h) (Or.inl ⟨by rfl, ?_⟩) (by assumption) ?_
      rotate_left
      · (intro w hSw; (try dsimp only at hSw); first | (go_simp; done) | (go_simp; with_reducible rfl))
      try simp only [Act.put, List.setIfInBounds_toArray, List.set_cons_zero, List.set_cons_succ]
      refine take_op (i := 4) 13 (v := ?_) rfl rfl (by kernel_rfl) (by kernel_rfl) (by kernel_rfl) (fun _ _ _ h => h) (Or.inl ⟨by rfl, ?_⟩) (by assumption) ?_
      rotate_left
      · (intro w hSw; (try dsimp only at hSw); first | (go_simp; done) | (go_simp; with_reducible rfl))
      try simp only [Act.put, List.setIfInBounds_toArray, List.set_cons_zero, List.set_cons_succ]
      refine take_op (i := 5) 14 (v := ?_) rfl rfl (by kernel_rfl) (by kernel_rfl) (by kernel_rfl) (fun _ _ _ h => h) (Or.inl ⟨by rfl, ?_⟩) (by assumption) ?_
      rotate_left
      · (intro w hSw; (try dsimp only at hSw); first | (go_simp; done) | (go_simp; with_reducible rfl))
      try simp only [Act.put, List.setIfInBounds_toArray, List.set_cons_zero, List.set_cons_succ]
      refine take_op (i := 6) 15 (v := ?_) rfl rfl (by kernel_rfl) (by kernel_rfl) (by kernel_rfl) (fun _ _ _ h => h) (Or.inl ⟨by rfl, ?_⟩) (by assumption) ?_
      rotate_left
      · (intro w hSw; (try dsimp only at hSw); first | (go_simp; done) | (go_simp; with_reducible rfl))
      try simp only [Act.put, List.setIfInBounds_toArray, List.set_cons_zero, List.set_cons_succ]
      refine ready_one 3 (by kernel_rfl) rfl (fun K hK => ?_)
      (go_simp; go_at_call 76; refine (spent_any (w := w.drew) (show Ob w.drew g _ _ from hO.out) (j := 4) rfl hf.1 (by omega)).mono ?_; rintro e w1 ⟨rfl, ho1, hg1⟩; rw [BF.out]; have O1 := Lib.hid ho1; have T1 := Lib.hid ((show Tch (fun k => k = g) w w.drew from Tch.below (bdrew (Below.refl _ _))).grown hg1 (fun j e => .inl (by injection e with e; exact e.symm))); clear ho1 hg1)
      refine hK.out _ _ ?_ (fun hHeld => ?_)
      · trivial
      clear hK K
      try simp only [Act.put, List.setIfInBounds_toArray, List.set_cons_zero, List.set_cons_succ]
      refine ready_one 7 (by kernel_rfl) rfl (fun K hK => ?_)
      (go_simp; go_at_call 76; refine (spent_any O1.out (j := 3) rfl ha.1 (by omega)).mono ?_; rintro e w2 ⟨rfl, ho2, hg2⟩; rw [BA.out]; have O2 := Lib.hid ho2; have T2 := Lib.hid (T1.out.grown hg2 (fun j e => .inl (by injection e with e; exact e.symm))); have k2 : w2.cell? ⟨g, 2, none⟩ = some (.bool d.down) := ho2.cell rfl; have f2 := ho2.frozen 2; have k5 : w2.cell? ⟨g, 5, none⟩ = some (.int .i64 d.wth) := ho2.cell rfl; clear ho2 hg2)
      refine hK.out _ _ ?_ (fun hHeld => ?_)
      · trivial
      clear hK K
      try simp only [Act.put, List.setIfInBounds_toArray, List.set_cons_zero, List.set_cons_succ]
      refine take_op (i := 8) 3 (v := ?_) rfl rfl (by kernel_rfl) (by kernel_rfl) (by kernel_rfl) (fun _ _ _ h => h) (Or.inl ⟨by rfl, ?_⟩) (by assumption) ?_
      rotate_left
      · (intro w hSw; (try dsimp only at hSw); first | (go_simp; done) | (go_simp; with_reducible rfl))
      try simp only [Act.put, List.setIfInBounds_toArray, List.set_cons_zero, List.set_cons_succ]
      refine take_op (i := 9) 4 (v := ?_) rfl rfl (by kernel_rfl) (by kernel_rfl) (by kernel_rfl) (fun _ _ _ h => h) (Or.inl ⟨by rfl, ?_⟩) (by assumption) ?_
      rotate_left
      · (intro w hSw; (try dsimp only at hSw); first | (go_simp; done) | (go_simp; with_reducible rfl))
      try simp only [Act.put, List.setIfInBounds_toArray, List.set_cons_zero, List.set_cons_succ]
      refine wpAnyH_done (by kernel_rfl) ?_ _
      go_wp2_with fail
      go_ret
      refine ⟨rfl, H.out.upd T2.out hs1 false (spentV d.arm) (spentV d.fail) d.wth (spentV_range ha) (spentV_range hf) ?_, T2.out⟩
      have := O2.out
      rw [HD.out] at this
      exact this
    · have BA := Lib.hid ba
      have BF := Lib.hid bf
      clear ba bf
      simp only [Bool.false_eq_true, if_false, if_true]
      go_enter Try.func57, Try.ntmps57
      go_wp2_with fail
      refine wp_region_held_drew (S := (fun _ : World => True)) (by kernel_rfl) (trivial) (fun hHeld => ?_)
      refine take_op (i := 0) 9 (v := ?_) rfl rfl (by kernel_rfl) (by kernel_rfl) (by kernel_rfl) (fun _ _ _ h => h) (Or.inl ⟨by rfl, ?_⟩) (by assumption) ?_
      rotate_left
      · (intro w hSw; (try dsimp only at hSw); first | (go_simp; done) | (go_simp; with_reducible rfl))
      try simp only [Act.put, List.setIfInBounds_toArray, List.set_cons_zero, List.set_cons_succ]
      refine take_op (i := 1) 10 (v := ?_) rfl rfl (by kernel_rfl) (by kernel_rfl) (by kernel_rfl) (fun _ _ _ h => h) (Or.inl ⟨by rfl, ?_⟩) (by assumption) ?_
      rotate_left
      · (intro w hSw; (try dsimp only at hSw); first | (go_simp; done) | (go_simp; with_reducible rfl))
      try simp only [Act.put, List.setIfInBounds_toArray, List.set_cons_zero, List.set_cons_succ]
      refine take_op (i := 2) 11 (v := ?_) rfl rfl (by kernel_rfl) (by kernel_rfl) (by kernel_rfl) (fun _ _ _ h => h) (Or.inl ⟨by rfl, ?_⟩) (by assumption) ?_
      rotate_left
      · (intro w hSw; (try dsimp only at hSw); first | (go_simp; done) | (go_simp; with_reducible rfl))
      try simp only [Act.put, List.setIfInBounds_toArray, List.set_cons_zero, List.set_cons_succ]
      refine take_op (i := 4) 13 (v := ?_) rfl rfl (by kernel_rfl) (by kernel_rfl) (by kernel_rfl) (fun _ _ _ h => h) (Or.inl ⟨by rfl, ?_⟩) (by assumption) ?_
      rotate_left
      · (intro w hSw; (try dsimp only at hSw); first | (go_simp; done) | (go_simp; with_reducible rfl))
      try simp only [Act.put, List.setIfInBounds_toArray, List.set_cons_zero, List.set_cons_succ]
      refine take_op (i := 5) 14 (v := ?_) rfl rfl (by kernel_rfl) (by kernel_rfl) (by kernel_rfl) (fun _ _ _ h => h) (Or.inl ⟨by rfl, ?_⟩) (by assumption) ?_
      rotate_left
      · (intro w hSw; (try dsimp only at hSw); first | (go_simp; done) | (go_simp; with_reducible rfl))
      try simp only [Act.put, List.setIfInBounds_toArray, List.set_cons_zero, List.set_cons_succ]
      refine take_op (i := 6) 15 (v := ?_) rfl rfl (by kernel_rfl) (by kernel_rfl) (by kernel_rfl) (fun _ _ _ h => h) (Or.inl ⟨by rfl, ?_⟩) (by assumption) ?_
      rotate_left
      · (intro w hSw; (try dsimp only at hSw); first | (go_simp; done) | (go_simp; with_reducible rfl))
      try simp only [Act.put, List.setIfInBounds_toArray, List.set_cons_zero, List.set_cons_succ]
      refine ready_one 3 (by kernel_rfl) rfl (fun K hK => ?_)
      (go_simp; go_at_call 76; refine (spent_any (w := w.drew) (show Ob w.drew g _ _ from hO.out) (j := 4) rfl hf.1 (by omega)).mono ?_; rintro e w1 ⟨rfl, ho1, hg1⟩; rw [BF.out]; have O1 := Lib.hid ho1; have T1 := Lib.hid ((show Tch (fun k => k = g) w w.drew from Tch.below (bdrew (Below.refl _ _))).grown hg1 (fun j e => .inl (by injection e with e; exact e.symm))); clear ho1 hg1)
      refine hK.out _ _ ?_ (fun hHeld => ?_)
      · trivial
      clear hK K
      try simp only [Act.put, List.setIfInBounds_toArray, List.set_cons_zero, List.set_cons_succ]
      refine ready_one 7 (by kernel_rfl) rfl (fun K hK => ?_)
      (go_simp; go_at_call 76; refine (spent_any O1.out (j := 3) rfl ha.1 (by omega)).mono ?_; rintro e w2 ⟨rfl, ho2, hg2⟩; rw [BA.out]; have O2 := Lib.hid ho2; have T2 := Lib.hid (T1.out.grown hg2 (fun j e => .inl (by injection e with e; exact e.symm))); have k2 : w2.cell? ⟨g, 2, none⟩ = some (.bool d.down) := ho2.cell rfl; have f2 := ho2.frozen 2; have k5 : w2.cell? ⟨g, 5, none⟩ = some (.int .i64 d.wth) := ho2.cell rfl; clear ho2 hg2)
      refine hK.out _ _ ?_ (fun hHeld => ?_)
      · trivial
      clear hK K
      try simp only [Act.put, List.setIfInBounds_toArray, List.set_cons_zero, List.set_cons_succ]
      refine take_op (i := 8) 3 (v := ?_) rfl rfl (by kernel_rfl) (by kernel_rfl) (by kernel_rfl) (fun _ _ _ h => h) (Or.inl ⟨by rfl, ?_⟩) (by assumption) ?_
      rotate_left
      · (intro w hSw; (try dsimp only at hSw); first | (go_simp; done) | (go_simp; with_reducible rfl))
      try simp only [Act.put, List.setIfInBounds_toArray, List.set_cons_zero, List.set_cons_succ]
      refine take_op (i := 9) 4 (v := ?_) rfl rfl (by kernel_rfl) (by kernel_rfl) (by kernel_rfl) (fun _ _ _ h => h) (Or.inl ⟨by rfl, ?_⟩) (by assumption) ?_
      rotate_left
      · (intro w hSw; (try dsimp only at hSw); first | (go_simp; done) | (go_simp; with_reducible rfl))
      try simp only [Act.put, List.setIfInBounds_toArray, List.set_cons_zero, List.set_cons_succ]
      refine wpAnyH_done (by kernel_rfl) ?_ _
      go_wp2_with fail
      go_ret
      exact ⟨rfl, H.out.upd (T2.out.grown (set_grown w2 g 2 (.bool true)) (fun j e => .inl (by injection e with e; exact e.symm))) hs1 true (spentV d.arm) (spentV d.fail) d.wth (spentV_range ha) (spentV_range hf) (O2.out.set 2 (.bool true)), T2.out.grown (set_grown w2 g 2 (.bool true)) (fun j e => .inl (by injection e with e; exact e.symm))⟩
    · have BA := Lib.hid ba
      have BF := Lib.hid bf
      clear ba bf
      simp only [Bool.false_eq_true, if_false, if_true]
      go_enter Try.func57, Try.ntmps57
      go_wp2_with fail
      refine wp_region_held_drew (S := (fun _ : World => True)) (by kernel_rfl) (trivial) (fun hHeld => ?_)
      refine take_op (i := 0) 9 (v := ?_) rfl rfl (by kernel_rfl) (by kernel_rfl) (by kernel_rfl) (fun _ _ _ h => h) (Or.inl ⟨by rfl, ?_⟩) (by assumption) ?_
      rotate_left
      · (intro w hSw; (try dsimp only at hSw); first | (go_simp; done) | (go_simp; with_reducible rfl))
      try simp only [Act.put, List.setIfInBounds_toArray, List.set_cons_zero, List.set_cons_succ]
      refine take_op (i := 1) 10 (v := ?_) rfl rfl (by kernel_rfl) (by kernel_rfl) (by kernel_rfl) (fun _ _ _ h => h) (Or.inl ⟨by rfl, ?_⟩) (by assumption) ?_
      rotate_left
      · (intro w hSw; (try dsimp only at hSw); first | (go_simp; done) | (go_simp; with_reducible rfl))
      try simp only [Act.put, List.setIfInBounds_toArray, List.set_cons_zero, List.set_cons_succ]
      refine take_op (i := 2) 11 (v := ?_) rfl rfl (by kernel_rfl) (by kernel_rfl) (by kernel_rfl) (fun _ _ _ h => h) (Or.inl ⟨by rfl, ?_⟩) (by assumption) ?_
      rotate_left
      · (intro w hSw; (try dsimp only at hSw); first | (go_simp; done) | (go_simp; with_reducible rfl))
      try simp only [Act.put, List.setIfInBounds_toArray, List.set_cons_zero, List.set_cons_succ]
      refine take_op (i := 4) 13 (v := ?_) rfl rfl (by kernel_rfl) (by kernel_rfl) (by kernel_rfl) (fun _ _ _ h => h) (Or.inl ⟨by rfl, ?_⟩) (by assumption) ?_
      rotate_left
      · (intro w hSw; (try dsimp only at hSw); first | (go_simp; done) | (go_simp; with_reducible rfl))
      try simp only [Act.put, List.setIfInBounds_toArray, List.set_cons_zero, List.set_cons_succ]
      refine take_op (i := 5) 14 (v := ?_) rfl rfl (by kernel_rfl) (by kernel_rfl) (by kernel_rfl) (fun _ _ _ h => h) (Or.inl ⟨by rfl, ?_⟩) (by assumption) ?_
      rotate_left
      · (intro w hSw; (try dsimp only at hSw); first | (go_simp; done) | (go_simp; with_reducible rfl))
      try simp only [Act.put, List.setIfInBounds_toArray, List.set_cons_zero, List.set_cons_succ]
      refine take_op (i := 6) 15 (v := ?_) rfl rfl (by kernel_rfl) (by kernel_rfl) (by kernel_rfl) (fun _ _ _ h => h) (Or.inl ⟨by rfl, ?_⟩) (by assumption) ?_
      rotate_left
      · (intro w hSw; (try dsimp only at hSw); first | (go_simp; done) | (go_simp; with_reducible rfl))
      try simp only [Act.put, List.setIfInBounds_toArray, List.set_cons_zero, List.set_cons_succ]
      refine ready_one 3 (by kernel_rfl) rfl (fun K hK => ?_)
      (go_simp; go_at_call 76; refine (spent_any (w := w.drew) (show Ob w.drew g _ _ from hO.out) (j := 4) rfl hf.1 (by omega)).mono ?_; rintro e w1 ⟨rfl, ho1, hg1⟩; rw [BF.out]; have O1 := Lib.hid ho1; have T1 := Lib.hid ((show Tch (fun k => k = g) w w.drew from Tch.below (bdrew (Below.refl _ _))).grown hg1 (fun j e => .inl (by injection e with e; exact e.symm))); clear ho1 hg1)
      refine hK.out _ _ ?_ (fun hHeld => ?_)
      · trivial
      clear hK K
      try simp only [Act.put, List.setIfInBounds_toArray, List.set_cons_zero, List.set_cons_succ]
      refine ready_one 7 (by kernel_rfl) rfl (fun K hK => ?_)
      (go_simp; go_at_call 76; refine (spent_any O1.out (j := 3) rfl ha.1 (by omega)).mono ?_; rintro e w2 ⟨rfl, ho2, hg2⟩; rw [BA.out]; have O2 := Lib.hid ho2; have T2 := Lib.hid (T1.out.grown hg2 (fun j e => .inl (by injection e with e; exact e.symm))); have k2 : w2.cell? ⟨g, 2, none⟩ = some (.bool d.down) := ho2.cell rfl; have f2 := ho2.frozen 2; have k5 : w2.cell? ⟨g, 5, none⟩ = some (.int .i64 d.wth) := ho2.cell rfl; clear ho2 hg2)
      refine hK.out _ _ ?_ (fun hHeld => ?_)
      · trivial
      clear hK K
      try simp only [Act.put, List.setIfInBounds_toArray, List.set_cons_zero, List.set_cons_succ]
      refine take_op (i := 8) 3 (v := ?_) rfl rfl (by kernel_rfl) (by kernel_rfl) (by kernel_rfl) (fun _ _ _ h => h) (Or.inl ⟨by rfl, ?_⟩) (by assumption) ?_
      rotate_left
      · (intro w hSw; (try dsimp only at hSw); first | (go_simp; done) | (go_simp; with_reducible rfl))
      try simp only [Act.put, List.setIfInBounds_toArray, List.set_cons_zero, List.set_cons_succ]
      refine take_op (i := 9) 4 (v := ?_) rfl rfl (by kernel_rfl) (by kernel_rfl) (by kernel_rfl) (fun _ _ _ h => h) (Or.inl ⟨by rfl, ?_⟩) (by assumption) ?_
      rotate_left
      · (intro w hSw; (try dsimp only at hSw); first | (go_simp; done) | (go_simp; with_reducible rfl))
      try simp only [Act.put, List.setIfInBounds_toArray, List.set_cons_zero, List.set_cons_succ]
      refine wpAnyH_done (by kernel_rfl) ?_ _
      go_wp2_with fail
      go_ret
      exact ⟨rfl, H.out.upd (T2.out.grown (set_grown w2 g 2 (.bool true)) (fun j e => .inl (by injection e with e; exact e.symm))) hs1 true (spentV d.arm) (spentV d.fail) d.wth (spentV_range ha) (spentV_range hf) (O2.out.set 2 (.bool true)), T2.out.grown (set_grown w2 g 2 (.bool true)) (fun j e => .inl (by injection e with e; exact e.symm))⟩
set_option maxRecDepth 100000 in
theorem whole_any {w : World} {B : Nat} {v : Value} {xs : List UInt8} (h : DataV w B v xs) : Calls Try.prog 59 #[v] w fun e w' => ∃ r, e = .returned r ∧ r ≠ .slice none 0 0 ∧ Own w' w.heap.size r xs ∧ Below w.heap.size w w' := by
  rcases h with ⟨rfl, rfl⟩ | ⟨h1, h2, h3⟩
  · have hmk := make_lit 4096 4096 rfl (by decide)
    have heq := Go.Lib.run_eql_slice_nil (P := Try.prog) w 23 5 none 0 0 0 0 Try.underlying23
    go_enter Try.func59, Try.ntmps59
    go_wp2
    go_ret
    have ho := Blk.own (Blk.new w (zeros 4096)) (B := w.heap.size) (Nat.le_refl _) (n := 4096) (by simp) (by simp; decide)
    rw [zeros_length, List.take_of_length_le (by simp)] at ho
    exact ⟨_, rfl, by simp, ho, balloc (Below.refl _ _) _⟩
  · obtain ⟨g, c, rfl, _, _, _, _⟩ := h2.formN h3 (by decide)
    have H3 := Lib.hid h3
    have R := Lib.hid h2.rd.1
    clear h1 h2 h3
    have heq := Go.Lib.run_eql_slice_nil (P := Try.prog) w 23 5 (some ⟨g, 0, none⟩) 4096 c 0 0 Try.underlying23
    go_enter Try.func59, Try.ntmps59
    go_wp2_with fail
    refine (clone_any H3.out _ R.out (by decide)).mono ?_
    rintro e w1 ⟨rv, rfl, hvv, hn, hbb⟩
    have O := Lib.hid hvv
    have HB := Lib.hid hbb
    have HN : Hid (rv ≠ .slice none 0 0) := fun e => by have := hn.1 e; cases this
    clear hvv hbb hn
    go_wp2_with fail
    go_ret
    exact ⟨_, rfl, HN.out, O.out, HB.out⟩
theorem data_of_whole {w : World} {B B' : Nat} {v : Value} {xs : List UInt8} (h : Own w B v xs) (hn : v ≠ .slice none 0 0) (hl : xs.length = 4096) (hB : B' ≤ B) : DataV w B' v xs := .inr ⟨hn, h.mono hB, hl⟩
theorem DiskAt.block (h : DiskAt w B g gb ws d) {i : Nat} {xs : List UInt8} (hi : d.blocks[i]? = some xs) : ∃ v, w.cell? ⟨gb, i, none⟩ = some v ∧ DataV w B v xs ∧ ∃ A l c, v = .slice A l c := by
  obtain ⟨vals, hv, hl, hd⟩ := h.row
  have hlt : i < vals.length := Nat.lt_of_lt_of_le (List.getElem?_eq_some_iff.1 hi).1 hl
  have hdv := hd i _ xs (List.getElem?_eq_getElem hlt) hi
  refine ⟨vals[i], hv.cell (List.getElem?_eq_getElem hlt), hdv, ?_⟩
  rcases hdv with ⟨e, _⟩ | ⟨_, ho, _⟩
  · exact ⟨_, _, _, e⟩
  · obtain ⟨A, c, e, _⟩ := ho.slice
    exact ⟨A, _, c, e⟩
theorem DataV.len {w : World} {B : Nat} {v : Value} {xs : List UInt8} (h : DataV w B v xs) : xs.length = 4096 := by
  rcases h with ⟨_, rfl⟩ | ⟨_, _, h⟩
  · simp
  · exact h
theorem DiskAt.len (h : DiskAt w B g gb ws d) {i : Nat} {xs : List UInt8} (hi : d.blocks[i]? = some xs) : xs.length = 4096 := by
  obtain ⟨v, _, hd, _⟩ := h.block hi
  exact hd.len
theorem durable_any (h : DiskAt w B g gb ws d) (i : Nat) {xs : List UInt8} (hi : d.blocks[i]? = some xs) : Calls Try.prog 40 #[.pointer (some ⟨g, 0, none⟩), .int .i64 i] w fun e w' => ∃ r, e = .returned (.tuple #[r, .int .i64 0]) ∧ Own w' w.heap.size r xs ∧ Below w.heap.size w w' := by
  have H := Lib.hid h
  have c0 := h.c0
  have hlt := (List.getElem?_eq_some_iff.1 hi).1
  have hm := h.many
  have hw : Hid (wrongE d i = 0) := by show _ = _; unfold wrongE; rw [if_pos (by omega)]
  obtain ⟨v, c1, hd, A, l, c, rfl⟩ := h.block hi
  have HDV := Lib.hid hd
  obtain ⟨n, hn⟩ : ∃ n, n = d.blocks.length := ⟨_, rfl⟩
  rw [← hn] at c0 hlt hm
  have z0 : (0 : Int) ≤ (i : Int) := by omega
  have z1 : (i : Int) < (n : Int) := by omega
  clear h hi hd hn
  go_enter Try.func40, Try.ntmps40
  go_wp2_with fail
  refine (wrong_any H.out i).mono ?_
  rintro e w' ⟨rfl, rfl⟩
  rw [hw.out]
  go_wp2_with fail
  refine (whole_any HDV.out).mono ?_
  rintro e w1 ⟨r, rfl, _, ho, hb⟩
  have O := Lib.hid ho
  have HB := Lib.hid hb
  clear ho hb
  go_wp2_with fail
  go_ret2
  exact ⟨_, rfl, O.out, HB.out⟩
theorem durable_bad (h : DiskAt w B g gb ws d) (b : Int) (hb : ¬ (0 ≤ b ∧ b < d.blocks.length)) : Calls Try.prog 40 #[.pointer (some ⟨g, 0, none⟩), .int .i64 b] w fun e w' => e = .returned (.tuple #[.slice none 0 0, .int .i64 2]) ∧ w = w' := by
  have H := Lib.hid h
  have hw : Hid (wrongE d b = 2) := by show _ = _; unfold wrongE; rw [if_neg hb]
  clear h hb
  go_enter Try.func40, Try.ntmps40
  go_wp2_with fail
  refine (wrong_any H.out b).mono ?_
  rintro e w' ⟨rfl, rfl⟩
  rw [hw.out]
  go_wp2_with fail
  go_ret2
  exact ⟨rfl, rfl⟩
theorem pending_any (h : DiskAt w B g gb ws d) : Calls Try.prog 37 #[.pointer (some ⟨g, 0, none⟩)] w fun e w' => e = .returned (.int .i64 d.writes.length) ∧ w = w' := by
  have H := Lib.hid h
  obtain ⟨A, c, hws⟩ := h.wsForm
  have c1 := h.c1
  rw [hws] at c1
  obtain ⟨n, hn⟩ : ∃ n, n = d.writes.length := ⟨_, rfl⟩
  rw [← hn] at c1 ⊢
  clear h hws hn
  go_enter Try.func37, Try.ntmps37
  go_wp2_with fail
  refine (none_any H.out).mono ?_
  rintro e w' ⟨rfl, rfl⟩
  go_wp2_with fail
  go_ret
  exact ⟨rfl, rfl⟩
theorem info_slice : (Try.prog.info? 23).map (fun i => (i.zero, i.size, i.bytes)) = some (some (.slice none 0 0), 1, 24) := by kernel_rfl
theorem new_bad {w : World} (n : Int) (h : n < 1 ∨ 4096 < n) : Calls Try.prog 32 #[.int .i64 n] w fun e w' => e = .returned (.tuple #[.pointer none, .int .i64 2]) ∧ w = w' := by
  rcases h with h | h
  · have e1 : decide (n < 1) = true := decide_eq_true h
    go_enter Try.func32, Try.ntmps32
    go_wp2_with fail
    go_ret2
    exact ⟨rfl, rfl⟩
  · have e1 : decide (n < 1) = false := decide_eq_false (by omega)
    have e2 : decide (4096 < n) = true := decide_eq_true h
    go_enter Try.func32, Try.ntmps32
    go_wp2_with fail
    go_ret2
    exact ⟨rfl, rfl⟩
def newD (n : Nat) : DS := ⟨List.replicate n (zeros 4096), [], false, 0, 0, 0, n⟩
theorem make_slices (n : Nat) (hc : n ≤ 4096) : ∀ W : World,
    (Instr.makeSlice 60 (.int .i64 n) (.int .i64 n)).run Try.prog W = .ok (.slice (some ⟨W.heap.size, 0, none⟩) n n) (W.alloc (.cells (List.replicate n (Value.slice none 0 0)).toArray 23)) := fun W => by
  obtain ⟨i0, hi, hzz⟩ := Option.map_eq_some_iff.1 info_slice
  simp only [Prod.mk.injEq] at hzz
  obtain ⟨hz0, hz1, hz2⟩ := hzz
  have h := run_make (P := Try.prog) W 60 23 i0 (.slice none 0 0) Try.underlying60 hi hz0 .i64 .i64 (n : Int) (n : Int) (by omega) (by omega) (by rw [hz2]; omega) (by omega)
  rw [h]
  have e : madeCells (Value.slice none 0 0).cells ((n : Int).toNat * i0.size) = (List.replicate n (Value.slice none 0 0)).toArray := by
    rw [hz1, Int.toNat_natCast, Nat.mul_one]
    apply Array.ext
    · simp [madeCells, Value.cells]
    · intro i h1 h2
      simp [madeCells, Value.cells, Nat.mod_one]
  rw [e]
  simp
theorem new_any {w : World} (n : Nat) (h1 : 1 ≤ n) (h2 : n ≤ 4096) : Calls Try.prog 32 #[.int .i64 n] w fun e w' => ∃ g gb, e = .returned (.tuple #[.pointer (some ⟨g, 0, none⟩), .int .i64 0]) ∧ DiskAt w' w.heap.size g gb (.slice none 0 0) (newD n) ∧ Below w.heap.size w w' := by
  have hmk := make_slices n h2
  have e1 : decide ((n : Int) < 1) = false := decide_eq_false (by omega)
  have e2 : decide ((4096 : Int) < (n : Int)) = false := decide_eq_false (by omega)
  go_enter Try.func32, Try.ntmps32
  go_wp2_with fail
  go_ret2
  refine ⟨w.heap.size + 1, w.heap.size, rfl, ?_, balloc (balloc (Below.refl _ _) _) _⟩
  have hb : (newD n).blocks.length = n := by simp [newD]
  refine ⟨?_, ⟨List.replicate n (Value.slice none 0 0), (Ob.new w _ _).below (balloc (Below.refl _ _) _), by simp [newD], fun i v xs hv hx => .inl ⟨?_, ?_⟩⟩, ⟨[], rfl, World.ownsRow_nil _ _ _ _, fun i q p hq => by simp at hq⟩, by simp, by simp, by rw [hb]; omega, by rw [hb]; exact h2, by simp [newD], by simp [newD], by simp [newD]⟩
  · rw [hb]
    have := heap_alloc_new (w.alloc (.cells (List.replicate n (Value.slice none 0 0)).toArray 23)) (.cells (diskCells w.heap.size n n (.slice none 0 0) false 0 0 0).toArray 97)
    rw [World.size_alloc] at this
    simpa [Ob, diskCells, newD] using this
  · exact (List.mem_replicate.1 (List.mem_of_getElem? hv)).2
  · exact (List.mem_replicate.1 (List.mem_of_getElem? hx)).2
end
end Go.Proofs.Ytobnomlbkhkodaa.Y
