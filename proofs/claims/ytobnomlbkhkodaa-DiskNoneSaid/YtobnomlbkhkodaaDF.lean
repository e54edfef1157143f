/-
  A disk that New did not make; DiskNone's walk.
-/
import Derived.Test.YtobnomlbkhkodaaDB
set_option linter.unusedVariables false
set_option linter.unusedSimpArgs false
namespace Go.Proofs.Ytobnomlbkhkodaa.Y
open Go.RowKit
attribute [local go_sem ↓] Go.wp_at_zero Go.wp_at_succ

def zeroDisk : List Value := [.slice none 0 0, .slice none 0 0, .bool false, .int .i64 0, .int .i64 0, .int .i64 0]
def NoneAt (w : World) (p : Option Addr) : Prop := p = none ∨ ∃ g, p = some ⟨g, 0, none⟩ ∧ Ob w g 97 zeroDisk
theorem NoneAt.below {w w1 : World} {p : Option Addr} (h : NoneAt w p) (hb : Below w.heap.size w w1) : NoneAt w1 p := h.imp id (fun ⟨g, e, ho⟩ => ⟨g, e, ho.below hb⟩)
section
variable {w : World} {p : Option Addr}
theorem none_yes (h : NoneAt w p) : Calls Try.prog 56 #[.pointer p] w fun e w' => e = .returned (.bool true) ∧ w = w' := by
  rcases h with rfl | ⟨g, rfl, ho⟩
  · go_enter Try.func56, Try.ntmps56
    go_wp2
    go_ret
    exact ⟨rfl, rfl⟩
  · have c0 := ho.cell (j := 0) rfl
    clear ho
    go_enter Try.func56, Try.ntmps56
    go_wp2
    go_ret
    exact ⟨rfl, rfl⟩
theorem wrong_none (h : NoneAt w p) (b : Int) : Calls Try.prog 58 #[.pointer p, .int .i64 b] w fun e w' => e = .returned (.int .i64 1) ∧ w = w' := by
  have H := Lib.hid h
  clear h
  go_enter Try.func58, Try.ntmps58
  go_wp2_with fail
  refine (none_yes H.out).mono ?_
  rintro e w' ⟨rfl, rfl⟩
  go_wp2_with fail
  go_ret
  exact ⟨rfl, rfl⟩
theorem durable_none (h : NoneAt w p) (b : Int) : Calls Try.prog 40 #[.pointer p, .int .i64 b] w fun e w' => e = .returned (.tuple #[.slice none 0 0, .int .i64 1]) ∧ w = w' := by
  have H := Lib.hid h
  clear h
  go_enter Try.func40, Try.ntmps40
  go_wp2_with fail
  refine (wrong_none H.out b).mono ?_
  rintro e w' ⟨rfl, rfl⟩
  go_wp2_with fail
  go_ret2
  exact ⟨rfl, rfl⟩
theorem write_none (h : NoneAt w p) (b : Int) (A : Option Addr) (l c : Nat) : Calls Try.prog 36 #[.pointer p, .int .i64 b, .slice A l c] w fun e w' => e = .returned (.int .i64 1) ∧ w = w' := by
  have H := Lib.hid h
  clear h
  go_enter Try.func36, Try.ntmps36
  go_wp2_with fail
  refine (wrong_none H.out b).mono ?_
  rintro e w' ⟨rfl, rfl⟩
  go_wp2_with fail
  go_ret
  exact ⟨rfl, rfl⟩
theorem sync_none (h : NoneAt w p)  : Calls Try.prog 33 #[.pointer p] w fun e w' => e = .returned (.int .i64 1) ∧ w = w' := by
  have H := Lib.hid h
  clear h
  go_enter Try.func33, Try.ntmps33
  go_wp2_with fail
  refine (none_yes H.out).mono ?_
  rintro e w' ⟨rfl, rfl⟩
  go_wp2_with fail
  go_ret
  exact ⟨rfl, rfl⟩
theorem arm_none (h : NoneAt w p) (n : Int) : Calls Try.prog 47 #[.pointer p, .int .i64 n] w fun e w' => e = .returned (.int .i64 1) ∧ w = w' := by
  have H := Lib.hid h
  clear h
  go_enter Try.func47, Try.ntmps47
  go_wp2_with fail
  refine (none_yes H.out).mono ?_
  rintro e w' ⟨rfl, rfl⟩
  go_wp2_with fail
  go_ret
  exact ⟨rfl, rfl⟩
theorem fail_none (h : NoneAt w p) (n c : Int) : Calls Try.prog 48 #[.pointer p, .int .i64 n, .int .i64 c] w fun e w' => e = .returned (.int .i64 1) ∧ w = w' := by
  have H := Lib.hid h
  clear h
  go_enter Try.func48, Try.ntmps48
  go_wp2_with fail
  refine (none_yes H.out).mono ?_
  rintro e w' ⟨rfl, rfl⟩
  go_wp2_with fail
  go_ret
  exact ⟨rfl, rfl⟩
theorem crash_nil (h : NoneAt w p) (ks : Value) (torn cut : Int) : Calls Try.prog 38 #[.pointer p, .agg #[ks, .int .i64 torn, .int .i64 cut]] w fun e w' => e = .returned (.int .i64 1) ∧ Below w.heap.size w w' := by
  have H := Lib.hid h
  clear h
  go_enter Try.func38, Try.ntmps38
  go_wp2_with fail
  refine (none_yes (H.out.below (balloc (Below.refl _ _) _))).mono ?_
  rintro e w' ⟨rfl, rfl⟩
  go_wp2_with fail
  go_ret
  exact ⟨rfl, balloc (Below.refl _ _) _⟩
theorem blocks_none (h : NoneAt w p)  : Calls Try.prog 45 #[.pointer p] w fun e w' => e = .returned (.int .i64 0) ∧ w = w' := by
  have H := Lib.hid h
  clear h
  go_enter Try.func45, Try.ntmps45
  go_wp2_with fail
  refine (none_yes H.out).mono ?_
  rintro e w' ⟨rfl, rfl⟩
  go_wp2_with fail
  go_ret
  exact ⟨rfl, rfl⟩
theorem pending_none (h : NoneAt w p)  : Calls Try.prog 37 #[.pointer p] w fun e w' => e = .returned (.int .i64 0) ∧ w = w' := by
  have H := Lib.hid h
  clear h
  go_enter Try.func37, Try.ntmps37
  go_wp2_with fail
  refine (none_yes H.out).mono ?_
  rintro e w' ⟨rfl, rfl⟩
  go_wp2_with fail
  go_ret
  exact ⟨rfl, rfl⟩
theorem copy_none (h : NoneAt w p)  : Calls Try.prog 44 #[.pointer p] w fun e w' => e = .returned (.pointer none) ∧ w = w' := by
  have H := Lib.hid h
  clear h
  go_enter Try.func44, Try.ntmps44
  go_wp2_with fail
  refine (none_yes H.out).mono ?_
  rintro e w' ⟨rfl, rfl⟩
  go_wp2_with fail
  go_ret
  exact ⟨rfl, rfl⟩
theorem read_none (h : NoneAt w p) (b : Int) : Calls Try.prog 39 #[.pointer p, .int .i64 b] w fun e w' => e = .returned (.tuple #[.slice none 0 0, .int .i64 1]) ∧ Below w.heap.size w w' := by
  obtain ⟨W0, hW0, hsz, b3, b4, b5, hbw⟩ := boxes3 w b
  have H0 := Lib.hid (h.below hbw)
  have HW0 := Lib.hid hW0
  have BW := Lib.hid hbw
  have c3 := b3.cell
  have c4 := b4.cell
  have f4 := b4.frozen
  have c5 := b5.cell
  have f5 := b5.frozen
  clear h hW0 hbw
  go_enter Try.func39, Try.ntmps39
  go_wp2_with fail
  rw [← HW0.out]
  refine (wrong_none H0.out b).mono ?_
  rintro e w' ⟨rfl, rfl⟩
  go_wp2_with fail
  obtain ⟨r1, r2⟩ := read_end (e := 1) b4 b5 (by omega)
  refine bodyPost_ret (results_cells2 rfl rfl rfl (load_slice _ _ _ _ _ r1) (load_errno _ _ _ r2)) rfl ?_
  exact ⟨rfl, (BW.out.setCell (by simp) _).setCell (by simp; omega) _⟩
end
set_option maxHeartbeats 6400000 in
set_option maxRecDepth 100000 in
theorem diskNone_walk (b n : Int) (A2 : Option Addr) (c2 : Nat) (l2' : List UInt8) (A3 : Option Addr) (c3 : Nat) (l3' : List Bool) (torn cut : Int) (w : World)
    (w0 : (Lit.int .i64 b).wf = true) (w1 : (Lit.int .i64 n).wf = true) (r2 : Rd w A2 l2') (h2 : l2'.length ≤ c2) (m2 : c2 ≤ maxLen) (y2 : l2'.length ≤ 140737488351232) (r3 : RdT w A3 l3') (h3 : l3'.length ≤ c3) (m3 : c3 ≤ maxLen) (v3 : (Lit.int .i64 torn).wf = true) (x3 : (Lit.int .i64 cut).wf = true) :
    Calls Try.prog 13 #[.int .i64 b, .int .i64 n, .slice A2 l2'.length c2, .agg #[.slice A3 l3'.length c3, .int .i64 torn, .int .i64 cut]] w fun e w' => e = .returned (.bool true) ∧ Below w.heap.size w w' := by
  obtain ⟨l2, hl2⟩ : ∃ l2, l2 = l2'.length := ⟨_, rfl⟩
  obtain ⟨l3, hl3⟩ : ∃ l3, l3 = l3'.length := ⟨_, rfl⟩
  rw [← hl2, ← hl3]
  clear w0 w1 r2 h2 m2 y2 r3 h3 m3 v3 x3 hl2 hl3
  obtain ⟨W0, hW0⟩ : ∃ W0, W0 = ((w.alloc (.cells #[.slice A3 l3 c3, .int .i64 torn, .int .i64 cut] 56)).alloc (.cells #[.slice none 0 0, .slice none 0 0, .bool false, .int .i64 0, .int .i64 0, .int .i64 0] 97)).alloc (.cells #[.pointer none, .pointer (some ⟨w.heap.size + 1, 0, none⟩)] 57) := ⟨_, rfl⟩
  have HW0 := Lib.hid hW0
  have BW : Hid (Below w.heap.size w W0) := by show Below _ _ _; rw [hW0]; exact balloc (balloc (balloc (Below.refl _ _) _) _) _
  have OC : Hid (Ob W0 w.heap.size 56 [.slice A3 l3 c3, .int .i64 torn, .int .i64 cut]) := by
    show Ob _ _ _ _
    rw [hW0]
    exact ((show Ob (w.alloc (.cells #[.slice A3 l3 c3, .int .i64 torn, .int .i64 cut] 56)) w.heap.size 56 [.slice A3 l3 c3, .int .i64 torn, .int .i64 cut] from heap_alloc_new _ _).below (balloc (Below.refl _ _) _)).below (balloc (Below.refl _ _) _)
  have OZ : Hid (Ob W0 (w.heap.size + 1) 97 zeroDisk) := by
    show Ob _ _ _ _
    rw [hW0]
    refine Ob.below ?_ (balloc (Below.refl _ _) _)
    have := heap_alloc_new (w.alloc (.cells #[.slice A3 l3 c3, .int .i64 torn, .int .i64 cut] 56)) (.cells #[.slice none 0 0, .slice none 0 0, .bool false, .int .i64 0, .int .i64 0, .int .i64 0] 97)
    rw [World.size_alloc] at this
    exact this
  have OR : Hid (Ob W0 (w.heap.size + 1 + 1) 57 [.pointer none, .pointer (some ⟨w.heap.size + 1, 0, none⟩)]) := by
    show Ob _ _ _ _
    rw [hW0]
    have := heap_alloc_new ((w.alloc (.cells #[.slice A3 l3 c3, .int .i64 torn, .int .i64 cut] 56)).alloc (.cells #[.slice none 0 0, .slice none 0 0, .bool false, .int .i64 0, .int .i64 0, .int .i64 0] 97)) (.cells #[.pointer none, .pointer (some ⟨w.heap.size + 1, 0, none⟩)] 57)
    rw [World.size_alloc, World.size_alloc] at this
    exact this
  clear hW0
  go_enter Try.func13, Try.ntmps13
  go_wp2_with fail
  rw [← HW0.out]
  go_loopw [21] (fun i wr => ∃ k : Nat, k ≤ 2 ∧ i = .int .i64 k ∧ Hid (Below W0.heap.size W0 wr)) (fun i _ => 2 - (intOf i).toNat)
  case atStart => exact ⟨0, by omega, rfl, Below.refl _ _⟩
  case round =>
    obtain ⟨k, hk, rfl, hb⟩ := hrel
    have p0 := (OR.out.below hb.out).cell (j := 0) rfl
    have p1 := (OR.out.below hb.out).cell (j := 1) rfl
    by_cases hlt : k < 2
    · rcases (show k = 0 ∨ k = 1 by omega) with rfl | rfl
      · have HNA : Hid (NoneAt wr none) := .inl rfl
        go_wp2_with fail
        refine (read_none HNA.out b).mono ?_
        rintro e y1 ⟨rfl, hh⟩
        have N1 := Lib.hid (HNA.out.below hh)
        have L1 := Lib.hid (bthen hb.out hh)
        have X1 : y1.cell? ⟨w.heap.size, 0, none⟩ = some (.slice A3 l3 c3) ∧ y1.cell? ⟨w.heap.size, 1, none⟩ = some (.int .i64 torn) ∧ y1.cell? ⟨w.heap.size, 2, none⟩ = some (.int .i64 cut) := ⟨((OC.out.below L1.out).cell rfl), ((OC.out.below L1.out).cell rfl), ((OC.out.below L1.out).cell rfl)⟩
        obtain ⟨xa1, xb1, xc1⟩ := X1
        clear hh
        go_wp2_with fail
        refine (durable_none N1.out b).mono ?_
        rintro e w' ⟨rfl, rfl⟩
        go_wp2_with fail
        refine (write_none N1.out b A2 l2 c2).mono ?_
        rintro e w' ⟨rfl, rfl⟩
        go_wp2_with fail
        refine (sync_none N1.out).mono ?_
        rintro e w' ⟨rfl, rfl⟩
        go_wp2_with fail
        refine (arm_none N1.out n).mono ?_
        rintro e w' ⟨rfl, rfl⟩
        go_wp2_with fail
        refine (fail_none N1.out n 4).mono ?_
        rintro e w' ⟨rfl, rfl⟩
        go_wp2_with fail
        refine (crash_nil N1.out (.slice A3 l3 c3) torn cut).mono ?_
        rintro e y2 ⟨rfl, hh⟩
        have N2 := Lib.hid (N1.out.below hh)
        have L2 := Lib.hid (bthen L1.out hh)
        have X2 : y2.cell? ⟨w.heap.size, 0, none⟩ = some (.slice A3 l3 c3) ∧ y2.cell? ⟨w.heap.size, 1, none⟩ = some (.int .i64 torn) ∧ y2.cell? ⟨w.heap.size, 2, none⟩ = some (.int .i64 cut) := ⟨((OC.out.below L2.out).cell rfl), ((OC.out.below L2.out).cell rfl), ((OC.out.below L2.out).cell rfl)⟩
        obtain ⟨xa2, xb2, xc2⟩ := X2
        clear hh
        go_wp2_with fail
        refine (blocks_none N2.out).mono ?_
        rintro e w' ⟨rfl, rfl⟩
        go_wp2_with fail
        refine (pending_none N2.out).mono ?_
        rintro e w' ⟨rfl, rfl⟩
        go_wp2_with fail
        refine (copy_none N2.out).mono ?_
        rintro e w' ⟨rfl, rfl⟩
        go_wp2_with fail
        go_roundw
        case rel => exact ⟨1, by omega, by go_num, L2⟩
        case measure => simp [intOf]
      · have HNA : Hid (NoneAt wr (some ⟨w.heap.size + 1, 0, none⟩)) := .inr ⟨_, rfl, OZ.out.below hb.out⟩
        go_wp2_with fail
        refine (read_none HNA.out b).mono ?_
        rintro e y1 ⟨rfl, hh⟩
        have N1 := Lib.hid (HNA.out.below hh)
        have L1 := Lib.hid (bthen hb.out hh)
        have X1 : y1.cell? ⟨w.heap.size, 0, none⟩ = some (.slice A3 l3 c3) ∧ y1.cell? ⟨w.heap.size, 1, none⟩ = some (.int .i64 torn) ∧ y1.cell? ⟨w.heap.size, 2, none⟩ = some (.int .i64 cut) := ⟨((OC.out.below L1.out).cell rfl), ((OC.out.below L1.out).cell rfl), ((OC.out.below L1.out).cell rfl)⟩
        obtain ⟨xa1, xb1, xc1⟩ := X1
        clear hh
        go_wp2_with fail
        refine (durable_none N1.out b).mono ?_
        rintro e w' ⟨rfl, rfl⟩
        go_wp2_with fail
        refine (write_none N1.out b A2 l2 c2).mono ?_
        rintro e w' ⟨rfl, rfl⟩
        go_wp2_with fail
        refine (sync_none N1.out).mono ?_
        rintro e w' ⟨rfl, rfl⟩
        go_wp2_with fail
        refine (arm_none N1.out n).mono ?_
        rintro e w' ⟨rfl, rfl⟩
        go_wp2_with fail
        refine (fail_none N1.out n 4).mono ?_
        rintro e w' ⟨rfl, rfl⟩
        go_wp2_with fail
        refine (crash_nil N1.out (.slice A3 l3 c3) torn cut).mono ?_
        rintro e y2 ⟨rfl, hh⟩
        have N2 := Lib.hid (N1.out.below hh)
        have L2 := Lib.hid (bthen L1.out hh)
        have X2 : y2.cell? ⟨w.heap.size, 0, none⟩ = some (.slice A3 l3 c3) ∧ y2.cell? ⟨w.heap.size, 1, none⟩ = some (.int .i64 torn) ∧ y2.cell? ⟨w.heap.size, 2, none⟩ = some (.int .i64 cut) := ⟨((OC.out.below L2.out).cell rfl), ((OC.out.below L2.out).cell rfl), ((OC.out.below L2.out).cell rfl)⟩
        obtain ⟨xa2, xb2, xc2⟩ := X2
        clear hh
        go_wp2_with fail
        refine (blocks_none N2.out).mono ?_
        rintro e w' ⟨rfl, rfl⟩
        go_wp2_with fail
        refine (pending_none N2.out).mono ?_
        rintro e w' ⟨rfl, rfl⟩
        go_wp2_with fail
        refine (copy_none N2.out).mono ?_
        rintro e w' ⟨rfl, rfl⟩
        go_wp2_with fail
        go_roundw
        case rel => exact ⟨2, by omega, by go_num, L2⟩
        case measure => simp [intOf]
    · obtain rfl : k = 2 := by omega
      go_wp2_with fail
      refine (awake03 (w := _)).mono ?_
      rintro e y9 ⟨rfl, hb1⟩
      have B9 := Lib.hid (bthen (bthen BW.out hb.out) hb1)
      clear hb1
      go_wp2_with fail
      go_ret
      exact ⟨rfl, B9.out⟩
end Go.Proofs.Ytobnomlbkhkodaa.Y
