/-
  package disk: Blocks, Arm, Fail.
-/
import Derived.Test.YtobnomlbkhkodaaD6
set_option linter.unusedVariables false
set_option linter.unusedSimpArgs false
namespace Go.Proofs.Ytobnomlbkhkodaa.Y
open Go.RowKit
attribute [local go_sem ↓] Go.wp_at_zero Go.wp_at_succ

def armV (n : Int) : Int := min n 4611686018427387904 + 1
theorem armV_range {n : Int} (h : 0 ≤ n) : 0 ≤ armV n ∧ armV n ≤ 4611686018427387905 := by unfold armV; omega
section
variable {w : World} {B g gb : Nat} {ws : Value} {d : DS}
theorem blocks_any (h : DiskAt w B g gb ws d) : Calls Try.prog 45 #[.pointer (some ⟨g, 0, none⟩)] w fun e w' => e = .returned (.int .i64 d.blocks.length) ∧ w = w' := by
  have H := Lib.hid h
  have c0 := h.c0
  obtain ⟨n, hn⟩ : ∃ n, n = d.blocks.length := ⟨_, rfl⟩
  rw [← hn] at c0 ⊢
  clear h hn
  go_enter Try.func45, Try.ntmps45
  go_wp2_with fail
  refine (none_any H.out).mono ?_
  rintro e w' ⟨rfl, rfl⟩
  go_wp2_with fail
  go_ret
  exact ⟨rfl, rfl⟩
theorem arm_bad (h : DiskAt w B g gb ws d) (n : Int) (hn : n < 0) : Calls Try.prog 47 #[.pointer (some ⟨g, 0, none⟩), .int .i64 n] w fun e w' => e = .returned (.int .i64 2) ∧ w = w' := by
  have H := Lib.hid h
  have e1 : decide (n < 0) = true := decide_eq_true hn
  clear h hn
  go_enter Try.func47, Try.ntmps47
  go_wp2_with fail
  refine (none_any H.out).mono ?_
  rintro e w' ⟨rfl, rfl⟩
  go_wp2_with fail
  go_ret
  exact ⟨rfl, rfl⟩
def armD (d : DS) (n : Int) : DS := { d with arm := armV n }
theorem arm_ok (h : DiskAt w B g gb ws d) (n : Int) (hn : 0 ≤ n) : Calls Try.prog 47 #[.pointer (some ⟨g, 0, none⟩), .int .i64 n] w fun e w' => e = .returned (.int .i64 0) ∧ DiskAt w' B g gb ws (armD d n) ∧ Tch (fun k => k = g) w w' := by
  have H := Lib.hid h
  have e1 : decide (n < 0) = false := decide_eq_false (by omega)
  have HR := Lib.hid (armV_range hn)
  obtain ⟨a, ha⟩ : ∃ a, a = armV n := ⟨_, rfl⟩
  have HA := Lib.hid ha
  rw [← ha] at HR
  have hd : armD d n = { d with arm := a } := by unfold armD; rw [ha]
  rw [hd]
  clear h ha hd
  go_enter Try.func47, Try.ntmps47
  go_wp2_with fail
  refine (none_any H.out).mono ?_
  rintro e w' ⟨rfl, rfl⟩
  go_wp2_with fail
  all_goals
    first
      | (have ea : (4611686018427387905 : Int) = a := by rw [HA.out]; unfold armV; omega
         rw [ea])
      | (have ea : n + 1 = a := by rw [HA.out]; unfold armV; omega
         rw [ea])
    refine (store_any H.out.obj (j := 3) rfl a).mono ?_
    rintro e w5 ⟨rfl, rfl⟩
    go_wp2_with fail
    go_ret
    have T5 : Tch (fun k => k = g) w (w.setCell ⟨g, 3, none⟩ (.int .i64 a)) := (Tch.refl _ _).grown (set_grown _ g 3 _) (fun j e => .inl (by injection e with e; exact e.symm))
    exact ⟨rfl, H.out.upd T5 (fun _ e => e) d.down a d.fail d.wth HR.out H.out.fail0 (H.out.obj.set 3 _), T5⟩
def failD (d : DS) (n e : Int) : DS := { d with fail := armV n, wth := e }
theorem fail_bad (h : DiskAt w B g gb ws d) (n c : Int) (hn : n < 0 ∨ c ≠ 4 ∧ c ≠ 5) : Calls Try.prog 48 #[.pointer (some ⟨g, 0, none⟩), .int .i64 n, .int .i64 c] w fun e w' => e = .returned (.int .i64 2) ∧ w = w' := by
  have H := Lib.hid h
  clear h
  by_cases h1 : n < 0
  · have e1 : decide (n < 0) = true := decide_eq_true h1
    clear hn
    go_enter Try.func48, Try.ntmps48
    go_wp2_with fail
    refine (none_any H.out).mono ?_
    rintro e w' ⟨rfl, rfl⟩
    go_wp2_with fail
    go_ret
    exact ⟨rfl, rfl⟩
  · have e1 : decide (n < 0) = false := decide_eq_false h1
    obtain ⟨q4, q5⟩ := hn.resolve_left h1
    have e2 : ((c : Int) != 4) = true := by rw [bne_iff_ne]; exact q4
    have e3 : ((c : Int) != 5) = true := by rw [bne_iff_ne]; exact q5
    clear hn
    go_enter Try.func48, Try.ntmps48
    go_wp2_with fail
    refine (none_any H.out).mono ?_
    rintro e w' ⟨rfl, rfl⟩
    go_wp2_with fail
    go_ret
    exact ⟨rfl, rfl⟩
theorem fail_ok (h : DiskAt w B g gb ws d) (n c : Int) (hn : 0 ≤ n) (hc : c = 4 ∨ c = 5) : Calls Try.prog 48 #[.pointer (some ⟨g, 0, none⟩), .int .i64 n, .int .i64 c] w fun e w' => e = .returned (.int .i64 0) ∧ DiskAt w' B g gb ws (failD d n c) ∧ Tch (fun k => k = g) w w' := by
  have H := Lib.hid h
  have e1 : decide (n < 0) = false := decide_eq_false (by omega)
  have HR := Lib.hid (armV_range hn)
  obtain ⟨a, ha⟩ : ∃ a, a = armV n := ⟨_, rfl⟩
  have HA := Lib.hid ha
  rw [← ha] at HR
  have hd : failD d n c = { d with fail := a, wth := c } := by unfold failD; rw [ha]
  rw [hd]
  clear ha hd
  have T5 : Hid (Tch (fun k => k = g) w ((w.setCell ⟨g, 4, none⟩ (.int .i64 a)).setCell ⟨g, 5, none⟩ (.int .i64 c))) := ((Tch.refl _ _).grown (set_grown _ g 4 _) (fun j e => .inl (by injection e with e; exact e.symm))).grown (set_grown _ g 5 _) (fun j e => .inl (by injection e with e; exact e.symm))
  have O4 := Lib.hid (H.out.obj.set 4 (.int .i64 a))
  have k5 : (w.setCell ⟨g, 4, none⟩ (.int .i64 a)).cell? ⟨g, 5, none⟩ = some (.int .i64 d.wth) := O4.out.cell rfl
  have f5 : (w.setCell ⟨g, 4, none⟩ (.int .i64 a)).frozen? ⟨g, 5, none⟩ = false := O4.out.frozen 5
  clear h
  rcases hc with rfl | rfl
  all_goals
    go_enter Try.func48, Try.ntmps48
    go_wp2_with fail
    refine (none_any H.out).mono ?_
    rintro e w' ⟨rfl, rfl⟩
    go_wp2_with fail
    all_goals
      first
        | (have ea : (4611686018427387905 : Int) = a := by rw [HA.out]; unfold armV; omega
           rw [ea])
        | (have ea : n + 1 = a := by rw [HA.out]; unfold armV; omega
           rw [ea])
      refine (store_any H.out.obj (j := 4) rfl a).mono ?_
      rintro e w5 ⟨rfl, rfl⟩
      go_wp2_with fail
      go_ret
      exact ⟨rfl, H.out.upd T5.out (fun _ e => e) d.down d.arm a _ H.out.arm0 HR.out (O4.out.set 5 _), T5.out⟩
end
end Go.Proofs.Ytobnomlbkhkodaa.Y
