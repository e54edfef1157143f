/-
  The contracts of the small functions on bytes: Compare, Equal, Cmp, Same, SameBytes, CopyBytes.
-/
import Derived.Test.YtlfplcidgccgdaaProg
import Derived.Test.YtlfplcidgccgdaaYC
import Derived.Laws.AppendOwnNone
set_option linter.unusedVariables false
set_option linter.unusedSimpArgs false
namespace Go.Proofs.Ytlfplcidgccgdaa.Y
open Go.RowKit

theorem info_u8 : (Try.prog.info? 5).map (fun i => (i.zero, i.size, i.bytes)) = some (some (.int .u8 0), 1, 1) := by kernel_rfl

/-! ### 's[l:h]', 's[:h]', 's[l:]' at bytes: the walk takes these in the place of its own -/
@[go_sem high] theorem run_cut_lh (w : World) (a : Option Addr) (len cap : Nat) (kl kh : IntKind) (l h : Int) (h0 : 0 ≤ l) (h1 : l ≤ h) (h2 : h ≤ cap) :
    (Instr.slice 37 (.slice a len cap) (some (.int kl l)) (some (.int kh h)) none).run Try.prog w = .ok (.slice (cutA a cap l.toNat) (h.toNat - l.toNat) (cap - l.toNat)) w := by
  have hu : Try.prog.underlying 37 = some (.slice (Try.prog.elem 37)) := by simp [Program.elem, Try.underlying37]
  have he : Try.prog.elem 37 = 5 := by simp [Program.elem, Try.underlying37]
  have hs : (sizeOf 5).run Try.prog w = .ok 1 w := by kernel_rfl
  rw [run_slice_lh w 37 a len cap hu kl kh l h h0 h1 h2, he, hs]
  simp [Result.andThen, sliced, cutA]
@[go_sem high] theorem run_cut_l (w : World) (a : Option Addr) (len cap : Nat) (kl : IntKind) (l : Int) (h0 : 0 ≤ l) (h1 : l ≤ len) :
    (Instr.slice 37 (.slice a len cap) (some (.int kl l)) none none).run Try.prog w = .ok (.slice (cutA a cap l.toNat) (len - l.toNat) (cap - l.toNat)) w := by
  have hu : Try.prog.underlying 37 = some (.slice (Try.prog.elem 37)) := by simp [Program.elem, Try.underlying37]
  have he : Try.prog.elem 37 = 5 := by simp [Program.elem, Try.underlying37]
  have hs : (sizeOf 5).run Try.prog w = .ok 1 w := by kernel_rfl
  rw [run_slice_l w 37 a len cap hu kl l h0 h1, he, hs]
  simp [Result.andThen, sliced, cutA]
theorem addr_zero (a : Option Addr) : a.map (·.add 0) = a := by
  cases a with
  | none => rfl
  | some a => simp [Addr.add]
@[go_sem high] theorem run_cut_h (w : World) (a : Option Addr) (len cap : Nat) (kh : IntKind) (h : Int) (h0 : 0 ≤ h) (h2 : h ≤ cap) :
    (Instr.slice 37 (.slice a len cap) none (some (.int kh h)) none).run Try.prog w = .ok (.slice a h.toNat cap) w := by
  have hu : Try.prog.underlying 37 = some (.slice (Try.prog.elem 37)) := by simp [Program.elem, Try.underlying37]
  have he : Try.prog.elem 37 = 5 := by simp [Program.elem, Try.underlying37]
  have hs : (sizeOf 5).run Try.prog w = .ok 1 w := by kernel_rfl
  rw [run_slice_h w 37 a len cap hu kh h h0 h2, he, hs]
  simp [Result.andThen, sliced, addr_zero]

theorem find_compare : Extern.find Try.f125 = some Extern.BytealgCompare.compare := by kernel_rfl
theorem bytealg_any {w : World} {A B : Option Addr} {xs ys : List UInt8} {n m : Nat} (hn : xs.length = n) (hm : ys.length = m) (c d : Nat) (ha : Rd w A xs) (hb : Rd w B ys) :
    (callFunc 125 #[.slice A n c, .slice B m d]).run Try.prog w = .ok (.value (.int .i64 (cmpB xs ys))) w := by
  rw [run_callFunc_extern Try.func125 (by kernel_rfl) (by kernel_rfl) (by kernel_rfl) find_compare, run_compare ha hb hn hm c d]
  rfl

theorem compare_any {w : World} {A B : Option Addr} {xs ys : List UInt8} {n m : Nat} (hn : xs.length = n) (hm : ys.length = m) (c d : Nat) (ha : Rd w A xs) (hb : Rd w B ys) :
    Calls Try.prog 120 #[.slice A n c, .slice B m d] w fun e w' => e = .returned (.int .i64 (cmpB xs ys)) ∧ w = w' := by
  have h57 := bytealg_any hn hm c d ha hb
  clear hn hm ha hb
  go_enter Try.func120, Try.ntmps120
  go_wp2
  go_ret
  exact ⟨rfl, rfl⟩

theorem cmp_any {w : World} {A B : Option Addr} {xs ys : List UInt8} {n m : Nat} (hn : xs.length = n) (hm : ys.length = m) (c d : Nat) (ha : Rd w A xs) (hb : Rd w B ys) :
    Calls Try.prog 104 #[.slice A n c, .slice B m d] w fun e w' => e = .returned (.int .i64 (cmpB xs ys)) ∧ w = w' := by
  have H := compare_any hn hm c d ha hb
  clear hn hm ha hb
  have K := Lib.hid H
  clear H
  go_enter Try.func104, Try.ntmps104
  go_wp2_with (go_at_call 120; refine K.out.mono ?_; rintro e w' ⟨rfl, rfl⟩)
  go_ret
  exact ⟨rfl, rfl⟩

theorem equal_any {w : World} {A B : Option Addr} {xs ys : List UInt8} {n m : Nat} (hn : xs.length = n) (hm : ys.length = m) (c d : Nat) (ha : Rd w A xs) (hb : Rd w B ys) :
    Calls Try.prog 114 #[.slice A n c, .slice B m d] w fun e w' => e = .returned (.bool (eqB xs ys)) ∧ w = w' := by
  have h1 := ha.convert hn c Try.underlying37 Try.underlying5 Try.underlying9
  have h2 := hb.convert hm d Try.underlying37 Try.underlying5 Try.underlying9
  clear hn hm ha hb
  go_enter Try.func114, Try.ntmps114
  go_wp2
  go_ret
  exact ⟨rfl, rfl⟩

theorem same_any {w : World} {A B : Option Addr} {xs ys : List UInt8} {n m : Nat} (hn : xs.length = n) (hm : ys.length = m) (c d : Nat) (ha : Rd w A xs) (hb : Rd w B ys) :
    Calls Try.prog 90 #[.slice A n c, .slice B m d] w fun e w' => e = .returned (.bool (eqB xs ys)) ∧ w = w' := by
  have K := Lib.hid (equal_any hn hm c d ha hb)
  clear hn hm ha hb
  go_enter Try.func90, Try.ntmps90
  go_wp2_with (go_at_call 114; refine K.out.mono ?_; rintro e w' ⟨rfl, rfl⟩)
  go_ret
  exact ⟨rfl, rfl⟩

theorem sameBytes_any {w : World} {A B : Option Addr} {xs ys : List UInt8} {n m : Nat} (hn : xs.length = n) (hm : ys.length = m) (c d : Nat) (ha : Rd w A xs) (hb : Rd w B ys) :
    Calls Try.prog 41 #[.slice A n c, .slice B m d] w fun e w' => e = .returned (.bool (eqB xs ys)) ∧ w = w' := by
  have h1 := ha.convert hn c Try.underlying37 Try.underlying5 Try.underlying9
  have h2 := hb.convert hm d Try.underlying37 Try.underlying5 Try.underlying9
  clear hn hm ha hb
  go_enter Try.func41, Try.ntmps41
  go_wp2
  go_ret
  exact ⟨rfl, rfl⟩

set_option maxHeartbeats 400000 in
theorem copyBytes_any {w : World} {A : Option Addr} {xs : List UInt8} {n : Nat} (hn : xs.length = n) (c : Nat) (ha : Rd w A xs) (hb : n ≤ 140737488555328) :
    Calls Try.prog 42 #[.slice A n c] w fun e w' => ∃ v, e = .returned v ∧ Own w' w.heap.size v xs ∧ Below w.heap.size w w' := by
  have HN := Lib.hid hn
  have HA := Lib.hid ha
  clear hn ha
  go_enter Try.func42, Try.ntmps42
  go_wp2_with (at_builtin; refine wpList_append_bytes rfl _ _ 37 rfl w.heap.size Try.underlying37 info_u8 (.slice none 0 0) [] xs rfl (Own.nil _ _) A n c rfl HN.out HA.out (by simp; omega) (Nat.le_refl _) ?_; intro v1 w1 hown hg _ _)
  go_ret
  exact ⟨v1, rfl, hown, (Below.refl _ _).grown hg (Nat.le_refl _) (by intro k hk; cases hk)⟩
end Go.Proofs.Ytlfplcidgccgdaa.Y
