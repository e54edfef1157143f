/-
  The contracts of package octets: add and what is built on it; slices.Clone at bytes; Part.
-/
import Derived.Test.YtlfplcidgccgdaaO2
import Derived.Laws.CopyOwn
import Derived.Outline
set_option linter.unusedVariables false
set_option linter.unusedSimpArgs false
namespace Go.Proofs.Ytlfplcidgccgdaa.Y
open Go.RowKit

/-- The n lowest bytes of v, the lowest first. -/
def leB (v : Nat) : Nat → List UInt8
  | 0 => []
  | n + 1 => leB v n ++ [UInt8.ofNat (v / 256 ^ n)]
@[simp, go_sem] theorem leB_length (v n : Nat) : (leB v n).length = n := by
  induction n with
  | zero => rfl
  | succ n ih => simp [leB, ih]

/-- Noughts (a name that the walk does not open). -/
def zeros (n : Nat) : List UInt8 := List.replicate n 0
@[simp] theorem zeros_length (n : Nat) : (zeros n).length = n := by simp [zeros]
/-- make([]byte, l, c). -/
theorem make_bytes (l c : Nat) (hlc : l ≤ c) (hc : c ≤ 281474976710656) (W : World) :
    (Instr.makeSlice 37 (.int .i64 (l : Int)) (.int .i64 (c : Int))).run Try.prog W = .ok (.slice (some ⟨W.heap.size, 0, none⟩) l c) (W.alloc (.cells (bvs (zeros c)).toArray 5)) := by
  obtain ⟨i0, hi, hzz⟩ := Option.map_eq_some_iff.1 info_u8
  simp only [Prod.mk.injEq] at hzz
  obtain ⟨hz0, hz1, hz2⟩ := hzz
  have h := run_make (P := Try.prog) W 37 5 i0 (.int .u8 0) Try.underlying37 hi hz0 .i64 .i64 (l : Int) (c : Int) (by omega) (by omega) (by rw [hz2]; omega) (by omega)
  rw [h]
  have e : madeCells (Value.int IntKind.u8 0).cells ((c : Int).toNat * i0.size) = (bvs (zeros c)).toArray := by
    unfold zeros
    rw [hz1, Int.toNat_natCast, Nat.mul_one]
    apply Array.ext
    · simp [bvs, madeCells, Value.cells]
    · intro i h1 h2
      simp [madeCells, bvs, bv, Value.cells, Nat.mod_one]
  rw [e]
  simp

theorem make_lit (z : Int) (n : Nat) (hz : z = n) (hn : n ≤ 281474976710656) : ∀ W : World, (Instr.makeSlice 37 (.int .i64 z) (.int .i64 z)).run Try.prog W = .ok (.slice (some ⟨W.heap.size, 0, none⟩) n n) (W.alloc (.cells (bvs (zeros n)).toArray 5)) := by
  subst hz
  exact make_bytes n n (Nat.le_refl _) hn
theorem rd_zeros {w : World} {g n : Nat} (hg : g = w.heap.size) : Rd (w.alloc (.cells (bvs (zeros n)).toArray 5)) (some ⟨g, 0, none⟩) (zeros n) := by
  subst hg
  have := (Blk.new w (zeros n)).rd 0 n
  simpa [zeros] using this

set_option maxHeartbeats 800000 in
theorem add_any {w : World} {A : Option Addr} {xs : List UInt8} {l : Nat} (HL : Hid (xs.length = l)) (c : Nat) (HA : Hid (Rd w A xs)) (v n : Nat) (hn8 : n ≤ 8) (hl : l ≤ 140737488555328) :
    Calls Try.prog 113 #[.slice A l c, .int .u64 v, .int .i64 n] w fun e w' => ∃ r, e = .returned r ∧ Own w' w.heap.size r (xs ++ leB v n) ∧ Below w.heap.size w w' := by
  have hmk := make_bytes l (l + n) (by omega) (by omega)
  rw [show ((l + n : Nat) : Int) = (l : Int) + (n : Int) from by omega] at hmk
  go_enter Try.func113, Try.ntmps113
  have hcpy := Lib.hid hl
  go_wp2_with (with_reducible refine wpList_copy_bytes rfl (.tmp 16) (.tmp 17) 37 37 rfl Try.underlying37 info_u8 (some ⟨w.heap.size, 0, none⟩) A l (l + n) l c rfl rfl w.heap.size 0 (zeros (l + n)) xs (Blk.new _ _) HL.out (HA.out.alloc _) (fun _ => rfl) (by simp) ?_; intro w1 hb hg)
  have hown1 : Own w1 w.heap.size (.slice (some ⟨w.heap.size, 0, none⟩) l (l + n)) xs := by
    have hb' := hb.out
    have hl' : xs.length = l := HL.out
    have e : splice (zeros (l + n)) 0 (xs.take l) = xs ++ List.replicate n 0 := by
      rw [List.take_of_length_le (by omega)]
      simp [splice, zeros, hl']
    rw [e] at hb'
    have := hb'.own (B := w.heap.size) (n := l) (Nat.le_refl _) (by simp; omega) (by simp [maxLen]; omega)
    have e2 : (xs ++ List.replicate n (0 : UInt8)).take l = xs := by rw [← hl']; simp
    rw [e2] at this
    simpa [hl'] using this
  have hbel : Below w.heap.size w w1 := ((Below.refl _ w).alloc (Nat.le_refl _) _).grown hg (by simp) (by intro k hk; injection hk with hk; omega)
  clear hb hg hmk
  go_loopw [7, 8, 20] (fun r _ i wr => ∃ k : Nat, k ≤ n ∧ i = .int .i64 k ∧ Own wr w.heap.size r (xs ++ leB v k) ∧ Below w.heap.size w wr) (fun _ _ i _ => n - (intOf i).toNat)
  case atStart => exact ⟨0, Nat.zero_le _, rfl, by simpa [leB] using hown1, hbel⟩
  case round =>
    obtain ⟨k, hk, rfl, hown, hbw⟩ := hrel
    have HO := Lib.hid hown
    have HB := Lib.hid hbw
    clear hown hbw hown1 hbel
    by_cases hlt : k < n
    · go_wp2_with (at_builtin; refine wpList_append_bytes rfl (.tmp 23) (.tmp 29) 37 rfl w.heap.size Try.underlying37 info_u8 u7 (xs ++ leB v k) [UInt8.ofNat (v / 256 ^ k)] rfl (HO.out.alloc _) (some ⟨wr.heap.size, 0, none⟩) 1 1 rfl rfl (rd_box _ (by rw [ofNat_cell, ← pow8]; push_cast; rfl)) (by have := HL.out; simp [leB_length]; omega) (by have := HB.out.size; simp; omega) ?_; intro r2 w2 hown2 hg2 _ _)
      have hbw2 : Below w.heap.size w w2 := (balloc HB.out _).grown hg2 (by have := HB.out.size; simp; omega) (Own.base HO.out)
      have HO2 := Lib.hid hown2
      have HB2 := Lib.hid hbw2
      clear hown2 hg2 hbw2
      go_wp2
      go_roundw
      case rel => exact ⟨k + 1, by omega, by go_num, by have := HO2.out; simpa [leB, List.append_assoc] using this, HB2.out⟩
      case measure => simp [intOf]; omega
    · obtain rfl : k = n := by omega
      go_wp2
      go_ret
      exact ⟨_, rfl, HO.out, HB.out⟩

theorem add64_any {w : World} {A : Option Addr} {xs : List UInt8} {l : Nat} (HL : xs.length = l) (c : Nat) (HA : Rd w A xs) (v : Nat) (hl : l ≤ 140737488555328) :
    Calls Try.prog 79 #[.slice A l c, .int .u64 v] w fun e w' => ∃ r, e = .returned r ∧ Own w' w.heap.size r (xs ++ leB v 8) ∧ Below w.heap.size w w' := by
  have K := Lib.hid (add_any HL c HA v 8 (by decide) hl)
  clear HL HA
  go_enter Try.func79, Try.ntmps79
  go_wp2_with (go_at_call 113; refine K.out.mono ?_; rintro e w' ⟨r, rfl, hr, hb⟩)
  go_ret
  exact ⟨r, rfl, hr, hb⟩
theorem add32_any {w : World} {A : Option Addr} {xs : List UInt8} {l : Nat} (HL : xs.length = l) (c : Nat) (HA : Rd w A xs) (v : Nat) (hv : v < 4294967296) (hl : l ≤ 140737488555328) :
    Calls Try.prog 81 #[.slice A l c, .int .u32 v] w fun e w' => ∃ r, e = .returned r ∧ Own w' w.heap.size r (xs ++ leB v 4) ∧ Below w.heap.size w w' := by
  have K := Lib.hid (add_any HL c HA v 4 (by decide) hl)
  clear HL HA
  go_enter Try.func81, Try.ntmps81
  go_wp2_with (go_at_call 113; refine K.out.mono ?_; rintro e w' ⟨r, rfl, hr, hb⟩)
  go_ret
  exact ⟨r, rfl, hr, hb⟩
theorem add16_any {w : World} {A : Option Addr} {xs : List UInt8} {l : Nat} (HL : xs.length = l) (c : Nat) (HA : Rd w A xs) (v : Nat) (hv : v < 65536) (hl : l ≤ 140737488555328) :
    Calls Try.prog 80 #[.slice A l c, .int .u16 v] w fun e w' => ∃ r, e = .returned r ∧ Own w' w.heap.size r (xs ++ leB v 2) ∧ Below w.heap.size w w' := by
  have K := Lib.hid (add_any HL c HA v 2 (by decide) hl)
  clear HL HA
  go_enter Try.func80, Try.ntmps80
  go_wp2_with (go_at_call 113; refine K.out.mono ?_; rintro e w' ⟨r, rfl, hr, hb⟩)
  go_ret
  exact ⟨r, rfl, hr, hb⟩

/-- octets.AddPart. -/
theorem addPart_long {w : World} {A B : Option Addr} {l m : Nat} (c d : Nat) (hm : 65535 < m) (hm2 : m ≤ 140737488555328) :
    Calls Try.prog 82 #[.slice A l c, .slice B m d] w fun e w' => e = .returned (.tuple #[.slice none 0 0, .int .i64 3]) ∧ w = w' := by
  go_enter Try.func82, Try.ntmps82
  go_wp2
  go_ret2
  exact ⟨rfl, rfl⟩
set_option maxHeartbeats 400000 in
theorem addPart_any {w : World} {A B : Option Addr} {xs ys : List UInt8} {l m : Nat} (HL : Hid (xs.length = l)) (c : Nat) (HA : Hid (Rd w A xs)) (HM : Hid (ys.length = m)) (d : Nat) (HB : Hid (Rd w B ys)) (hm : m ≤ 65535) (hl : l ≤ 140737488555328) :
    Calls Try.prog 82 #[.slice A l c, .slice B m d] w fun e w' => ∃ r, e = .returned (.tuple #[r, .int .i64 0]) ∧ Own w' w.heap.size r (xs ++ leB m 2 ++ ys) ∧ Below w.heap.size w w' := by
  have K := Lib.hid (add_any HL c HA m 2 (by decide) (by omega))
  go_enter Try.func82, Try.ntmps82
  go_wp2_with (first | (go_at_call 113; refine K.out.mono ?_; rintro e w1 ⟨r, rfl, hr, hb⟩; have HR := Lib.hid hr; have HBe := Lib.hid hb; clear hr hb) | (at_builtin; refine wpList_append_bytes rfl (.tmp 13) (.tmp 14) 37 rfl w.heap.size Try.underlying37 info_u8 r (xs ++ leB m 2) ys rfl HR.out B m d rfl HM.out (HB.out.below HBe.out) (by have := HL.out; simp [leB_length]; omega) HBe.out.size ?_; intro r2 w2 hown2 hg2 _ _))
  go_ret2
  exact ⟨r2, rfl, hown2, HBe.out.grown hg2 HBe.out.size (Own.base HR.out)⟩
end Go.Proofs.Ytlfplcidgccgdaa.Y
