/-
  verkey.First, Behind, Join.
-/
import Derived.Test.YtjenedfpjpiknaaV1
set_option linter.unusedVariables false
set_option linter.unusedSimpArgs false
namespace Go.Proofs.Ytjenedfpjpiknaa.Y
open Go.RowKit

theorem first_any {w : World} {A : Option Addr} {xs : List UInt8} {l : Nat} (hL : xs.length = l) (c : Nat) (hA : Rd w A xs) (hl : l ≤ 1048576) :
    Calls Try.prog 19 #[.slice A l c] w fun e w' => ∃ r, e = .returned r ∧ Own w' w.heap.size r (textB xs ++ [0, 0]) ∧ Below w.heap.size w w' := by
  have K := Lib.hid (text_any hL c hA hl)
  have HN : Hid ((textB xs).length ≤ 2097152) := by show _ ≤ _; have := textB_length xs; omega
  clear hL hA
  go_enter Try.func19, Try.ntmps19
  go_wp2_with (first | (go_at_call 52; refine K.out.mono ?_; rintro e w1 ⟨v, rfl, h1, h2⟩; have H1 := Lib.hid h1; have H2 := Lib.hid h2; clear h1 h2) | (at_builtin; refine wpList_append_bytes rfl (.tmp 4) (.tmp 5) 22 rfl w.heap.size Try.underlying22 info_u8 v (textB xs) [0, 0] rfl (H1.out.alloc _) (some ⟨w1.heap.size, 0, none⟩) 2 2 rfl rfl (rd_lit _ _ rfl) (by have := HN.out; omega) (by have := H2.out.size; simp; omega) ?_; intro v2 w2 hown2 hg2 _ _; have HL := Lib.hid hown2; have HG2 := Lib.hid hg2; clear hown2 hg2))
  go_ret
  exact ⟨_, rfl, HL.out, (balloc H2.out _).grown HG2.out (by have := H2.out.size; simp; omega) (Own.base H1.out)⟩
theorem behind_any {w : World} {A : Option Addr} {xs : List UInt8} {l : Nat} (hL : xs.length = l) (c : Nat) (hA : Rd w A xs) (hl : l ≤ 1048576) :
    Calls Try.prog 20 #[.slice A l c] w fun e w' => ∃ r, e = .returned r ∧ Own w' w.heap.size r (textB xs ++ [0, 1]) ∧ Below w.heap.size w w' := by
  have K := Lib.hid (text_any hL c hA hl)
  have HN : Hid ((textB xs).length ≤ 2097152) := by show _ ≤ _; have := textB_length xs; omega
  clear hL hA
  go_enter Try.func20, Try.ntmps20
  go_wp2_with (first | (go_at_call 52; refine K.out.mono ?_; rintro e w1 ⟨v, rfl, h1, h2⟩; have H1 := Lib.hid h1; have H2 := Lib.hid h2; clear h1 h2) | (at_builtin; refine wpList_append_bytes rfl (.tmp 4) (.tmp 5) 22 rfl w.heap.size Try.underlying22 info_u8 v (textB xs) [0, 1] rfl (H1.out.alloc _) (some ⟨w1.heap.size, 0, none⟩) 2 2 rfl rfl (rd_lit _ _ rfl) (by have := HN.out; omega) (by have := H2.out.size; simp; omega) ?_; intro v2 w2 hown2 hg2 _ _; have HL := Lib.hid hown2; have HG2 := Lib.hid hg2; clear hown2 hg2))
  go_ret
  exact ⟨_, rfl, HL.out, (balloc H2.out _).grown HG2.out (by have := H2.out.size; simp; omega) (Own.base H1.out)⟩

/-- The first k of the eight bytes of a number, the great end first. -/
def beB (v k : Nat) : List UInt8 := (List.range k).map fun i => UInt8.ofNat (v / 2 ^ (56 - 8 * i))
theorem beB_succ (v k : Nat) : beB v (k + 1) = beB v k ++ [UInt8.ofNat (v / 2 ^ (56 - 8 * k))] := by
  unfold beB
  rw [List.range_succ, List.map_append]
  rfl
theorem beB_length (v k : Nat) : (beB v k).length = k := by simp [beB]
def joinB (xs : List UInt8) (n : Nat) : List UInt8 := textB xs ++ [0, 0] ++ beB (18446744073709551615 - n) 8
def mayB (xs : List UInt8) (n : Int) : Prop := 0 < xs.length ∧ xs.length ≤ 128 ∧ 0 ≤ n ∧ n ≤ 4611686018427387904
theorem join_no {w : World} {A : Option Addr} {l : Nat} (c : Nat) (n : Int) (hl : l ≤ 140737488355328) (h : ¬ (0 < l ∧ l ≤ 128 ∧ 0 ≤ n ∧ n ≤ 4611686018427387904)) :
    Calls Try.prog 21 #[.slice A l c, .int .i64 n] w fun e w' => e = .returned (.tuple #[.slice none 0 0, .int .i64 2]) ∧ w = w' := by
  by_cases h0 : l = 0
  · subst h0
    go_enter Try.func21, Try.ntmps21
    go_wp2
    go_ret2
    exact ⟨rfl, rfl⟩
  · have h1 : ((l : Int) == 0) = false := by rw [beq_eq_false_iff_ne]; omega
    have h2 : (l == 0) = false := by rw [beq_eq_false_iff_ne]; omega
    by_cases h3 : 128 < l
    · go_enter Try.func21, Try.ntmps21
      go_wp2
      go_ret2
      exact ⟨rfl, rfl⟩
    · by_cases h4 : n < 0
      · go_enter Try.func21, Try.ntmps21
        go_wp2
        go_ret2
        exact ⟨rfl, rfl⟩
      · have h5 : 4611686018427387904 < n := by omega
        go_enter Try.func21, Try.ntmps21
        go_wp2
        go_ret2
        exact ⟨rfl, rfl⟩
theorem not_u64 (n : Nat) (h : n < 18446744073709551616) : bits BinOp.xor IntKind.u64 IntKind.u64.max (n : Int) = ((18446744073709551615 - n : Nat) : Int) := by
  have e : (18446744073709551615 ^^^ n : Nat) = 18446744073709551615 - n := by
    have := BitVec.toNat_not (x := BitVec.ofNat 64 n)
    rw [BitVec.not_def, BitVec.toNat_xor, BitVec.toNat_ofNat, Nat.mod_eq_of_lt h] at this
    simpa using this
  rw [← e]
  exact u64_xor_nat 18446744073709551615 n (by decide) h
set_option maxHeartbeats 800000 in
theorem join_yes {w : World} {A : Option Addr} {xs : List UInt8} {l : Nat} (hL : xs.length = l) (c : Nat) (hA : Rd w A xs) (n : Nat) (h0 : 0 < l) (h1 : l ≤ 128) (h2 : n ≤ 4611686018427387904) :
    Calls Try.prog 21 #[.slice A l c, .int .i64 n] w fun e w' => ∃ r, e = .returned (.tuple #[r, .int .i64 0]) ∧ Own w' w.heap.size r (joinB xs n) ∧ Below w.heap.size w w' := by
  have K := Lib.hid (first_any hL c hA (by omega))
  have HN : Hid ((textB xs).length ≤ 256) := by show _ ≤ _; have := textB_length xs; omega
  have h3 : ((l : Int) == 0) = false := by rw [beq_eq_false_iff_ne]; omega
  have h4 : (l == 0) = false := by rw [beq_eq_false_iff_ne]; omega
  clear hL hA
  go_enter Try.func21, Try.ntmps21
  go_wp2_with fail
  refine K.out.mono ?_
  rintro e w1 ⟨r, rfl, h5, h6⟩
  have O1 := Lib.hid h5
  have B1 := Lib.hid h6
  clear h5 h6
  go_wp2_with fail
  have hnot := Lib.hid (not_u64 n (by omega))
  have hsg : IntKind.u64.signed = false := rfl
  go_loopw [6, 26] (fun o i wr => ∃ j : Nat, j ≤ 8 ∧ i = .int .i64 j ∧ Hid (Own wr w.heap.size o (textB xs ++ [0, 0] ++ beB (18446744073709551615 - n) j) ∧ Below w.heap.size w wr)) (fun _ i _ => 8 - (intOf i).toNat)
  case atStart => exact ⟨0, by decide, rfl, by rw [show beB (18446744073709551615 - n) 0 = [] from rfl, List.append_nil]; exact O1.out, B1.out⟩
  case round =>

    obtain ⟨j, hj, rfl, hI⟩ := hrel
    by_cases hlt : j < 8
    · go_wp2_with (at_builtin; refine wpList_append_bytes (by rfl) (.tmp 29) (.tmp 38) 22 rfl w.heap.size Try.underlying22 info_u8 u6 (textB xs ++ [0, 0] ++ beB (18446744073709551615 - n) j) [UInt8.ofNat ((18446744073709551615 - n) / 2 ^ (56 - 8 * j))] rfl (hI.out.1.alloc _) (some ⟨wr.heap.size, 0, none⟩) 1 1 rfl rfl (by exact rd_box _ (by rw [hnot.out, ofNat_cell]; rfl)) (by have := HN.out; simp only [List.length_append, beB_length, List.length_cons, List.length_nil]; omega) (by have := hI.out.2.size; simp; omega) ?_; intro v2 w2 hvv hg _ _; have V2 := Lib.hid hvv; have B2 := Lib.hid ((balloc hI.out.2 _).grown hg (by have := hI.out.2.size; simp; omega) (Own.base hI.out.1)); clear hvv hg)
      go_roundw
      case rel =>
        refine ⟨j + 1, by omega, by go_num, ?_⟩
        show _ ∧ _
        rw [beB_succ, ← List.append_assoc]
        exact ⟨V2.out, B2.out⟩
      case measure => simp [intOf]; omega
    · obtain rfl : j = 8 := by omega
      go_wp2_with fail
      go_ret2
      exact ⟨_, rfl, hI.out.1, hI.out.2⟩
end Go.Proofs.Ytjenedfpjpiknaa.Y
