/-
  The contracts of the reference of layer 1: Number, Add, AddPart, Part, Cmp.
-/
import Derived.Test.YtlfplcidgccgdaaO4
set_option linter.unusedVariables false
set_option linter.unusedSimpArgs false
namespace Go.Proofs.Ytlfplcidgccgdaa.Y
open Go.RowKit

theorem numAt_cons (xs : List UInt8) (at_ k : Nat) (h : at_ < xs.length) : numAt xs at_ (k + 1) = xs[at_].toNat + 256 * numAt xs (at_ + 1) k := by
  unfold numAt
  rw [List.drop_eq_getElem_cons h, List.take_succ_cons]
  rfl
theorem numAt_zero (xs : List UInt8) (at_ : Nat) : numAt xs at_ 0 = 0 := by simp [numAt, leN]

theorem refNumber_no {w : World} {A : Option Addr} {l c : Nat} (at_ n : Int) (hn0 : 0 ≤ n) (hn8 : n ≤ 8) (hl : l ≤ 140737488555328) (hb : at_ < 0 ∨ (l : Int) - n < at_) :
    Calls Try.prog 76 #[.slice A l c, .int .i64 at_, .int .i64 n] w fun e w' => e = .returned (.tuple #[.int .u64 0, .bool false]) ∧ w = w' := by
  by_cases h0 : at_ < 0
  · go_enter Try.func76, Try.ntmps76
    go_wp2
    go_ret2
    exact ⟨rfl, rfl⟩
  · have h : (l : Int) - n < at_ := by omega
    by_cases h1 : (l : Int) < n
    · go_enter Try.func76, Try.ntmps76
      go_wp2
      go_ret2
      exact ⟨rfl, rfl⟩
    · go_enter Try.func76, Try.ntmps76
      go_wp2
      go_ret2
      exact ⟨rfl, rfl⟩
/-- What stands behind place m of the n bytes at a place. -/
def tailN (xs : List UInt8) (at_ n : Nat) (m : Int) : Nat := numAt xs (at_ + (m + 1).toNat) (n - (m + 1).toNat)
theorem tailN_step (xs : List UInt8) (at_ n k : Nat) (h : at_ + n ≤ xs.length) (hk : k < n) : tailN xs at_ n ((k : Int) - 1) = 256 * tailN xs at_ n k + (xs[at_ + k]'(by omega)).toNat := by
  unfold tailN
  rw [show (((k : Int) - 1) + 1).toNat = k from by omega, show ((k : Int) + 1).toNat = k + 1 from by omega, show n - k = n - (k + 1) + 1 from by omega, numAt_cons xs _ _ (by omega)]
  rw [show at_ + k + 1 = at_ + (k + 1) from by omega]
  omega
theorem tailN_lt (xs : List UInt8) (at_ n k : Nat) (hn : n ≤ 8) (hk : k < n) : tailN xs at_ n k < 72057594037927936 := by
  unfold tailN
  refine Nat.lt_of_lt_of_le (numAt_lt _ _ _) ?_
  exact Nat.le_trans (Nat.pow_le_pow_right (by decide) (show n - ((k : Int) + 1).toNat ≤ 7 by omega)) (by decide)
set_option maxHeartbeats 400000 in
theorem refNumber_yes {w : World} {A : Option Addr} {xs : List UInt8} {l c : Nat} (HL : Hid (xs.length = l)) (HA : Hid (Rd w A xs)) (at_ n : Nat) (hn8 : n ≤ 8) (hl : l ≤ 140737488555328) (hb : at_ + n ≤ l) :
    Calls Try.prog 76 #[.slice A l c, .int .i64 at_, .int .i64 n] w fun e w' => e = .returned (.tuple #[.int .u64 (numAt xs at_ n), .bool true]) ∧ w = w' := by
  have h1 : (n : Int) ≤ (l : Int) := by omega
  have h2 : (at_ : Int) ≤ (l : Int) - n := by omega
  go_enter Try.func76, Try.ntmps76
  go_wp2
  go_loop [8, 9] (fun v i => ∃ m : Int, -1 ≤ m ∧ m < n ∧ i = .int .i64 m ∧ v = .int .u64 (tailN xs at_ n m)) (fun _ i => (intOf i + 1).toNat)
  case atStart =>
    refine ⟨(n : Int) - 1, by omega, by omega, rfl, ?_⟩
    unfold tailN
    rw [show n - ((n : Int) - 1 + 1).toNat = 0 from by omega, numAt_zero]
    rfl
  case round =>
    obtain ⟨m, hm1, hm2, rfl, rfl⟩ := hrel
    by_cases hlt : 0 ≤ m
    · obtain ⟨k, rfl⟩ := Int.eq_ofNat_of_zero_le hlt
      obtain ⟨b, o, rfl, hc⟩ := HA.out.cell (j := at_ + k) (by have := HL.out; omega)
      have HZ := Lib.hid (tailN_step xs at_ n k (by have := HL.out; omega) (by omega))
      have hv := tailN_lt xs at_ n k hn8 (by omega)
      have hx := (xs[at_ + k]'(by have := HL.out; omega)).toNat_lt
      go_wp2
      go_round
      case rel => exact ⟨(k : Int) - 1, by omega, by omega, rfl, by rw [HZ.out]; go_num⟩
      case measure => simp [intOf]
    · obtain rfl : m = -1 := by omega
      go_wp2
      go_ret2
      exact ⟨rfl, rfl⟩
theorem refNumber_any {w : World} {A : Option Addr} {xs : List UInt8} {l : Nat} (HL : xs.length = l) (c : Nat) (HA : Rd w A xs) (at_ : Int) (n : Nat) (hn8 : n ≤ 8) (hl : l ≤ 140737488555328) :
    Calls Try.prog 76 #[.slice A l c, .int .i64 at_, .int .i64 n] w fun e w' => e = .returned (.tuple #[.int .u64 (numV xs at_ n), .bool (numOk xs at_ n)]) ∧ w = w' := by
  unfold numV numOk
  by_cases h : 0 ≤ at_ ∧ at_ + n ≤ xs.length
  · obtain ⟨k, rfl⟩ := Int.eq_ofNat_of_zero_le h.1
    rw [if_pos h, decide_eq_true h, Int.toNat_natCast]
    exact refNumber_yes HL HA k n hn8 hl (by omega)
  · rw [if_neg h, decide_eq_false h]
    exact refNumber_no at_ n (by omega) (by omega) hl (by omega)

set_option maxHeartbeats 800000 in
theorem refAdd_any {w : World} {A : Option Addr} {xs : List UInt8} {l : Nat} (HL : Hid (xs.length = l)) (c : Nat) (HA : Hid (Rd w A xs)) (v n : Nat) (hn8 : n ≤ 8) (hv : v < 18446744073709551616) (hl : l ≤ 140737488555328) :
    Calls Try.prog 84 #[.slice A l c, .int .u64 v, .int .i64 n] w fun e w' => ∃ r, e = .returned r ∧ Own w' w.heap.size r (xs ++ leB v n) ∧ Below w.heap.size w w' := by
  have hlv : Hid (v < 18446744073709551616) := hv
  clear hv
  go_enter Try.func84, Try.ntmps84
  go_wp2_with (at_builtin; refine wpList_append_bytes rfl _ _ 37 rfl w.heap.size Try.underlying37 info_u8 (.slice none 0 0) [] xs rfl (Own.nil _ _) A l c rfl HL.out HA.out (by simp; omega) (Nat.le_refl _) ?_; intro v1 w1 hown1 hg _ _)
  have hbel : Below w.heap.size w w1 := (Below.refl _ _).grown hg (Nat.le_refl _) (by intro k hk; cases hk)
  clear hg
  go_loopw [1, 7, 8] (fun q r i wr => ∃ k : Nat, k ≤ n ∧ i = .int .i64 k ∧ q = .int .u64 ((v / 256 ^ k : Nat) : Int) ∧ Own wr w.heap.size r (xs ++ leB v k) ∧ Below w.heap.size w wr) (fun _ _ i _ => n - (intOf i).toNat)
  case atStart => exact ⟨0, Nat.zero_le _, rfl, by simp, by simpa [leB] using hown1, hbel⟩
  case round =>
    obtain ⟨k, hk, rfl, rfl, hown, hbw⟩ := hrel
    have HO := Lib.hid hown
    have HB := Lib.hid hbw
    clear hown hbw hown1 hbel
    have HQ : Hid (v / 256 ^ (k + 1) = v / 256 ^ k / 256) := by show _ = _; rw [Nat.pow_succ, Nat.div_div_eq_div_mul]
    have hq : v / 256 ^ k < 18446744073709551616 := Nat.lt_of_le_of_lt (Nat.div_le_self _ _) hlv.out
    have hx : Hid (leB v (k + 1) = leB v k ++ [UInt8.ofNat (v / 256 ^ k)]) := rfl
    generalize hy : v / 256 ^ k = y at *
    clear hy
    by_cases hlt : k < n
    · go_wp2_with (at_builtin; refine wpList_append_bytes rfl _ _ 37 rfl w.heap.size Try.underlying37 info_u8 u7 (xs ++ leB v k) [UInt8.ofNat y] rfl (HO.out.alloc _) (some ⟨wr.heap.size, 0, none⟩) 1 1 rfl rfl (rd_box _ (by rw [ofNat_cell])) (by have := HL.out; simp [leB_length]; omega) (by have := HB.out.size; simp; omega) ?_; intro r2 w2 hown2 hg2 _ _)
      have hbw2 : Below w.heap.size w w2 := (balloc HB.out _).grown hg2 (by have := HB.out.size; simp; omega) (Own.base HO.out)
      have HO2 := Lib.hid hown2
      have HB2 := Lib.hid hbw2
      clear hown2 hg2 hbw2
      go_wp2
      go_roundw
      case rel => exact ⟨k + 1, by omega, by go_num, by rw [HQ.out]; go_num, by have := HO2.out; rw [hx.out, ← List.append_assoc]; exact this, HB2.out⟩
      case measure => simp [intOf]; omega
    · obtain rfl : k = n := by omega
      go_wp2
      go_ret
      exact ⟨_, rfl, HO.out, HB.out⟩
theorem refAddPart_long {w : World} {A B : Option Addr} {l m : Nat} (c d : Nat) (hm : 65535 < m) (hm2 : m ≤ 140737488555328) :
    Calls Try.prog 85 #[.slice A l c, .slice B m d] w fun e w' => e = .returned (.tuple #[.slice none 0 0, .int .i64 3]) ∧ w = w' := by
  go_enter Try.func85, Try.ntmps85
  go_wp2
  go_ret2
  exact ⟨rfl, rfl⟩
set_option maxHeartbeats 400000 in
theorem refAddPart_any {w : World} {A B : Option Addr} {xs ys : List UInt8} {l m : Nat} (HL : Hid (xs.length = l)) (c : Nat) (HA : Hid (Rd w A xs)) (HM : Hid (ys.length = m)) (d : Nat) (HB : Hid (Rd w B ys)) (hm : m ≤ 65535) (hl : l ≤ 140737488555328) :
    Calls Try.prog 85 #[.slice A l c, .slice B m d] w fun e w' => ∃ r, e = .returned (.tuple #[r, .int .i64 0]) ∧ Own w' w.heap.size r (xs ++ leB m 2 ++ ys) ∧ Below w.heap.size w w' := by
  have K := Lib.hid (refAdd_any HL c HA m 2 (by decide) (by omega) (by omega))
  go_enter Try.func85, Try.ntmps85
  go_wp2_with (first | (go_at_call 84; refine K.out.mono ?_; rintro e w1 ⟨r, rfl, hr, hb⟩; have HR := Lib.hid hr; have HBe := Lib.hid hb; clear hr hb) | (at_builtin; refine wpList_append_bytes rfl _ _ 37 rfl w.heap.size Try.underlying37 info_u8 r (xs ++ leB m 2) ys rfl HR.out B m d rfl HM.out (HB.out.below HBe.out) (by have := HL.out; simp [leB_length]; omega) HBe.out.size ?_; intro r2 w2 hown2 hg2 _ _))
  go_ret2
  exact ⟨r2, rfl, hown2, HBe.out.grown hg2 HBe.out.size (Own.base HR.out)⟩

theorem refPart_no {w : World} {A : Option Addr} {xs : List UInt8} {l : Nat} (hL : xs.length = l) (c : Nat) (hA : Rd w A xs) (at_ : Int) (hl : l ≤ 140737488555328) (hno : partOk xs at_ = false) :
    Calls Try.prog 112 #[.slice A l c, .int .i64 at_] w fun e w' => e = .returned (.tuple #[.slice none 0 0, .int .i64 0, .bool false]) ∧ w = w' := by
  have K := Lib.hid (refNumber_any hL c hA at_ 2 (by decide) hl)
  have hv : numV xs at_ 2 < 65536 := numV_lt xs at_ 2
  unfold partOk at hno
  by_cases h0 : numOk xs at_ 2 = true
  · rw [h0] at hno
    have h1 : ¬ (at_ + 2 + numV xs at_ 2 ≤ xs.length) := by simpa using hno
    have h2 : 0 ≤ at_ ∧ at_ + 2 ≤ xs.length := by simpa [numOk] using h0
    have h3 : (l : Int) - at_ - 2 < (numV xs at_ 2 : Int) := by omega
    have h4 : 0 ≤ at_ := h2.1
    have h5 : at_ + 2 ≤ l := by omega
    clear hL hA hno h1 h2
    go_enter Try.func112, Try.ntmps112
    go_wp2_with (go_at_call 76; refine K.out.mono ?_; rintro e w' ⟨rfl, rfl⟩)
    go_ret3
    exact ⟨rfl, rfl⟩
  · have h1 : numOk xs at_ 2 = false := by simpa using h0
    clear hL hA hno h0
    go_enter Try.func112, Try.ntmps112
    go_wp2_with (go_at_call 76; refine K.out.mono ?_; rintro e w' ⟨rfl, rfl⟩)
    go_ret3
    exact ⟨rfl, rfl⟩
theorem mid_snoc (xs : List UInt8) (a k : Nat) (h : a + k < xs.length) : (xs.drop a).take (k + 1) = (xs.drop a).take k ++ [xs[a + k]] := by
  rw [List.take_succ_eq_append_getElem (by simp; omega)]
  simp
set_option maxHeartbeats 800000 in
theorem refPart_yes {w : World} {A : Option Addr} {xs : List UInt8} {l : Nat} (hL : xs.length = l) (c : Nat) (hA : Rd w A xs) (at_ : Nat) (hl : l ≤ 140737488555328) (hyes : partOk xs at_ = true) :
    Calls Try.prog 112 #[.slice A l c, .int .i64 at_] w fun e w' => ∃ r, e = .returned (.tuple #[r, .int .i64 ((at_ : Int) + 2 + numV xs at_ 2), .bool true]) ∧ Own w' w.heap.size r (partV xs at_) ∧ Below w.heap.size w w' := by
  have K := Lib.hid (refNumber_any hL c hA at_ 2 (by decide) hl)
  have hv : numV xs at_ 2 < 65536 := numV_lt xs at_ 2
  have hy : numOk xs at_ 2 = true ∧ (at_ : Int) + 2 + numV xs at_ 2 ≤ xs.length := by simpa [partOk] using hyes
  obtain ⟨h0, h1⟩ := hy
  have h3 : at_ + 2 + numV xs at_ 2 ≤ l := by omega
  have HA := Lib.hid hA
  have HL := Lib.hid hL
  have e0 : partV xs at_ = (xs.drop (at_ + 2)).take (numV xs at_ 2) := rfl
  rw [e0]
  clear hL hA hyes h1 e0
  generalize hq : numV xs at_ 2 = q at *
  clear hq
  have h4 : (q : Int) ≤ (l : Int) - at_ - 2 := by omega
  go_enter Try.func112, Try.ntmps112
  go_wp2_with (go_at_call 76; refine K.out.mono ?_; rintro e w' ⟨rfl, rfl⟩)
  go_loopw [9, 10] (fun r i wr => ∃ k : Nat, k ≤ q ∧ i = .int .i64 k ∧ Own wr w.heap.size r ((xs.drop (at_ + 2)).take k) ∧ Below w.heap.size w wr) (fun _ i _ => q - (intOf i).toNat)
  case atStart => exact ⟨0, Nat.zero_le _, rfl, by simpa using Own.nil _ _, Below.refl _ _⟩
  case round =>
    obtain ⟨k, hk, rfl, hown, hbw⟩ := hrel
    have HO := Lib.hid hown
    have HB := Lib.hid hbw
    clear hown hbw
    by_cases hlt : k < q
    · obtain ⟨b, o, rfl, hc⟩ := (HA.out.below HB.out).cell (j := at_ + 2 + k) (by have := HL.out; omega)
      have HX := Lib.hid (mid_snoc xs (at_ + 2) k (by have := HL.out; omega))
      have HK : Hid (((xs.drop (at_ + 2)).take k).length = k) := mid_len xs (at_ + 2) k (by have := HL.out; omega)
      obtain ⟨x, hx⟩ : ∃ x, x = xs[at_ + 2 + k]'(by have := HL.out; omega) := ⟨_, rfl⟩
      rw [← hx] at hc HX
      clear hx
      go_wp2_with (at_builtin; refine wpList_append_bytes rfl _ _ 37 rfl w.heap.size Try.underlying37 info_u8 u9 ((xs.drop (at_ + 2)).take k) [x] rfl (HO.out.alloc _) (some ⟨wr.heap.size, 0, none⟩) 1 1 rfl rfl (rd_box _ rfl) (by have := HK.out; omega) (by have := HB.out.size; simp; omega) ?_; intro r2 w2 hown2 hg2 _ _)
      have hbw2 : Below w.heap.size w w2 := (balloc HB.out _).grown hg2 (by have := HB.out.size; simp; omega) (Own.base HO.out)
      have HO2 := Lib.hid hown2
      have HB2 := Lib.hid hbw2
      clear hown2 hg2 hbw2
      go_wp2
      go_roundw
      case rel => exact ⟨k + 1, by omega, by go_num, by rw [HX.out]; exact HO2.out, HB2.out⟩
      case measure => simp [intOf]; omega
    · obtain rfl : k = q := by omega
      go_wp2
      go_ret3
      exact ⟨_, rfl, HO.out, HB.out⟩

theorem cmpB_step {xs ys : List UInt8} {k : Nat} (hx : k < xs.length) (hy : k < ys.length) (h : cmpB xs ys = cmpB (xs.drop k) (ys.drop k)) :
    cmpB xs ys = if xs[k] < ys[k] then -1 else if ys[k] < xs[k] then 1 else cmpB (xs.drop (k + 1)) (ys.drop (k + 1)) := by
  rw [h]
  unfold cmpB
  rw [List.drop_eq_getElem_cons hx, List.drop_eq_getElem_cons hy]
  rfl
theorem cmpB_end {xs ys : List UInt8} {k : Nat} (hk : xs.length ≤ k ∨ ys.length ≤ k) (hx : k ≤ xs.length) (hy : k ≤ ys.length) (h : cmpB xs ys = cmpB (xs.drop k) (ys.drop k)) :
    cmpB xs ys = if xs.length < ys.length then -1 else if ys.length < xs.length then 1 else 0 := by
  rw [h]
  have e1 : xs.drop k = [] ∨ ys.drop k = [] := by
    rcases hk with hk | hk
    · exact .inl (List.drop_eq_nil_of_le hk)
    · exact .inr (List.drop_eq_nil_of_le hk)
  have e2 : (xs.drop k).length = xs.length - k := by simp
  have e3 : (ys.drop k).length = ys.length - k := by simp
  cases ha : xs.drop k with
  | nil =>
    rw [ha] at e2
    cases hb : ys.drop k with
    | nil => rw [hb] at e3; simp at e2 e3; rw [if_neg (by omega), if_neg (by omega)]; rfl
    | cons y ys' => rw [hb] at e3; simp at e2 e3; rw [if_pos (by omega)]; rfl
  | cons x xs' =>
    rw [ha] at e2
    cases hb : ys.drop k with
    | nil => rw [hb] at e3; simp at e2 e3; rw [if_neg (by omega), if_pos (by omega)]; rfl
    | cons y ys' => rw [ha, hb] at e1; simp at e1
/-! The same at whole numbers. -/
theorem add16I {w : World} {A : Option Addr} {xs : List UInt8} {l : Nat} (HL : xs.length = l) (c : Nat) (HA : Rd w A xs) (v : Int) (h0 : 0 ≤ v) (hv : v < 65536) (hl : l ≤ 140737488555328) :
    Calls Try.prog 80 #[.slice A l c, .int .u16 v] w fun e w' => ∃ r, e = .returned r ∧ Own w' w.heap.size r (xs ++ leB v.toNat 2) ∧ Below w.heap.size w w' := by
  obtain ⟨k, rfl⟩ := Int.eq_ofNat_of_zero_le h0
  exact add16_any HL c HA k (by omega) hl
theorem add32I {w : World} {A : Option Addr} {xs : List UInt8} {l : Nat} (HL : xs.length = l) (c : Nat) (HA : Rd w A xs) (v : Int) (h0 : 0 ≤ v) (hv : v < 4294967296) (hl : l ≤ 140737488555328) :
    Calls Try.prog 81 #[.slice A l c, .int .u32 v] w fun e w' => ∃ r, e = .returned r ∧ Own w' w.heap.size r (xs ++ leB v.toNat 4) ∧ Below w.heap.size w w' := by
  obtain ⟨k, rfl⟩ := Int.eq_ofNat_of_zero_le h0
  exact add32_any HL c HA k (by omega) hl
theorem refAddI {w : World} {A : Option Addr} {xs : List UInt8} {l : Nat} (HL : xs.length = l) (c : Nat) (HA : Rd w A xs) (v n : Int) (h0 : 0 ≤ v) (hv : v < 18446744073709551616) (hn0 : 0 ≤ n) (hn8 : n ≤ 8) (hl : l ≤ 140737488555328) :
    Calls Try.prog 84 #[.slice A l c, .int .u64 v, .int .i64 n] w fun e w' => ∃ r, e = .returned r ∧ Own w' w.heap.size r (xs ++ leB v.toNat n.toNat) ∧ Below w.heap.size w w' := by
  obtain ⟨k, rfl⟩ := Int.eq_ofNat_of_zero_le h0
  obtain ⟨j, rfl⟩ := Int.eq_ofNat_of_zero_le hn0
  exact refAdd_any HL c HA k j (by omega) (by omega) hl
theorem refPart_yesI {w : World} {A : Option Addr} {xs : List UInt8} {l : Nat} (hL : xs.length = l) (c : Nat) (hA : Rd w A xs) (at_ : Int) (h0 : 0 ≤ at_) (hl : l ≤ 140737488555328) (hyes : partOk xs at_ = true) :
    Calls Try.prog 112 #[.slice A l c, .int .i64 at_] w fun e w' => ∃ r, e = .returned (.tuple #[r, .int .i64 (at_ + 2 + numV xs at_ 2), .bool true]) ∧ Own w' w.heap.size r (partV xs at_) ∧ Below w.heap.size w w' := by
  obtain ⟨k, rfl⟩ := Int.eq_ofNat_of_zero_le h0
  exact refPart_yes hL c hA k hl hyes
end Go.Proofs.Ytlfplcidgccgdaa.Y
