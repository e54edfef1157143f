/-
  Totals of Seal and Open; the walk of StampTells.
-/
import Derived.Test.YtjenedfpjpiknaaS5
set_option linter.unusedVariables false
set_option linter.unusedSimpArgs false
namespace Go.Proofs.Ytjenedfpjpiknaa.Y
open Go.RowKit

def sealC (l : Nat) : Int := if l ≤ 4080 then 0 else 3
def sealR (xs : List UInt8) (v : Nat) : List UInt8 := if xs.length ≤ 4080 then sealB xs v else []
theorem seal_tot {w : World} {A : Option Addr} {xs : List UInt8} {l : Nat} (hL : xs.length = l) (c : Nat) (hA : Rd w A xs) (v : Nat) (hl : l ≤ 140737488555328) :
    Calls Try.prog 25 #[.slice A l c, .int .u64 v] w fun e w' => ∃ r, e = .returned (.tuple #[r, .int .i64 (sealC l)]) ∧ Own w' w.heap.size r (sealR xs v) ∧ Below w.heap.size w w' := by
  unfold sealC sealR
  rw [hL]
  by_cases h : l ≤ 4080
  · rw [if_pos h, if_pos h]
    exact seal_any hL c hA v h
  · rw [if_neg h, if_neg h]
    refine (seal_long v (by omega) hl).mono ?_
    rintro e w' ⟨rfl, rfl⟩
    exact ⟨_, rfl, Own.nil _ _, Below.refl _ _⟩
theorem refSeal_tot {w : World} {A : Option Addr} {xs : List UInt8} {l : Nat} (hL : xs.length = l) (c : Nat) (hA : Rd w A xs) (v : Nat) (hv : v < 18446744073709551616) (hl : l ≤ 140737488555328) :
    Calls Try.prog 32 #[.slice A l c, .int .u64 v] w fun e w' => ∃ r, e = .returned (.tuple #[r, .int .i64 (sealC l)]) ∧ Own w' w.heap.size r (sealR xs v) ∧ Below w.heap.size w w' := by
  unfold sealC sealR
  rw [hL]
  by_cases h : l ≤ 4080
  · rw [if_pos h, if_pos h]
    exact refSeal_any hL c hA v hv h
  · rw [if_neg h, if_neg h]
    refine (refSeal_long v (by omega) hl).mono ?_
    rintro e w' ⟨rfl, rfl⟩
    exact ⟨_, rfl, Own.nil _ _, Below.refl _ _⟩
def openOk (xs : List UInt8) : Prop := xs.length = 4096 ∧ xs.take 8 = xs.drop 4088
instance (xs : List UInt8) : Decidable (openOk xs) := by unfold openOk; infer_instance
def openC (xs : List UInt8) : Int := if xs.length ≠ 4096 then 2 else if xs.take 8 = xs.drop 4088 then 0 else 140
def openN (xs : List UInt8) : Nat := if openOk xs then numV xs 0 8 else 0
def openR (xs : List UInt8) : List UInt8 := if openOk xs then (xs.drop 8).take 4080 else []
theorem open_tot {w : World} {A : Option Addr} {xs : List UInt8} {l : Nat} (hL : xs.length = l) (c : Nat) (hA : Rd w A xs) (hc : l ≤ c) (hl : l ≤ 140737488555328) :
    Calls Try.prog 27 #[.slice A l c] w fun e w' => ∃ r, e = .returned (.tuple #[r, .int .u64 (openN xs), .int .i64 (openC xs)]) ∧ Own w' w.heap.size r (openR xs) ∧ Below w.heap.size w w' := by
  unfold openC openN openR
  by_cases h : xs.length = 4096
  · obtain rfl : l = 4096 := by omega
    by_cases hq : xs.take 8 = xs.drop 4088
    · rw [if_neg (show ¬ xs.length ≠ 4096 from not_not_intro h), if_pos hq, if_pos (show openOk xs from ⟨h, hq⟩), if_pos (show openOk xs from ⟨h, hq⟩)]
      exact open_ok (Lib.hid h) c (Lib.hid hA) hc (Lib.hid hq)
    · rw [if_neg (show ¬ xs.length ≠ 4096 from not_not_intro h), if_neg hq, if_neg (show ¬ openOk xs from fun e => hq e.2), if_neg (show ¬ openOk xs from fun e => hq e.2)]
      refine (open_bad (Lib.hid h) c (Lib.hid hA) hc (Lib.hid hq)).mono ?_
      rintro e w' ⟨rfl, hb⟩
      exact ⟨_, rfl, Own.nil _ _, hb⟩
  · rw [if_pos (show xs.length ≠ 4096 from h), if_neg (show ¬ openOk xs from fun e => h e.1), if_neg (show ¬ openOk xs from fun e => h e.1)]
    refine (open_arg (by omega) hl).mono ?_
    rintro e w' ⟨rfl, rfl⟩
    exact ⟨_, rfl, Own.nil _ _, Below.refl _ _⟩
theorem refOpen_tot {w : World} {A : Option Addr} {xs : List UInt8} {l : Nat} (hL : xs.length = l) (c : Nat) (hA : Rd w A xs) (hc : l ≤ c) (hl : l ≤ 140737488555328) :
    Calls Try.prog 33 #[.slice A l c] w fun e w' => ∃ r, e = .returned (.tuple #[r, .int .u64 (openN xs), .int .i64 (openC xs)]) ∧ Own w' w.heap.size r (openR xs) ∧ Below w.heap.size w w' := by
  unfold openC openN openR
  by_cases h : xs.length = 4096
  · obtain rfl : l = 4096 := by omega
    by_cases hq : xs.take 8 = xs.drop 4088
    · rw [if_neg (show ¬ xs.length ≠ 4096 from not_not_intro h), if_pos hq, if_pos (show openOk xs from ⟨h, hq⟩), if_pos (show openOk xs from ⟨h, hq⟩)]
      exact refOpen_ok (Lib.hid h) c (Lib.hid hA) hc (Lib.hid hq)
    · rw [if_neg (show ¬ xs.length ≠ 4096 from not_not_intro h), if_neg hq, if_neg (show ¬ openOk xs from fun e => hq e.2), if_neg (show ¬ openOk xs from fun e => hq e.2)]
      refine (refOpen_bad (Lib.hid h) c (Lib.hid hA) (Lib.hid hq)).mono ?_
      rintro e w' ⟨rfl, rfl⟩
      exact ⟨_, rfl, Own.nil _ _, Below.refl _ _⟩
  · rw [if_pos (show xs.length ≠ 4096 from h), if_neg (show ¬ openOk xs from fun e => h e.1), if_neg (show ¬ openOk xs from fun e => h e.1)]
    refine (refOpen_arg (by omega) hl).mono ?_
    rintro e w' ⟨rfl, rfl⟩
    exact ⟨_, rfl, Own.nil _ _, Below.refl _ _⟩

set_option maxHeartbeats 4000000 in
set_option maxRecDepth 100000 in
theorem stampTells_walk (A0 : Option Addr) (c0 : Nat) (l0 : List UInt8) (a1 : Int) (A2 : Option Addr) (c2 : Nat) (l2 : List UInt8) (a3 : Int) (a4 : Int) (w : World)
    (r0 : Rd w A0 l0) (h0 : l0.length ≤ c0) (m0 : c0 ≤ maxLen) (y0 : l0.length ≤ 140737488351232) (w1 : (Lit.int .u64 a1).wf = true) (r2 : Rd w A2 l2) (h2 : l2.length ≤ c2) (m2 : c2 ≤ maxLen) (y2 : l2.length ≤ 140737488351232) (w3 : (Lit.int .i64 a3).wf = true) (w4 : (Lit.int .i64 a4).wf = true) :
    Calls Try.prog 7 #[.slice A0 l0.length c0, .int .u64 a1, .slice A2 l2.length c2, .int .i64 a3, .int .i64 a4] w fun e w' => e = .returned (.bool true) ∧ Below w.heap.size w w' := by
  have R0 := Lib.hid r0
  have R2 := Lib.hid r2
  obtain ⟨v, rfl⟩ := Int.eq_ofNat_of_zero_le (wf_u64 w1).1
  have hv : v < 18446744073709551616 := by have := wf_u64 w1; omega
  have hw3 := wf_i64 w3
  have hw4 := wf_i64 w4
  clear r0 r2 m0 m2 w1 w3 w4 h0
  have q1 : v / 4294967296 < 4294967296 := by omega
  have q2 : v % 4294967296 < 4294967296 := by omega
  have eqs := eqB_self
  go_enter Try.func7, Try.ntmps7
  go_wp2_with fail
  refine (lent_any rfl _ R0.out (by omega)).mono ?_
  rintro e w_i ⟨rv, rfl, hvv, hbb⟩
  obtain ⟨g_i, c_i, rfl, ho⟩ := hvv
  have hl_i : Lent w_i _ _ _ := ⟨g_i, c_i, rfl, ho⟩
  have L_i := Lib.hid hl_i
  have hr := ho.rd.1.take l0.length
  rw [List.take_append_of_le_length (Nat.le_refl _), List.take_of_length_le (Nat.le_refl _)] at hr
  have hc_i : l0.length ≤ c_i := by have := ho.rd.2.2.1; omega
  have R_i := Lib.hid hr
  have B_i := Lib.hid hbb
  clear hbb hr ho hl_i
  go_wp2_with fail
  refine (lent_any rfl _ (R2.out.below B_i.out) (by omega)).mono ?_
  rintro e w_o ⟨rv, rfl, hvv, hbb⟩
  obtain ⟨g_o, c_o, rfl, ho⟩ := hvv
  have hl_o : Lent w_o _ _ _ := ⟨g_o, c_o, rfl, ho⟩
  have L_o := Lib.hid hl_o
  have hr := ho.rd.1.take l2.length
  rw [List.take_append_of_le_length (Nat.le_refl _), List.take_of_length_le (Nat.le_refl _)] at hr
  have hc_o : l2.length ≤ c_o := by have := ho.rd.2.2.1; omega
  have R_o := Lib.hid hr
  have B_o := Lib.hid hbb
  clear hbb hr ho hl_o
  go_wp2_with fail
  refine (seal_tot rfl _ (R_i.out.below B_o.out) v (by omega)).mono ?_
  rintro e w_a ⟨rv, rfl, hvv, hbb⟩
  obtain ⟨A_a, c_a, rfl, hc_a, hm_a, hr⟩ := hvv.slice
  have O_a := Lib.hid hvv
  have R_a := Lib.hid hr
  have B_a := Lib.hid hbb
  clear hvv hbb hr
  go_wp2_with fail
  refine (refSeal_tot rfl _ (((R0.out.below B_i.out).below B_o.out).below B_a.out) v hv (by omega)).mono ?_
  rintro e w_b ⟨rv, rfl, hvv, hbb⟩
  obtain ⟨A_b, c_b, rfl, hc_b, hm_b, hr⟩ := hvv.slice
  have O_b := Lib.hid hvv
  have R_b := Lib.hid hr
  have B_b := Lib.hid hbb
  clear hvv hbb hr
  go_wp2_with fail
  refine (open_tot rfl _ ((R_o.out.below B_a.out).below B_b.out) hc_o (by omega)).mono ?_
  rintro e w_c ⟨rv, rfl, hvv, hbb⟩
  obtain ⟨A_c, c_c, rfl, hc_c, hm_c, hr⟩ := hvv.slice
  have O_c := Lib.hid hvv
  have R_c := Lib.hid hr
  have B_c := Lib.hid hbb
  clear hvv hbb hr
  go_wp2_with fail
  refine (refOpen_tot rfl _ (((((R2.out.below B_i.out).below B_o.out).below B_a.out).below B_b.out).below B_c.out) h2 (by omega)).mono ?_
  rintro e w_d ⟨rv, rfl, hvv, hbb⟩
  obtain ⟨A_d, c_d, rfl, hc_d, hm_d, hr⟩ := hvv.slice
  have O_d := Lib.hid hvv
  have R_d := Lib.hid hr
  have B_d := Lib.hid hbb
  clear hvv hbb hr
  go_wp2_with fail
  refine (sameBytes_any rfl rfl _ _ (((R_a.out.below B_b.out).below B_c.out).below B_d.out) ((R_b.out.below B_c.out).below B_d.out)).mono ?_
  rintro e w' ⟨rfl, rfl⟩
  go_wp2_with fail
  refine (sameBytes_any rfl rfl _ _ (R_c.out.below B_d.out) R_d.out).mono ?_
  rintro e w' ⟨rfl, rfl⟩
  go_wp2_with fail
  refine (parts_any v hv).mono ?_
  rintro e w' ⟨rfl, rfl⟩
  go_wp2_with fail
  refine (of_any a3 a4 (by omega) (by omega) (by omega) (by omega)).mono ?_
  rintro e w' ⟨rfl, rfl⟩
  go_wp2_with fail
  refine (refOf_any a3 a4 (by omega) (by omega) (by omega) (by omega)).mono ?_
  rintro e w' ⟨rfl, rfl⟩
  go_wp2_with fail
  refine (kept_any rfl _ (by omega) (((((L_i.out.below B_o.out).below B_a.out).below B_b.out).below B_c.out).below B_d.out) ((((((R0.out.below B_i.out).below B_o.out).below B_a.out).below B_b.out).below B_c.out).below B_d.out)).mono ?_
  rintro e w' ⟨rfl, rfl⟩
  go_wp2_with fail
  refine (kept_any rfl _ (by omega) ((((L_o.out.below B_a.out).below B_b.out).below B_c.out).below B_d.out) ((((((R2.out.below B_i.out).below B_o.out).below B_a.out).below B_b.out).below B_c.out).below B_d.out)).mono ?_
  rintro e w' ⟨rfl, rfl⟩
  go_wp2_with fail
  refine (awake04_any _).mono ?_
  rintro e w_z ⟨rfl, hbb⟩
  have B_z := Lib.hid hbb
  clear hbb
  go_wp2_with fail
  go_ret
  exact ⟨rfl, (bthen (bthen (bthen (bthen (bthen (bthen (bthen (Below.refl _ _) B_i.out) B_o.out) B_a.out) B_b.out) B_c.out) B_d.out) B_z.out)⟩
end Go.Proofs.Ytjenedfpjpiknaa.Y
