/-
  The order of version keys (plain law); Pick of a great bound; the fixed answers of layer 13 ('awake').
-/
import Derived.Test.YtobnomlbkhkodaaV3
import Derived.Test.YtobnomlbkhkodaaL2
set_option linter.unusedVariables false
set_option linter.unusedSimpArgs false
namespace Go.Proofs.Ytobnomlbkhkodaa.Y
open Go.RowKit

theorem textB_cons (c : UInt8) (t : List UInt8) : textB (c :: t) = (if c = 0 then [0, 255] else [c]) ++ textB t := rfl
theorem cmpB_cons_same (x : UInt8) (xs ys : List UInt8) : cmpB (x :: xs) (x :: ys) = cmpB xs ys := by
  rw [cmpB_cons, if_neg (UInt8.lt_irrefl x), if_neg (UInt8.lt_irrefl x)]
theorem cmpB_pre (ps xs ys : List UInt8) : cmpB (ps ++ xs) (ps ++ ys) = cmpB xs ys := by
  induction ps with
  | nil => rfl
  | cons p ps ih => rw [List.cons_append, List.cons_append, cmpB_cons_same, ih]
theorem cmpB_lt {x y : UInt8} (xs ys : List UInt8) (h : x < y) : cmpB (x :: xs) (y :: ys) = -1 := by rw [cmpB_cons, if_pos h]
theorem cmpB_gt {x y : UInt8} (xs ys : List UInt8) (h : y < x) : cmpB (x :: xs) (y :: ys) = 1 := by
  rw [cmpB_cons, if_neg (fun e => UInt8.lt_asymm h e), if_pos h]
theorem zero_lt {d : UInt8} (h : d ≠ 0) : (0 : UInt8) < d := by
  rw [UInt8.lt_iff_toNat_lt]
  have : d.toNat ≠ 0 := fun e => h (UInt8.toNat_inj.1 e)
  show 0 < d.toNat
  omega
/-- Where a text goes on behind its key's first byte. -/
theorem textB_head (d : UInt8) (t : List UInt8) : ∃ r, textB (d :: t) = d :: r ∧ (d = 0 → ∃ q, r = 255 :: q) := by
  rw [textB_cons]
  by_cases h : d = 0
  · rw [if_pos h, h]
    exact ⟨255 :: textB t, rfl, fun _ => ⟨_, rfl⟩⟩
  · rw [if_neg h]
    exact ⟨textB t, rfl, fun e => absurd e h⟩
theorem cmp_text {a b : List UInt8} (hne : a ≠ b) {e f : UInt8} (he : e < 255) (hf : f < 255) (s t : List UInt8) :
    cmpB (textB a ++ (0 :: e :: s)) (textB b ++ (0 :: f :: t)) = cmpB a b := by
  induction a generalizing b with
  | nil =>
    cases b with
    | nil => exact absurd rfl hne
    | cons d b =>
      have e0 : cmpB [] (d :: b) = -1 := rfl
      rw [e0]
      obtain ⟨r, hr, hz⟩ := textB_head d b
      rw [hr]
      by_cases h : d = 0
      · obtain ⟨q, rfl⟩ := hz h
        subst h
        show cmpB (0 :: e :: s) (0 :: (255 :: (q ++ _))) = -1
        rw [cmpB_cons_same, cmpB_lt _ _ he]
      · exact cmpB_lt _ _ (zero_lt h)
  | cons c a ih =>
    cases b with
    | nil =>
      have e0 : cmpB (c :: a) [] = 1 := rfl
      rw [e0]
      obtain ⟨r, hr, hz⟩ := textB_head c a
      rw [hr]
      by_cases h : c = 0
      · obtain ⟨q, rfl⟩ := hz h
        subst h
        show cmpB (0 :: (255 :: (q ++ _))) (0 :: f :: t) = 1
        rw [cmpB_cons_same, cmpB_gt _ _ hf]
      · exact cmpB_gt _ _ (zero_lt h)
    | cons d b =>
      by_cases h : c = d
      · subst h
        rw [cmpB_cons_same, textB_cons, textB_cons, List.append_assoc, List.append_assoc, cmpB_pre]
        exact ih (fun e => hne (by rw [e]))
      · obtain ⟨r, hr, _⟩ := textB_head c a
        obtain ⟨q, hq, _⟩ := textB_head d b
        rw [hr, hq, List.cons_append, List.cons_append, cmpB_cons, cmpB_cons]
        by_cases h1 : c < d
        · rw [if_pos h1, if_pos h1]
        · have h2 : d < c := by
            rw [UInt8.lt_iff_toNat_lt] at h1 ⊢
            have : c.toNat ≠ d.toNat := fun e => h (UInt8.toNat_inj.1 e)
            omega
          rw [if_neg h1, if_neg h1, if_pos h2, if_pos h2]
theorem cmpB_snoc {xs ys : List UInt8} (h : xs.length = ys.length) (c d : UInt8) : cmpB (xs ++ [c]) (ys ++ [d]) = if cmpB xs ys = 0 then cmpB [c] [d] else cmpB xs ys := by
  induction xs generalizing ys with
  | nil =>
    obtain rfl : ys = [] := List.eq_nil_of_length_eq_zero h.symm
    rfl
  | cons x xs ih =>
    cases ys with
    | nil => simp at h
    | cons y ys =>
      rw [List.cons_append, List.cons_append, cmpB_cons, cmpB_cons, ih (by simpa using h)]
      by_cases h1 : x < y
      · rw [if_pos h1, if_pos h1]; rfl
      · rw [if_neg h1, if_neg h1]
        by_cases h2 : y < x
        · rw [if_pos h2, if_pos h2]; rfl
        · rw [if_neg h2, if_neg h2]
def cmpN (a b : Nat) : Int := if a < b then -1 else if a = b then 0 else 1
theorem cmp_beB (v u k : Nat) (hk : k ≤ 8) (hv : v < 18446744073709551616) (hu : u < 18446744073709551616) : cmpB (beB v k) (beB u k) = cmpN (v / 2 ^ (64 - 8 * k)) (u / 2 ^ (64 - 8 * k)) := by
  induction k with
  | zero =>
    have e1 : v / 2 ^ (64 - 8 * 0) = 0 := Nat.div_eq_of_lt hv
    have e2 : u / 2 ^ (64 - 8 * 0) = 0 := Nat.div_eq_of_lt hu
    rw [e1, e2]
    rfl
  | succ k ih =>
    rw [beB_succ, beB_succ, cmpB_snoc (by rw [beB_length, beB_length]), ih (by omega)]
    have hp : 2 ^ (64 - 8 * k) = 2 ^ (56 - 8 * k) * 256 := by rw [show 64 - 8 * k = (56 - 8 * k) + 8 by omega, Nat.pow_add]
    rw [hp, ← Nat.div_div_eq_div_mul, ← Nat.div_div_eq_div_mul, show 64 - 8 * (k + 1) = 56 - 8 * k by omega]
    generalize v / 2 ^ (56 - 8 * k) = p
    generalize u / 2 ^ (56 - 8 * k) = q
    unfold cmpN
    rw [cmpB_cons, show cmpB [] [] = 0 from rfl]
    simp only [UInt8.lt_iff_toNat_lt, UInt8.toNat_ofNat']
    have e1 := Nat.div_add_mod p 256
    have e2 := Nat.div_add_mod q 256
    repeat' split
    all_goals first | rfl | omega
/-- Version keys of one key stand the newest first. -/
theorem cmp_join (a b : List UInt8) (m n : Nat) (hm : m ≤ 4611686018427387904) (hn : n ≤ 4611686018427387904) :
    cmpB (joinB a m) (joinB b n) = if a = b then cmpN n m else cmpB a b := by
  unfold joinB
  rw [List.append_assoc, List.append_assoc]
  split
  · rename_i h
    subst h
    rw [cmpB_pre, cmpB_pre, cmp_beB _ _ 8 (by decide) (by omega) (by omega)]
    simp only [Nat.sub_self, Nat.mul_one, Nat.pow_zero, Nat.div_one, show 64 - 8 * 8 = 0 from rfl]
    unfold cmpN
    repeat' split
    all_goals first | rfl | omega
  · rename_i h
    exact cmp_text h (by decide) (by decide) _ _
theorem joinB_length (a : List UInt8) (n : Nat) (h : a.length ≤ 128) : (joinB a n).length ≤ 266 := by
  unfold joinB
  have := textB_length a
  simp only [List.length_append, beB_length, List.length_cons, List.length_nil]
  omega
theorem cmp_first (a b : List UInt8) (n : Nat) : cmpB (textB a ++ [0, 0]) (joinB b n) = if a = b then -1 else cmpB a b := by
  unfold joinB
  split
  · rename_i h
    subst h
    rw [cmpB_prefix, if_neg]
    intro e
    have := congrArg List.length e
    rw [beB_length] at this
    simp at this
  · rename_i h
    rw [List.append_assoc]
    exact cmp_text h (by decide) (by decide) _ _
theorem cmp_behind (a b : List UInt8) (n : Nat) : cmpB (joinB b n) (textB a ++ [0, 1]) = if a = b then -1 else cmpB b a := by
  unfold joinB
  rw [List.append_assoc]
  split
  · rename_i h
    subst h
    rw [cmpB_pre]
    rfl
  · rename_i h
    exact cmp_text (fun e => h e.symm) (by decide) (by decide) _ _

theorem pick_big {w : World} (x : Int) (n : Nat) (h0 : 0 < n) (hn : n ≤ 4611686018427387904) (h1 : -9223372036854775808 ≤ x) (h2 : x ≤ 9223372036854775807) :
    Calls Try.prog 30 #[.int .i64 x, .int .i64 n] w fun r w' => r = .returned (.int .i64 (x % n)) ∧ w = w' := by
  have b1 : x.tmod n < n := Int.tmod_lt_of_pos x (by omega)
  have b2 : -(n : Int) < x.tmod n := Int.lt_tmod_of_pos x (by omega)
  have b3 := Int.emod_nonneg x (b := (n : Int)) (by omega)
  have b4 := Int.emod_lt_of_pos x (b := (n : Int)) (by omega)
  have e : x.tmod n = x % n ∨ x.tmod n = x % n - n := by
    have e := Int.tmod_eq_emod (a := x) (b := (n : Int))
    split at e
    · left; rw [e]; simp
    · right; rw [e]; simp
  by_cases h : x.tmod n < 0
  · have e2 : x.tmod n + n = x % n := by omega
    go_enter Try.func30, Try.ntmps30
    go_wp2
    go_ret
    exact ⟨rfl, rfl⟩
  · have e2 : x.tmod n = x % n := by omega
    go_enter Try.func30, Try.ntmps30
    go_wp2
    go_ret
    exact ⟨rfl, rfl⟩
end Go.Proofs.Ytobnomlbkhkodaa.Y
