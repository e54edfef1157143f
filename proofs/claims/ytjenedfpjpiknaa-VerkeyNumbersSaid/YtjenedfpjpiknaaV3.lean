/-
  verkey.Part.
-/
import Derived.Test.YtjenedfpjpiknaaV2
set_option linter.unusedVariables false
set_option linter.unusedSimpArgs false
namespace Go.Proofs.Ytjenedfpjpiknaa.Y
open Go.RowKit

/-- A text read back: what stands behind a nought is passed over. -/
def unB : Bool → List UInt8 → List UInt8
  | _, [] => []
  | true, _ :: t => unB false t
  | false, c :: t => c :: unB (c == 0) t
theorem unB_skip (t : List UInt8) : unB true t = unB false (t.drop 1) := by
  cases t <;> rfl
theorem unB_at {L : List UInt8} {j : Nat} (h : j < L.length) : unB false (L.drop j) = L[j] :: (if L[j] = 0 then unB false (L.drop (j + 2)) else unB false (L.drop (j + 1))) := by
  rw [List.drop_eq_getElem_cons h]
  show L[j] :: unB (L[j] == 0) _ = _
  by_cases e : L[j] = 0
  · rw [if_pos e, e]
    show _ :: unB true _ = _
    rw [unB_skip, List.drop_drop]
  · rw [if_neg e, beq_false_of_ne e]
/-- The bytes as a number, the great end first. -/
def beV (l : List UInt8) : Nat := l.foldl (fun v c => v * 256 + c.toNat) 0
theorem beV_snoc (l : List UInt8) (c : UInt8) : beV (l ++ [c]) = beV l * 256 + c.toNat := by simp [beV]
theorem beV_take_lt (l : List UInt8) (k : Nat) (h : k ≤ l.length) : beV (l.take k) < 256 ^ k := by
  induction k with
  | zero => simp [beV]
  | succ k ih =>
    rw [List.take_succ_eq_append_getElem (by omega), beV_snoc, Nat.pow_succ]
    have := (l[k]'(by omega)).toNat_lt
    have := ih (by omega)
    omega
def pkB (b : List UInt8) : List UInt8 := unB false (b.take (b.length - 10))
def pnB (b : List UInt8) : Int := wrap64 ((18446744073709551615 - beV (b.drop (b.length - 8)) : Nat) : Int)
def verOk (b : List UInt8) : Prop := 11 ≤ b.length ∧ mayB (pkB b) (pnB b) ∧ joinB (pkB b) (pnB b).toNat = b
instance (xs : List UInt8) (n : Int) : Decidable (mayB xs n) := by unfold mayB; infer_instance
instance (b : List UInt8) : Decidable (verOk b) := by unfold verOk; infer_instance
theorem part_short {w : World} {A : Option Addr} {l : Nat} (c : Nat) (h : l < 11) :
    Calls Try.prog 22 #[.slice A l c] w fun e w' => e = .returned (.tuple #[.slice none 0 0, .int .i64 0, .bool false]) ∧ w = w' := by
  go_enter Try.func22, Try.ntmps22
  go_wp2
  go_ret3
  exact ⟨rfl, rfl⟩
theorem or_byte (v c : Nat) (hv : v < 72057594037927936) (hc : c < 256) : bits BinOp.or IntKind.u64 (IntKind.u64.wrap ((v : Int) * 256)) (IntKind.u64.wrap (c : Int)) = ((v * 256 + c : Nat) : Int) := by
  rw [show ((v : Int) * 256) = ((v * 256 : Nat) : Int) by omega, u64_wrap (by omega), u64_wrap (by omega), u64_or_nat _ _ (by omega) (by omega)]
  congr 1
  have := Nat.two_pow_add_eq_or_of_lt (i := 8) (b := c) (by omega) v
  rw [Nat.mul_comm]
  exact this.symm
set_option maxHeartbeats 1600000 in
theorem part_long {w : World} {A : Option Addr} {xs : List UInt8} {l : Nat} (hL : xs.length = l) (c : Nat) (hA : Rd w A xs) (hc : l ≤ c) (h : 11 ≤ l) (hl : l ≤ 140737488351232)
    (M : Int) (ok : Bool) (K : List UInt8) (HM : Hid (M = if verOk xs then pnB xs else 0)) (Hok : Hid (ok = decide (verOk xs))) (HK : Hid (K = if verOk xs then pkB xs else [])) :
    Calls Try.prog 22 #[.slice A l c] w fun e w' => ∃ r, e = .returned (.tuple #[r, .int .i64 M, .bool ok]) ∧ Own w' w.heap.size r K ∧ Below w.heap.size w w' := by
  have HL := Lib.hid hL
  obtain ⟨g, o, rfl⟩ := hA.addr (by omega)
  have HA := Lib.hid hA
  have H11 := Lib.hid h
  have hcut : Hid (cutA (some ⟨g, o, none⟩) c (l - 8) = some ⟨g, o + (l - 8), none⟩) := cutA_some (by omega)
  obtain ⟨T, hT⟩ : ∃ T, T = xs.take (l - 10) := ⟨_, rfl⟩
  have hTl : Hid (T.length = l - 10) := by show _ = _; rw [hT, List.length_take, hL]; omega
  have HT := Lib.hid hT
  clear hL hA hT
  go_enter Try.func22, Try.ntmps22
  go_wp2_with fail
  go_loopw [5, 6] (fun o i wr => ∃ j : Nat, ∃ ks, j ≤ l ∧ i = .int .i64 j ∧ ks.length ≤ j ∧ Hid (Own wr w.heap.size o ks ∧ Below w.heap.size w wr ∧ ks ++ unB false (T.drop j) = unB false T)) (fun _ i _ => l - (intOf i).toNat)
  case atStart => exact ⟨0, [], Nat.zero_le _, rfl, Nat.le_refl _, Own.nil _ _, Below.refl _ _, rfl⟩
  case round =>
    obtain ⟨j, ks, hj, rfl, hk, hI⟩ := hrel
    by_cases hlt : j < l - 10
    · have hc0 := ((HA.out.below hI.out.2.1)).at' j (u := xs[j]'(by have := HL.out; omega)) (List.getElem?_eq_getElem _)
      have hTj : Hid (T[j]'(by have := hTl.out; omega) = xs[j]'(by have := HL.out; omega)) := by show _ = _; simp only [HT.out, List.getElem_take]
      have hun := unB_at (L := T) (j := j) (by have := hTl.out; omega)
      rw [hTj.out] at hun
      have HU := Lib.hid hun
      clear hun
      have hji : (j : Int) < l - 10 := by omega
      by_cases hz : xs[j]'(by have := HL.out; omega) = 0
      · have hz2 : (xs[j]'(by have := HL.out; omega)).toNat = 0 := by rw [hz]; rfl
        rw [hz2] at hc0
        go_wp2_with (at_builtin; refine wpList_append_bytes (by rfl) (.tmp 22) (.tmp 27) 22 rfl w.heap.size Try.underlying22 info_u8 u5 ks [0] rfl (hI.out.1.alloc _) (some ⟨wr.heap.size, 0, none⟩) 1 1 rfl rfl (by exact rd_box _ rfl) (by omega) (by have := hI.out.2.1.size; simp; omega) ?_; intro v2 w2 hvv hg _ _; have V2 := Lib.hid hvv; have B2 := Lib.hid ((balloc hI.out.2.1 _).grown hg (by have := hI.out.2.1.size; simp; omega) (Own.base hI.out.1)); have hc1 := ((HA.out.below B2.out)).at' j (u := xs[j]'(by have := HL.out; omega)) (List.getElem?_eq_getElem _); rw [hz2] at hc1; clear hvv hg)
        go_roundw
        case rel =>
          refine ⟨j + 2, ks ++ [0], by omega, by go_num, by simp; omega, V2.out, B2.out, ?_⟩
          have h1 := hI.out.2.2
          rw [HU.out, if_pos hz, hz] at h1
          simpa using h1
        case measure => simp [intOf]; omega
      · have hz2 : (((xs[j]'(by have := HL.out; omega)).toNat : Int) == 0) = false := by
          rw [beq_eq_false_iff_ne]
          intro h
          exact hz (UInt8.toNat_inj.1 (by simpa using h))
        go_wp2_with (at_builtin; refine wpList_append_bytes (by rfl) (.tmp 22) (.tmp 27) 22 rfl w.heap.size Try.underlying22 info_u8 u5 ks [xs[j]'(by have := HL.out; omega)] rfl (hI.out.1.alloc _) (some ⟨wr.heap.size, 0, none⟩) 1 1 rfl rfl (by exact rd_box _ rfl) (by omega) (by have := hI.out.2.1.size; simp; omega) ?_; intro v2 w2 hvv hg _ _; have V2 := Lib.hid hvv; have B2 := Lib.hid ((balloc hI.out.2.1 _).grown hg (by have := hI.out.2.1.size; simp; omega) (Own.base hI.out.1)); have hc1 := ((HA.out.below B2.out)).at' j (u := xs[j]'(by have := HL.out; omega)) (List.getElem?_eq_getElem _); clear hvv hg)
        go_roundw
        case rel =>
          refine ⟨j + 1, ks ++ [xs[j]'(by have := HL.out; omega)], by omega, by go_num, by simp; omega, V2.out, B2.out, ?_⟩
          have h1 := hI.out.2.2
          rw [HU.out, if_neg hz] at h1
          simpa using h1
        case measure => simp [intOf]; omega
    · have hji : ¬ ((j : Int) < l - 10) := by omega
      have hK : Hid (ks = pkB xs) := by
        show ks = _
        have h1 := hI.out.2.2
        rw [List.drop_of_length_le (by have := hTl.out; omega)] at h1
        unfold pkB
        rw [HL.out, ← HT.out, ← h1]
        exact (List.append_nil _).symm
      have hz0 : ((l : Int) - 8) ≤ l := by omega
      have hz1 : (0 : Int) ≤ (l : Int) - 8 := by omega
      have h88 : l - (l - 8) = 8 := by omega
      obtain ⟨D, hD⟩ : ∃ D, D = xs.drop (l - 8) := ⟨_, rfl⟩
      have hDl : Hid (D.length = 8) := by show _ = _; rw [hD, List.length_drop, HL.out]; exact h88
      have RD0 := (HA.out.below hI.out.2.1).cut (l - 8) c (by rw [HL.out]; exact hc)
      rw [← hD, hcut.out] at RD0
      have RD := Lib.hid RD0
      have HD := Lib.hid hD
      clear hD RD0
      go_wp2_with fail
      try rw [h88]
      go_loop [7, 42] (fun v i => ∃ k : Nat, k ≤ 8 ∧ i = .int .i64 k ∧ v = .int .u64 (beV (D.take k))) (fun _ i => 8 - (intOf i).toNat)
      case atStart => exact ⟨0, by decide, rfl, rfl⟩
      case round =>
        obtain ⟨k, hk8, rfl, rfl⟩ := hrel
        by_cases hlt8 : k < 8
        · have hcd := RD.out.at' k (u := D[k]'(by have := hDl.out; omega)) (List.getElem?_eq_getElem _)
          go_wp2_with fail
          go_round
          case rel =>
            have hb := beV_take_lt D k (by have := hDl.out; omega)
            have hp : 256 ^ k ≤ 256 ^ 7 := Nat.pow_le_pow_right (by decide) (by omega)
            have hc8 := (D[k]'(by have := hDl.out; omega)).toNat_lt
            refine ⟨k + 1, by omega, by go_num, ?_⟩
            rw [or_byte _ _ (Nat.lt_of_lt_of_le hb hp) hc8, List.take_succ_eq_append_getElem (by have := hDl.out; omega), beV_snoc]
          case measure => simp [intOf]; omega
        · obtain rfl : k = 8 := by omega
          have hD8 : D.take 8 = D := List.take_of_length_le (by have := hDl.out; omega)
          have hbl : beV D < 18446744073709551616 := by have := beV_take_lt D 8 (by have := hDl.out; omega); rw [hD8] at this; exact this
          have hM : Hid (wrap64 (bits BinOp.xor IntKind.u64 IntKind.u64.max ((beV (D.take 8) : Nat) : Int)) = pnB xs) := by
            show _ = _
            rw [hD8, not_u64 _ hbl]
            unfold pnB
            rw [HL.out, ← HD.out]
          have hks := hK.out
          have hO := hI.out.1
          rw [hks] at hO
          obtain ⟨A5, c5, rfl, hc5, hm5, hr5⟩ := hO.slice
          have O5 := Lib.hid hO
          have R5 := Lib.hid hr5
          clear hO hr5 hD8 hbl hks
          have hk5 : (pkB xs).length ≤ 140737488355328 := by have := hK.out; rw [← this]; omega
          go_wp2_with fail
          rw [hM.out]
          by_cases hmay : mayB (pkB xs) (pnB xs)
          · obtain ⟨m, hm⟩ := Int.eq_ofNat_of_zero_le hmay.2.2.1
            have hmn : Hid (pnB xs = m) := hm
            rw [hmn.out]
            refine (join_yes rfl c5 R5.out m hmay.1 hmay.2.1 (by have := hmay.2.2.2; omega)).mono ?_
            rintro e w6 ⟨r6, rfl, hv6, hb6⟩
            obtain ⟨A6, c6, rfl, hc6, hm6, hr6⟩ := hv6.slice
            have R6 := Lib.hid hr6
            have B6 := Lib.hid hb6
            clear hv6 hb6 hr6 hm
            go_wp2_with fail
            refine (same_any rfl HL.out _ _ R6.out ((HA.out.below hI.out.2.1).below B6.out)).mono ?_
            rintro e w' ⟨rfl, rfl⟩
            by_cases heq : joinB (pkB xs) m = xs
            · have hv : verOk xs := ⟨by rw [HL.out]; exact H11.out, hmay, by rw [hmn.out]; exact heq⟩
              rw [heq, eqB_self]
              have hMv := HM.out
              have hov := Hok.out
              have hKv := HK.out
              rw [if_pos hv] at hMv hKv
              rw [decide_eq_true hv] at hov
              clear heq hmay
              go_wp2_with fail
              rw [hM.out]
              go_ret3
              exact ⟨_, by rw [hMv, hov]; rfl, by rw [hKv]; exact O5.out.below B6.out, bthen hI.out.2.1 B6.out⟩
            · have hv : ¬ verOk xs := fun e => heq (by have := e.2.2; rw [hmn.out] at this; exact this)
              rw [eqB_not.2 heq]
              have hMv := HM.out
              have hov := Hok.out
              have hKv := HK.out
              rw [if_neg hv] at hMv hKv
              rw [decide_eq_false hv] at hov
              clear heq hmay
              go_wp2_with fail
              go_ret3
              exact ⟨_, by rw [hMv, hov]; rfl, by rw [hKv]; exact Own.nil _ _, bthen hI.out.2.1 B6.out⟩
          · have hv : ¬ verOk xs := fun e => hmay e.2.1
            have hMv := HM.out
            have hov := Hok.out
            have hKv := HK.out
            rw [if_neg hv] at hMv hKv
            rw [decide_eq_false hv] at hov
            refine (join_no c5 (pnB xs) hk5 hmay).mono ?_
            rintro e w' ⟨rfl, rfl⟩
            clear hmay
            go_wp2_with fail
            go_ret3
            exact ⟨_, by rw [hMv, hov]; rfl, by rw [hKv]; exact Own.nil _ _, hI.out.2.1⟩
theorem verPart_any {w : World} {A : Option Addr} {xs : List UInt8} {l : Nat} (hL : xs.length = l) (c : Nat) (hA : Rd w A xs) (hc : l ≤ c) (hl : l ≤ 140737488351232)
    (M : Int) (ok : Bool) (K : List UInt8) (HM : M = if verOk xs then pnB xs else 0) (Hok : ok = decide (verOk xs)) (HK : K = if verOk xs then pkB xs else []) :
    Calls Try.prog 22 #[.slice A l c] w fun e w' => ∃ r, e = .returned (.tuple #[r, .int .i64 M, .bool ok]) ∧ Own w' w.heap.size r K ∧ Below w.heap.size w w' := by
  by_cases h : 11 ≤ l
  · exact part_long hL c hA hc h hl M ok K (Lib.hid HM) (Lib.hid Hok) (Lib.hid HK)
  · have hv : ¬ verOk xs := fun e => h (by rw [← hL]; exact e.1)
    rw [if_neg hv] at HM HK
    rw [decide_eq_false hv] at Hok
    subst HM; subst HK; subst Hok
    refine (part_short c (by omega)).mono ?_
    rintro e w' ⟨rfl, rfl⟩
    exact ⟨_, rfl, Own.nil _ _, Below.refl _ _⟩
end Go.Proofs.Ytjenedfpjpiknaa.Y
