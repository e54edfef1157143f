/-
  verkey.text.
-/
import Derived.Test.YtjenedfpjpiknaaS9
set_option linter.unusedVariables false
set_option linter.unusedSimpArgs false
namespace Go.Proofs.Ytjenedfpjpiknaa.Y
open Go.RowKit

/-- A key's text. -/
def textB (xs : List UInt8) : List UInt8 := xs.flatMap fun c => if c = 0 then [0, 255] else [c]
theorem textB_take {xs : List UInt8} {k : Nat} (h : k < xs.length) : textB (xs.take (k + 1)) = if xs[k] = 0 then textB (xs.take k) ++ [0] ++ [255] else textB (xs.take k) ++ [xs[k]] := by
  rw [List.take_succ_eq_append_getElem h]
  unfold textB
  rw [List.flatMap_append]
  split <;> rename_i e <;> simp [e]
theorem textB_length (xs : List UInt8) : (textB xs).length ≤ 2 * xs.length := by
  unfold textB
  induction xs with
  | nil => simp
  | cons x xs ih =>
    rw [List.flatMap_cons, List.length_append, List.length_cons]
    split <;> simp only [List.length_cons, List.length_nil] <;> omega
/-- The cell that holds the slice. -/
def SlotB (w : World) (g : Nat) (v : Value) : Prop := w.heap[g]? = some (.cells #[v] 22 (0, 0))
theorem SlotB.cell {w : World} {g : Nat} {v : Value} (h : SlotB w g v) : w.cell? ⟨g, 0, none⟩ = some v := by
  rw [cell_of_row w g 0 _ _ _ h]
  rfl
theorem SlotB.frozen {w : World} {g : Nat} {v : Value} (h : SlotB w g v) : w.frozen? ⟨g, 0, none⟩ = false := by
  have h' : w.heap[g]? = _ := h
  simp [World.frozen?, h']
theorem SlotB.lt {w : World} {g : Nat} {v : Value} (h : SlotB w g v) : g < w.heap.size := (Array.getElem?_eq_some_iff.1 h).1
theorem SlotB.below {w w1 : World} {g : Nat} {v : Value} (h : SlotB w g v) (hb : Below w.heap.size w w1) : SlotB w1 g v := (hb.block g h.lt).trans h
theorem SlotB.grown {w w1 : World} {g : Nat} {v : Value} (h : SlotB w g v) {row : Option Nat} (hg : w.grownBy w1 row) (hne : some g ≠ row) : SlotB w1 g v := (hg.block g h.lt hne).trans h
theorem SlotB.store {w : World} {g : Nat} {v : Value} (h : SlotB w g v) (x : Value) : SlotB (w.setCell ⟨g, 0, none⟩ x) g x ∧ w.grownBy (w.setCell ⟨g, 0, none⟩ x) (some g) := by
  refine ⟨?_, ⟨rfl, rfl, rfl, by simp [World.setCell], fun k _ hk => Below.heap_setCell _ _ _ _ (fun e => hk (by rw [e]))⟩⟩
  have h' : w.heap[g]? = _ := h
  unfold SlotB
  simp only [World.setCell, Array.getElem?_modify]
  simp [h']
theorem Own.grownN {w w1 : World} {B : Nat} {v : Value} {xs : List UInt8} (h : Own w B v xs) {g : Nat} (hg : w.grownBy w1 (some g)) (hB : g < B) : Own w1 B v xs :=
  World.ownsRow.kept h hg (by right; intro e; have := Own.base h g e; omega)
set_option maxHeartbeats 800000 in
theorem put_any {w : World} {g : Nat} {v : Value} {xs ys : List UInt8} {A : Option Addr} {m : Nat} (hs : SlotB w g v) (hv : Own w (g + 1) v xs) (hm : ys.length = m) (c : Nat) (hA : Rd w A ys) (hl : xs.length + m ≤ 211106232532992) :
    Calls Try.prog 58 #[.slice A m c, .pointer (some ⟨g, 0, none⟩)] w fun e w' => ∃ v', e = .returned (.tuple #[]) ∧ SlotB w' g v' ∧ Own w' (g + 1) v' (xs ++ ys) ∧ Below g w w' := by
  have c0 := hs.cell
  have f0 := hs.frozen
  have V := Lib.hid hv
  have S := Lib.hid hs
  have HA := Lib.hid hA
  have HM := Lib.hid hm
  clear hv hs hA hm
  go_enter Try.func58, Try.ntmps58
  go_wp2_with (at_builtin; refine wpList_append_bytes (by rfl) (.tmp 3) (.tmp 4) 22 rfl (g + 1) Try.underlying22 info_u8 v xs ys rfl V.out A m c rfl HM.out HA.out hl (by have := S.out.lt; omega) ?_; intro v2 w2 hvv hg _ _; have S2 := Lib.hid (S.out.grown hg (by intro e; have := Own.base V.out g e.symm; omega)); have c2 := S2.out.cell; have f2 := S2.out.frozen; obtain ⟨A2, k2, rfl, _, _, _⟩ := hvv.sliceN (n := xs.length + ys.length) (List.length_append); have O2 := Lib.hid hvv; have G2 := Lib.hid hg; clear hvv hg)
  go_end0
  have st := S2.out.store (.slice A2 (xs.length + ys.length) k2)
  have b2 : Below g w w2 := (Below.refl g w).grown G2.out (Nat.le_of_lt S.out.lt) (fun k hk => by have := Own.base V.out k hk; omega)
  exact ⟨_, rfl, st.1, O2.out.grownN st.2 (Nat.lt_succ_self _), b2.grown st.2 (Nat.le_of_lt S2.out.lt) (by intro k hk; injection hk with hk; omega)⟩
set_option maxHeartbeats 800000 in
theorem text_any {w : World} {A : Option Addr} {xs : List UInt8} {l : Nat} (hL : xs.length = l) (c : Nat) (hA : Rd w A xs) (hl : l ≤ 1048576) :
    Calls Try.prog 52 #[.slice A l c] w fun e w' => ∃ r, e = .returned r ∧ Own w' w.heap.size r (textB xs) ∧ Below w.heap.size w w' := by
  have HL := Lib.hid hL
  have HA := Lib.hid hA
  clear hL hA
  go_enter Try.func52, Try.ntmps52
  go_wp2_with fail
  go_loopw [10] (fun i wr => ∃ j : Nat, ∃ v, j ≤ l ∧ i = .int .i64 j ∧ Hid (SlotB wr w.heap.size v ∧ Own wr (w.heap.size + 1) v (textB (xs.take j)) ∧ Below w.heap.size w wr)) (fun i _ => l - (intOf i).toNat)
  case atStart => exact ⟨0, _, Nat.zero_le _, rfl, heap_alloc_new _ _, Own.nil _ _, balloc (Below.refl _ _) _⟩
  case round =>
    obtain ⟨j, v, hj, rfl, hI⟩ := hrel
    by_cases hlt : j < l
    · obtain ⟨b, o, rfl, hc⟩ := (HA.out.below hI.out.2.2).cell (j := j) (by have := HL.out; omega)
      have hT := textB_take (xs := xs) (k := j) (by have := HL.out; omega)
      have hn := textB_length (xs.take j)
      rw [List.length_take] at hn
      have hn2 : (textB (xs.take j)).length ≤ 2097152 := by omega
      clear hn
      have HT := Lib.hid hT
      clear hT
      go_wp2_with fail
      refine (put_any (ys := [xs[j]'(by have := HL.out; omega)]) ((hI.out.1).below (balloc (Below.refl _ _) _)) (hI.out.2.1.alloc _) rfl 1 (by exact rd_box _ rfl) (by simp only [List.length_cons, List.length_nil]; omega)).mono ?_
      rintro e w1 ⟨v1, rfl, hs, hv, hb⟩
      have I1 := Lib.hid (And.intro hs (And.intro hv ((balloc hI.out.2.2 _).trans hb)))
      clear hs hv hb
      by_cases hz : xs[j]'(by have := HL.out; omega) = 0
      · have hz2 : (xs[j]'(by have := HL.out; omega)).toNat = 0 := by rw [hz]; rfl
        rw [hz2]
        go_wp2_with fail
        refine (put_any (ys := [255]) ((I1.out.1).below (balloc (Below.refl _ _) _)) (I1.out.2.1.alloc _) rfl 1 (by exact rd_box _ rfl) (by simp only [List.length_append, List.length_cons, List.length_nil]; omega)).mono ?_
        rintro e w2 ⟨v2, rfl, hs, hv, hb⟩
        have I2 := Lib.hid (And.intro hs (And.intro hv ((balloc I1.out.2.2 _).trans hb)))
        clear hs hv hb
        go_wp2_with fail
        go_roundw
        case rel =>
          have h1 := HT.out
          rw [if_pos hz] at h1
          refine ⟨j + 1, v2, by omega, by go_num, ?_⟩
          show _ ∧ _
          rw [h1]
          have h2 := I2.out
          rw [hz] at h2
          exact h2
        case measure => simp [intOf]; omega
      · have hz2 : (((xs[j]'(by have := HL.out; omega)).toNat : Int) == 0) = false := by
          rw [beq_eq_false_iff_ne]
          intro h
          exact hz (UInt8.toNat_inj.1 (by simpa using h))
        go_wp2_with fail
        go_roundw
        case rel =>
          have h1 := HT.out
          rw [if_neg hz] at h1
          refine ⟨j + 1, v1, by omega, by go_num, ?_⟩
          show _ ∧ _
          rw [h1]
          exact I1.out
        case measure => simp [intOf]; omega
    · obtain rfl : j = l := by omega
      have c0 := hI.out.1.cell
      go_wp2_with fail
      go_ret
      have hx : xs.take j = xs := List.take_of_length_le (by have := HL.out; omega)
      have hI' := hI.out
      rw [hx] at hI'
      exact ⟨v, rfl, hI'.2.1.mono (Nat.le_succ _), hI'.2.2⟩
end Go.Proofs.Ytjenedfpjpiknaa.Y
