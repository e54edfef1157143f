/-
  record.pieces and record.Right at one change of pieces; the runs one behind the other.
-/
import Derived.Test.YtobnomlbkhkodaaCD
set_option linter.unusedVariables false
set_option linter.unusedSimpArgs false
namespace Go.Proofs.Ytobnomlbkhkodaa.Y
open Go.RowKit
attribute [local go_sem ↓] Go.wp_at_zero Go.wp_at_succ

def endL (L : List (Int × List UInt8)) : Nat → Int
  | 0 => 0
  | k + 1 => match L[k]? with | some p => p.1 + (p.2.length : Int) | none => 0
theorem endL_succ {L : List (Int × List UInt8)} {k : Nat} {a : Int} {X : List UInt8} (h : L[k]? = some (a, X)) : endL L (k + 1) = a + (X.length : Int) := by
  show (match L[k]? with | some p => p.1 + (p.2.length : Int) | none => 0) = _
  rw [h]
/-- Pieces of a record. -/
def RecOk (L : List (Int × List UInt8)) : Prop := ∀ (k : Nat) (p : Int × List UInt8), L[k]? = some p → 0 < p.2.length ∧ endL L k ≤ p.1 ∧ p.1 ≤ 4080 - (p.2.length : Int)
set_option maxHeartbeats 1600000 in
theorem pieces_ok {w : World} {A : Option Addr} {L : List (Int × List UInt8)} {l : Nat} (hL : L.length = l) (c : Nat) (hA : RdP w A L) (hl : l ≤ 140737488555328) (hr : RecOk L) :
    Calls Try.prog 55 #[.slice A l c] w fun e w' => e = .returned (.bool true) ∧ Below w.heap.size w w' := by
  have HL := Lib.hid hL
  have HA := Lib.hid hA
  have HR := Lib.hid hr
  clear hL hA hr
  go_enter Try.func55, Try.ntmps55
  go_wp2
  go_loopw [3, 8] (fun t i wr => ∃ k : Nat, k ≤ l ∧ i = .int .i64 k ∧ t = .int .i64 (endL L k) ∧ Below w.heap.size w wr) (fun _ i _ => l - (intOf i).toNat)
  case atStart => exact ⟨0, Nat.zero_le _, rfl, rfl, Below.refl _ _⟩
  case round =>
    obtain ⟨k, hk, rfl, rfl, hb⟩ := hrel
    by_cases hlt : k < l
    · obtain ⟨b, o, C, d, rfl, hp⟩ := (HA.out.below hb).at_ (i := k) (by rw [HL.out]; exact hlt)
      have gL := Lib.hid (List.getElem?_eq_getElem (l := L) (i := k) (by rw [HL.out]; exact hlt))
      generalize L[k]'(by rw [HL.out]; exact hlt) = P at *
      obtain ⟨a, X⟩ := P
      have hq := HR.out k _ gL.out
      have p0 := hp.c0
      have p1 := hp.c1
      have lo := hp.ok.lo
      have es := Lib.hid (endL_succ gL.out)
      dsimp only at hq p0 p1 lo
      obtain ⟨m, hm⟩ : ∃ m, m = X.length := ⟨_, rfl⟩
      rw [← hm] at hq p1 es
      clear hm hp
      obtain ⟨q1, q2, q3⟩ := hq
      obtain ⟨E, hE⟩ : ∃ E, E = endL L k := ⟨_, rfl⟩
      rw [← hE] at q2 ⊢
      clear hE
      have m0 : ((m : Int) == 0) = false := by rw [beq_eq_false_iff_ne]; omega
      have m1 : (m == 0) = false := by rw [beq_eq_false_iff_ne]; omega
      go_wp2
      go_roundw
      case rel => exact ⟨k + 1, by omega, by go_num, by rw [es.out], balloc hb _⟩
      case measure => simp [intOf]; omega
    · obtain rfl : k = l := by omega
      go_wp2
      go_ret
      exact ⟨rfl, hb⟩
set_option maxHeartbeats 3200000 in
set_option maxRecDepth 100000 in
theorem right_one {w : World} {A : Option Addr} {L : List (Int × List UInt8)} {l g : Nat} (hL : L.length = l) (c : Nat) (hA : RdP w A L) (hl : l ≤ 140737488555328) (hr : RecOk L) (hg : w.heap[g]? = some (.cells #[.int .i64 1, .slice none 0 0, .slice A l c] 50 (0, 0))) :
    Calls Try.prog 31 #[.agg #[.int .u8 1, .int .i64 0, .slice (some ⟨g, 0, none⟩) 1 1]] w fun e w' => e = .returned (.bool true) ∧ Below w.heap.size w w' := by
  have HL := Lib.hid hL
  have HA := Lib.hid hA
  have HR := Lib.hid hr
  have HG := Lib.hid hg
  clear hL hA hr hg
  go_enter Try.func31, Try.ntmps31
  go_wp2_with fail
  go_loopw [3, 54] (fun t i wr => ∃ k : Nat, k ≤ 1 ∧ i = .int .i64 k ∧ t = .int .i64 (2 * (k : Int) - 1) ∧ Below w.heap.size w wr) (fun _ i _ => 1 - (intOf i).toNat)
  case atStart => exact ⟨0, by omega, rfl, rfl, balloc (Below.refl _ _) _⟩
  case round =>
    obtain ⟨k, hk, rfl, rfl, hb⟩ := hrel
    by_cases hlt : k < 1
    · obtain rfl : k = 0 := by omega
      have hgr : wr.heap[g]? = some (.cells #[.int .i64 1, .slice none 0 0, .slice A l c] 50 (0, 0)) := (hb.block _ (Array.getElem?_eq_some_iff.1 HG.out).1).trans HG.out
      have c0 : wr.cell? ⟨g, 0, none⟩ = some (.int .i64 1) := by rw [cell_of_row _ _ 0 _ _ _ hgr]; rfl
      have c1 : wr.cell? ⟨g, 1, none⟩ = some (.slice none 0 0) := by rw [cell_of_row _ _ 1 _ _ _ hgr]; rfl
      have c2 : wr.cell? ⟨g, 2, none⟩ = some (.slice A l c) := by rw [cell_of_row _ _ 2 _ _ _ hgr]; rfl
      have HB := Lib.hid hb
      clear hgr hb
      go_wp2_with fail
      refine (pieces_ok HL.out c ((HA.out.below HB.out).alloc _) hl HR.out).mono ?_
      rintro e w2 ⟨rfl, hb2⟩
      have B2 := Lib.hid (bthen (balloc HB.out _) hb2)
      have hbx : w2.heap[wr.heap.size]? = some (.cells #[.int .i64 1, .slice none 0 0, .slice A l c] 50 (0, 0)) := (hb2.block _ (by simp)).trans (heap_alloc_new _ _)
      have d0 : w2.cell? ⟨wr.heap.size, 0, none⟩ = some (.int .i64 1) := by rw [cell_of_row _ _ 0 _ _ _ hbx]; rfl
      clear hbx hb2
      go_wp2_with fail
      go_roundw
      case rel => exact ⟨1, by omega, rfl, rfl, B2.out⟩
      case measure => simp [intOf]
    · obtain rfl : k = 1 := by omega
      go_wp2_with fail
      go_ret
      exact ⟨rfl, hb⟩
/-! The runs, one behind the other. -/
theorem far_at {rs : List (Nat × Nat)} (h : rs.Pairwise fun p q => p.2 + 8 < q.1) {k : Nat} {p q : Nat × Nat} (hp : rs[k]? = some p) (hq : rs[k + 1]? = some q) : p.2 + 8 < q.1 := by
  obtain ⟨h1, rfl⟩ := List.getElem?_eq_some_iff.1 hp
  obtain ⟨h2, rfl⟩ := List.getElem?_eq_some_iff.1 hq
  exact List.pairwise_iff_getElem.1 h k (k + 1) h1 h2 (by omega)
theorem diffL_at {xs ys : List UInt8} {k : Nat} {p : Int × List UInt8} (h : (diffL xs ys)[k]? = some p) : ∃ r, (rngs xs ys 4080)[k]? = some r ∧ p = cutP ys r := by
  unfold diffL at h
  rw [List.getElem?_map] at h
  obtain ⟨r, hr, e⟩ := Option.map_eq_some_iff.1 h
  exact ⟨r, hr, e.symm⟩
/-- The last place of the piece before k. -/
def lastR (rs : List (Nat × Nat)) : Nat → Int
  | 0 => -9
  | k + 1 => match rs[k]? with | some r => (r.2 : Int) | none => 0
theorem lastR_succ {rs : List (Nat × Nat)} {k : Nat} {r : Nat × Nat} (h : rs[k]? = some r) : lastR rs (k + 1) = (r.2 : Int) := by
  show (match rs[k]? with | some r => (r.2 : Int) | none => 0) = _
  rw [h]
def lastL (xs ys : List UInt8) (k : Nat) : Int := lastR (rngs xs ys 4080) k
theorem lastL_zero (xs ys : List UInt8) : lastL xs ys 0 = -9 := rfl
theorem lastL_succ {xs ys : List UInt8} {k : Nat} {r : Nat × Nat} (h : (rngs xs ys 4080)[k]? = some r) : lastL xs ys (k + 1) = (r.2 : Int) := lastR_succ h
theorem endL_zero (L : List (Int × List UInt8)) : endL L 0 = 0 := rfl
set_option maxRecDepth 100000 in
theorem diffL_far {xs ys : List UInt8} {k : Nat} {r : Nat × Nat} (h : (rngs xs ys 4080)[k]? = some r) : lastL xs ys k + 8 < (r.1 : Int) ∧ -9 ≤ lastL xs ys k := by
  cases k with
  | zero => rw [lastL_zero]; omega
  | succ k =>
    have hlt : k < (rngs xs ys 4080).length := by have := (List.getElem?_eq_some_iff.1 h).1; omega
    have := far_at (rngs_runs xs ys 4080).far (List.getElem?_eq_getElem hlt) h
    rw [lastL_succ (List.getElem?_eq_getElem hlt)]
    omega
set_option maxRecDepth 100000 in
theorem diffL_rec {xs ys : List UInt8} (hy : ys.length = 4080) : RecOk (diffL xs ys) := fun k p hp => by
  obtain ⟨a, b, e, h1, h2, h3, _⟩ := diffL_mem hy (List.mem_of_getElem? hp)
  have e1 : p.1 = (a : Int) := by rw [e]; rfl
  refine ⟨by omega, ?_, by rw [e1]; omega⟩
  cases k with
  | zero => rw [endL_zero]; omega
  | succ k =>
    obtain ⟨r, hr, er⟩ := diffL_at hp
    have hlt : k < (diffL xs ys).length := by have := (List.getElem?_eq_some_iff.1 hp).1; omega
    obtain ⟨q, hq, eq⟩ := diffL_at (List.getElem?_eq_getElem hlt)
    have hf := far_at (rngs_runs xs ys 4080).far hq hr
    have hqe := (rngs_runs xs ys 4080).each q (List.mem_of_getElem? hq)
    have hcl := cutP_length ys q (by omega) hqe.1
    rw [endL_succ (a := (cutP ys q).1) (X := (cutP ys q).2) (by rw [List.getElem?_eq_getElem hlt, eq]), hcl, er]
    simp only [cutP]
    omega
end Go.Proofs.Ytobnomlbkhkodaa.Y
