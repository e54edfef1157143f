/-
  chancerylaw08.pages; pieces appended; the plain laws of the pieces that Diff makes.
-/
import Derived.Test.YtobnomlbkhkodaaCC
set_option linter.unusedVariables false
set_option linter.unusedSimpArgs false
namespace Go.Proofs.Ytobnomlbkhkodaa.Y
open Go.RowKit

theorem Own.storedI {w : World} {B g n c : Nat} {xs : List UInt8} (h : Own w B (.slice (some ⟨g, 0, none⟩) n c) xs) (j : Nat) : ∀ z : Int, 0 ≤ z → z < 256 → ∃ x, Own (w.setCell ⟨g, j, none⟩ (.int .u8 z)) B (.slice (some ⟨g, 0, none⟩) n c) (xs.set j x) := fun z h0 h1 => by
  refine ⟨UInt8.ofNat z.toNat, ?_⟩
  have := h.stored j (UInt8.ofNat z.toNat)
  have e : bv (UInt8.ofNat z.toNat) = .int .u8 z := by
    unfold bv
    rw [UInt8.toNat_ofNat']
    congr 1
    omega
  rwa [e] at this
/-- Two pages out of one. -/
def TwoPages (w : World) (e : Ending) (w' : World) : Prop := ∃ X Y u v, e = .returned (.tuple #[u, v]) ∧ X.length = 4080 ∧ Y.length = 4080 ∧ Own w' w.heap.size u X ∧ (∃ w1 : World, Below w.heap.size w w1 ∧ Below w1.heap.size w1 w' ∧ Own w1 w.heap.size u X ∧ Own w' w1.heap.size v Y) ∧ Below w.heap.size w w'
set_option maxHeartbeats 3200000 in
set_option maxRecDepth 100000 in
theorem pages_any {w : World} {A : Option Addr} {ts : List Int} {l : Nat} (s : Int) (hL : ts.length = l) (c : Nat) (hA : RdI w A ts) (hI : Ints ts) (hl : l ≤ 140737488555328) (h1 : -9223372036854775808 ≤ s) (h2 : s ≤ 9223372036854775807) :
    Calls Try.prog 14 #[.int .i64 s, .slice A l c] w (TwoPages w) := by
  have HL := Lib.hid hL
  have HA := Lib.hid hA
  have HI := Lib.hid hI
  clear hL hA hI
  go_enter Try.func14, Try.ntmps14
  go_wp2_with fail
  refine (made_any s 4080 (by decide) h1 h2).mono ?_
  rintro e w1 ⟨X, u, rfl, hX, hu, hb1⟩
  obtain ⟨A1, k1, rfl, _, _, hr⟩ := hu.sliceN hX
  have HX := Lib.hid hX
  have OX := Lib.hid hu
  have BW := Lib.hid hb1
  have RX := Lib.hid hr
  clear hX hu hb1 hr
  go_wp2_with fail
  refine (copyBytes_any HX.out _ RX.out (by decide)).mono ?_
  rintro e w2 ⟨v, rfl, hv, hb2⟩
  obtain ⟨g, c1, rfl, hgB, _, _, _⟩ := hv.formN HX.out (by decide)
  have OY := Lib.hid hv
  have BY := Lib.hid hb2
  clear hv hb2
  go_wp2_with fail
  go_loopw [8] (fun i wr => ∃ k : Nat, k ≤ l ∧ k ≤ 200 ∧ i = .int .i64 k ∧ ∃ Y, Hid (Y.length = 4080) ∧ Hid (Own wr w1.heap.size (.slice (some ⟨g, 0, none⟩) 4080 c1) Y) ∧ Hid (Below w1.heap.size w1 wr)) (fun i _ => l - (intOf i).toNat)
  case atStart => exact ⟨0, Nat.zero_le _, by omega, rfl, _, HX, OY, BY⟩
  case round =>
    obtain ⟨k, hk, hk2, rfl, Y, hYl, hY, hb⟩ := hrel
    by_cases hlt : k < l ∧ k < 200
    · obtain ⟨hlt, hlt2⟩ := hlt
      obtain ⟨gt, ot, rfl, c2⟩ := (HA.out.below (BW.out.trans (hb.out.mono BW.out.size))).at_ (j := k) (by rw [HL.out]; exact hlt)
      have hz := HI.out _ (List.getElem_mem (l := ts) (n := k) (by rw [HL.out]; exact hlt))
      generalize ts[k]'(by rw [HL.out]; exact hlt) = z at c2 hz
      obtain ⟨N, hN⟩ := Int.eq_ofNat_of_zero_le (Int.emod_nonneg z (by decide : ((1000003 : Nat) : Int) ≠ 0))
      have hN2 : N < 1000003 := by have := Int.emod_lt_of_pos z (by decide : (0 : Int) < ((1000003 : Nat) : Int)); omega
      obtain ⟨q, hq⟩ := Int.eq_ofNat_of_zero_le (Int.emod_nonneg (N : Int) (by decide : (4080 : Int) ≠ 0))
      have hq2 : q < 4080 := by have := Int.emod_lt_of_pos (N : Int) (by decide : (0 : Int) < 4080); omega
      obtain ⟨old, t0⟩ : ∃ u, wr.cell? ⟨g, q, none⟩ = some u := ⟨_, hY.out.cellAt (j := q) (by rw [hYl.out]; exact hq2)⟩
      have f0 := hY.out.frozenAt q
      have hs := Lib.hid (hY.out.storedI q)
      have z0 : (0 : Int) ≤ (q : Int) := by omega
      have z1 : (q : Int) < 4080 := by omega
      have z2 : (0 : Int) ≤ (N : Int) / 4080 := by omega
      have z3 : (N : Int) / 4080 < 256 := by omega
      have kk : (k : Int) < 200 := by omega
      have HN := Lib.hid hN
      clear hN
      go_wp2_with (go_at_call 30; refine (pick_big z 1000003 (by decide) (by decide) (by omega) (by omega)).mono ?_; rintro e w' ⟨rfl, rfl⟩; rw [HN.out])
      have HQ := Lib.hid hq
      clear hq
      go_roundw
      case rel =>
        obtain ⟨x, hx⟩ := hs.out ((N : Int) / 4080) (by omega) (by omega)
        exact ⟨k + 1, by omega, by omega, by go_num, Y.set q x, (List.length_set ..).trans hYl.out, hx, hb.out.setCell (p := ⟨g, q, none⟩) hgB _⟩
      case measure => simp [intOf]; omega
    · have hex : k = l ∨ k = 200 := by omega
      have kk : (l : Int) ≤ (k : Int) ∨ ((k : Int) < (l : Int) ∧ (200 : Int) ≤ (k : Int)) := by omega
      clear hlt
      rcases kk with kk | ⟨kk, kk2⟩
      all_goals
        go_wp2_with fail
        go_ret2
        exact ⟨X, Y, _, _, rfl, HX.out, hYl.out, OX.out.below hb.out, ⟨w1, BW.out, hb.out, OX.out, hY.out⟩, BW.out.trans (hb.out.mono BW.out.size)⟩

theorem Pcs.drewN {w : World} {B : Nat} {v : Value} {L : List (Int × List UInt8)} (h : Pcs w B v L) (n : Nat) : Pcs (w.drewN n) B v L := h
theorem RdP.alloc {w : World} {A : Option Addr} {L : List (Int × List UInt8)} (h : RdP w A L) (o : Obj) : RdP (w.alloc o) A L := h.below (balloc (Below.refl _ _) o)
theorem flat_length (qs : List (Int × Value)) : (qs.flatMap pcell).length = qs.length * 2 := by
  induction qs with
  | nil => rfl
  | cons q qs ih => simp [List.flatMap_cons, pcell, ih]; omega
theorem ownsRow_one {w : World} {B : Nat} {qs : List (Int × Value)} {L : List (Int × List UInt8)} (h3 : ∀ (i : Nat) (q : Int × Value) (p : Int × List UInt8), qs[i]? = some q → L[i]? = some p → q.1 = p.1 ∧ Own w B q.2 p.2) (hl : qs.length = L.length) : ∀ x ∈ qs.flatMap pcell, x.oneCell' = true := by
  intro x hx
  obtain ⟨q, hq, hx⟩ := List.mem_flatMap.1 hx
  obtain ⟨i, hi, e⟩ := List.mem_iff_getElem.1 hq
  have := (h3 i q (L[i]'(by omega)) (by rw [List.getElem?_eq_getElem hi, e]) (List.getElem?_eq_getElem (by omega))).2
  obtain ⟨C, c, e2, _⟩ := this.slice
  simp [pcell] at hx
  rcases hx with rfl | rfl
  · rfl
  · rw [e2]; rfl
set_option maxRecDepth 100000 in
/-- More pieces. -/
theorem pcs_append_all {w : World} (base : Nat) (ty : TypeId) (v : Value) (L M : List (Int × List UInt8)) (h : Pcs w base v L) {A : Option Addr} {m c : Nat} (hu : Pcs w base (.slice A m c) M) (hL : L.length + M.length ≤ 4398046511000) (hbase : base ≤ w.heap.size) :
    ∃ v' w', (Builtin.append_ #[26, 26] ty #[v, .slice A m c]).run Try.prog w = .ok v' w' ∧ Pcs w' base v' (L ++ M) ∧ w.grownBy w' v.ownBlock := by
  obtain ⟨i0, hi, hzz⟩ := Option.map_eq_some_iff.1 info_piece
  simp only [Prod.mk.injEq] at hzz
  obtain ⟨hz0, hz1, hz2⟩ := hzz
  obtain ⟨qs, h1, h2, h3⟩ := h
  obtain ⟨rs, k1, k2, k3⟩ := hu
  have hm : m = rs.length := by
    rcases k2.2 with ⟨e, h0⟩ | ⟨g, cap, cur, e, _⟩
    · injection e with _ e _; omega
    · injection e with _ e _
  have := append_run (P := Try.prog) (w := w) base 26 ty 36 i0 _ 2 32 Try.underlying26 hi hz0 hz1 hz2 rfl (by decide) v qs.length (qs.flatMap pcell) h2 A m c (rs.flatMap pcell) (by rw [flat_length, hm])
    (by
      rcases k2.2 with ⟨e, h0⟩ | ⟨g, cap, cur, e, _⟩
      · left
        have : rs = [] := List.eq_nil_of_length_eq_zero h0
        rw [this]; rfl
      · right
        injection e with e _ _
        refine ⟨_, e, fun j x hx => ?_⟩
        have := World.ownsRow.cells k2 (g := g) (by rw [e]; rfl) j x hx
        exact this)
    (ownsRow_one k3 k1) (by simp only [maxLen]; omega) (by omega) hbase
  obtain ⟨v', w', hr, hown, hgr, _, _⟩ := this
  refine ⟨v', w', hr, ⟨qs ++ rs, by simp [h1, k1], ?_, ?_⟩, hgr⟩
  · rw [List.length_append, List.flatMap_append, ← hm]; exact hown
  · intro i q p hq hp
    by_cases hlt : i < qs.length
    · rw [List.getElem?_append_left hlt] at hq
      rw [List.getElem?_append_left (by omega)] at hp
      obtain ⟨e1, e2⟩ := h3 i q p hq hp
      exact ⟨e1, World.ownsRow.kept e2 hgr (row_ne h2 e2 (by decide))⟩
    · rw [List.getElem?_append_right (by omega)] at hq
      rw [List.getElem?_append_right (by omega), ← h1] at hp
      obtain ⟨e1, e2⟩ := k3 _ q p hq hp
      exact ⟨e1, World.ownsRow.kept e2 hgr (row_ne h2 e2 (by decide))⟩
section
variable {ops : Array Oper} {rest : List Oper} {o : Oper} {a : Act} {Q : Exit → Act → World → Prop} {w : World}
theorem wpList_append_pieces (hgd : o.guard = none) (s x : Operand)
    (ho : o.op = .call { callee := .builtin .append, args := #[s, x], argTypes := #[26, 26] })
    (base : Nat) (v : Value) (L M : List (Int × List UInt8)) (hs : a.eval s = v) (h : Pcs w base v L) {A : Option Addr} {m c : Nat} (hx : a.eval x = .slice A m c) (hu : Pcs w base (.slice A m c) M) (hL : L.length + M.length ≤ 4398046511000) (hbase : base ≤ w.heap.size)
    (hk : ∀ v' w', Pcs w' base v' (L ++ M) → w.grownBy w' v.ownBlock → wpList Try.prog ops Q rest (a.put o.dst v') w') : wpList Try.prog ops Q (o :: rest) a w := by
  refine wpList_step fun K hK => ?_
  rw [if_pos (by simp [Region.wanted, hgd])]
  obtain ⟨v', w', hr, h2, h3⟩ := pcs_append_all base o.type v L M h hu hL hbase
  unfold Oper.wp execOp
  simp only [ho, resolve, invoke, builtin, Sem.run_bind, Sem.run_pure, Result.andThen_ok, List.map_toArray, List.map_cons, List.map_nil, hs, hx, hr]
  exact hK _ _ (hk v' w' h2 h3)
end
/-! What Diff's pieces are. -/
theorem diffL_mem {xs ys : List UInt8} (hy : ys.length = 4080) {p : Int × List UInt8} (h : p ∈ diffL xs ys) : ∃ a b : Nat, p = cutP ys (a, b) ∧ a ≤ b ∧ b < 4080 ∧ p.2.length = b + 1 - a ∧ Unl xs ys a ∧ Unl xs ys b := by
  obtain ⟨r, hr, rfl⟩ := List.mem_map.1 h
  obtain ⟨h1, h2, h3, h4⟩ := (rngs_runs xs ys 4080).each r hr
  exact ⟨r.1, r.2, rfl, h1, h2, cutP_length ys r (by omega) h1, h3, h4⟩
theorem diffL_pok {xs ys : List UInt8} (hy : ys.length = 4080) : ∀ p ∈ diffL xs ys, Pok p := fun p h => by
  obtain ⟨a, b, e, h1, h2, h3, _⟩ := diffL_mem hy h
  have e1 : p.1 = (a : Int) := by rw [e]; rfl
  exact ⟨by omega, by omega, by omega⟩
theorem diffL_ok {xs ys : List UInt8} (hy : ys.length = 4080) : okP (diffL xs ys) = true := by
  unfold okP
  rw [List.all_eq_true]
  intro p h
  obtain ⟨a, b, e, h1, h2, h3, _⟩ := diffL_mem hy h
  have e1 : p.1 = (a : Int) := by rw [e]; rfl
  unfold mayP
  rw [e1, h3, decide_eq_true (by omega), decide_eq_true (by omega), decide_eq_true (by omega)]
  rfl
theorem diffL_length (xs ys : List UInt8) : (diffL xs ys).length ≤ 4081 := by
  unfold diffL
  rw [List.length_map]
  exact rngs_length xs ys 4080
theorem okP_append {L M : List (Int × List UInt8)} (h : okP L = true) (k : okP M = true) : okP (L ++ M) = true := by
  unfold okP at *
  rw [List.all_append, h, k]
  rfl
theorem layL_append (p : List UInt8) (L M : List (Int × List UInt8)) : layL p (L ++ M) = layL (layL p L) M := by simp [layL]
theorem sizeW_diff (xs ys : List UInt8) (hx : xs.length = 4080) (hy : ys.length = 4080) : sizeW (diffL xs ys) = sizeW (diffL ys xs) := by
  unfold sizeW
  rw [sizeL_diff xs ys hx hy]
end Go.Proofs.Ytobnomlbkhkodaa.Y
