/-
  The closure 'end' of change.Diff.
-/
import Derived.Test.YtobnomlbkhkodaaC4
import Derived.Test.YtobnomlbkhkodaaYP
import Derived.Deep.RegionLaw
set_option linter.unusedVariables false
set_option linter.unusedSimpArgs false
namespace Go.Proofs.Ytobnomlbkhkodaa.Y
open Go.RowKit
attribute [local go_sem ↓] Go.wp_at_zero Go.wp_at_succ

section
variable {ops : Array Oper} {o : Oper} {a : Act} {Q : Exit → Act → World → Prop} {w : World}
theorem step_append_piece {K : Act → World → Prop} {E : Prop} (hgd : o.guard = none) (s x : Operand)
    (ho : o.op = .call { callee := .builtin .append, args := #[s, x], argTypes := #[26, 26] })
    (base : Nat) (v : Value) (L : List (Int × List UInt8)) (hs : a.eval s = v) (h : Pcs w base v L) (p : Int) (u : Value) (xs : List UInt8) (hu : Own w base u xs) (g : Nat) (hx : a.eval x = .slice (some ⟨g, 0, none⟩) 1 1)
    (hg : w.heap[g]? = some (.cells #[.int .i64 p, u] 36 (0, 0))) (hL : L.length ≤ 4398046511000) (hbase : base ≤ w.heap.size)
    (hk : ∀ v' w', Pcs w' base v' (L ++ [(p, xs)]) → w.grownBy w' v.ownBlock → K (a.put o.dst v') w') :
    if Region.wanted o (yielded ops a.tmps) = true then Oper.wp Try.prog o a w K Q else E := by
  rw [if_pos (by simp [Region.wanted, hgd])]
  obtain ⟨v', w', hr, h2, h3⟩ := pcs_append_run base o.type v L h p u xs hu g hg hL hbase
  unfold Oper.wp execOp
  simp only [ho, resolve, invoke, builtin, Sem.run_bind, Sem.run_pure, Result.andThen_ok, List.map_toArray, List.map_cons, List.map_nil, hs, hx, hr]
  exact hk v' w' h2 h3
end
theorem end_no {w : World} {gF gO gN gT : Nat} (a : Int) (ha : a < 0) (hF : Bx w gF 3 (.int .i64 a)) :
    Calls Try.prog 51 #[.pointer (some ⟨gF, 0, none⟩), .pointer (some ⟨gO, 0, none⟩), .pointer (some ⟨gN, 0, none⟩), .pointer (some ⟨gT, 0, none⟩)] w fun e w' => e = .returned (.tuple #[]) ∧ w = w' := by
  have c1 := hF.cell
  go_enter Try.func51, Try.ntmps51
  go_wp2_with fail
  go_end0
  exact ⟨rfl, rfl⟩
/-- Below B only block g may have changed. -/
structure Chg (B g : Nat) (w w' : World) : Prop where
  os : w'.os = w.os
  tape : w'.tape = w.tape
  output : w'.output = w.output
  size : w.heap.size ≤ w'.heap.size
  block : ∀ k, k < B → k ≠ g → w'.heap[k]? = w.heap[k]?
  others : ∀ (k : Nat) (o : Obj), w.heap[k]? = some o → o.isCells = false → w'.heap[k]? = some o
theorem Chg.of_below {B g : Nat} {w w' : World} (hB : B ≤ w.heap.size) (h : Below w.heap.size w w') : Chg B g w w' := ⟨h.os, h.tape, h.output, h.size, fun k hk _ => h.block k (by omega), fun k o hk _ => (h.block k (Array.getElem?_eq_some_iff.1 hk).1).trans hk⟩
theorem Chg.grown {B g : Nat} {w w1 w2 : World} (h : Chg B g w w1) {row : Option Nat} (hg : w1.grownBy w2 row) (hB : B ≤ w1.heap.size) (hr : ∀ k, row = some k → (B ≤ k ∨ k = g) ∧ ∃ o : Obj, w1.heap[k]? = some o ∧ o.isCells = true) : Chg B g w w2 :=
  ⟨hg.os.trans h.os, hg.tape.trans h.tape, hg.output.trans h.output, Nat.le_trans h.size hg.size, fun k hk hne => (hg.block k (by omega) (fun e => by have := (hr k e.symm).1; omega)).trans (h.block k hk hne),
    fun k o hk ho => by
      have h1 := h.others k o hk ho
      refine (hg.block k (Array.getElem?_eq_some_iff.1 h1).1 (fun e => ?_)).trans h1
      obtain ⟨_, o', h2, h3⟩ := hr k e.symm
      rw [h1] at h2
      injection h2 with h2
      rw [h2, h3] at ho
      cases ho⟩
theorem Chg.below {B B' g : Nat} {w w' : World} (h : Chg B g w w') (h1 : B' ≤ B) (h2 : B' ≤ g) : Below B' w w' := ⟨h.os, h.tape, h.output, h.size, fun k hk => h.block k (by omega) (by omega)⟩
theorem Pcs.isCells {w : World} {B : Nat} {v : Value} {L : List (Int × List UInt8)} (h : Pcs w B v L) : ∀ k, v.ownBlock = some k → ∃ o : Obj, w.heap[k]? = some o ∧ o.isCells = true := fun k hk => by
  obtain ⟨qs, h1, h2, _⟩ := h
  obtain ⟨cur, hc⟩ := row_at h2 hk
  exact ⟨_, hc, rfl⟩
theorem Pcs.keep {w w1 : World} {B : Nat} {v : Value} {L : List (Int × List UInt8)} (h : Pcs w B v L) {row : Option Nat} (hg : w.grownBy w1 row) (hr : ∀ r, row = some r → ∃ o : Obj, w.heap[r]? = some o ∧ o.isCells = false) : Pcs w1 B v L := by
  obtain ⟨qs, h1, h2, h3⟩ := h
  refine ⟨qs, h1, World.ownsRow.kept h2 hg ?_, fun i q p hq hp => ⟨(h3 i q p hq hp).1, own_keep (h3 i q p hq hp).2 hg hr⟩⟩
  cases hv : v.ownBlock with
  | none => exact .inl rfl
  | some g =>
    right
    intro e
    obtain ⟨cur, hc⟩ := row_at h2 hv
    obtain ⟨o, h1, h2⟩ := hr g e.symm
    rw [hc] at h1
    injection h1 with h1
    rw [← h1] at h2
    cases h2
theorem Pcs.mono {w : World} {B B' : Nat} {v : Value} {L : List (Int × List UInt8)} (h : Pcs w B v L) (hB : B' ≤ B) : Pcs w B' v L := by
  obtain ⟨qs, h1, h2, h3⟩ := h
  refine ⟨qs, h1, ⟨h2.1, ?_⟩, fun i q p hq hp => ⟨(h3 i q p hq hp).1, (h3 i q p hq hp).2.mono hB⟩⟩
  rcases h2.2 with h2 | ⟨g, cap, cur, hv, hg, r⟩
  · exact .inl h2
  · exact .inr ⟨g, cap, cur, hv, Nat.le_trans hB hg, r⟩
theorem Pcs.slice {w : World} {B : Nat} {v : Value} {L : List (Int × List UInt8)} (h : Pcs w B v L) : ∃ A c, v = .slice A L.length c := by
  obtain ⟨qs, h1, h2, _⟩ := h
  rcases h2.2 with ⟨rfl, h0⟩ | ⟨g', cap, cur, rfl, _⟩
  · exact ⟨none, 0, by rw [← h1, h0]⟩
  · exact ⟨_, _, by rw [h1]⟩
theorem Pcs.sliceN {w : World} {B : Nat} {v : Value} {L : List (Int × List UInt8)} (h : Pcs w B v L) {n : Nat} (hn : L.length = n) : ∃ A c, v = .slice A n c := by
  obtain ⟨A, c, rfl⟩ := h.slice
  exact ⟨A, c, by rw [hn]⟩
theorem Pcs.base {w : World} {B : Nat} {v : Value} {L : List (Int × List UInt8)} (h : Pcs w B v L) : ∀ k, v.ownBlock = some k → B ≤ k := by
  obtain ⟨qs, h1, h2, _⟩ := h
  exact fun k hk => (World.ownsRow.lt h2 k hk).1
theorem Pcs.store {w : World} {B g : Nat} {v : Value} {L : List (Int × List UInt8)} (h : Pcs w B v L) (hg : g < B) (x : Value) : Pcs (w.setCell ⟨g, 0, none⟩ x) B v L := by
  have hb := h.base
  obtain ⟨qs, h1, h2, h3⟩ := h
  refine ⟨qs, h1, World.ownsRow.kept h2 (grownBy_setCell' w g x) ?_, fun i q p hq hp => ⟨(h3 i q p hq hp).1, own_store (h3 i q p hq hp).2 hg x⟩⟩
  cases hv : v.ownBlock with
  | none => exact .inl rfl
  | some k => right; intro e; injection e with e; have := hb k hv; omega
set_option maxHeartbeats 1600000 in
theorem end_yes {w : World} {gF gO gN gT B : Nat} (a b c : Nat) (A : Option Addr) (xs : List UInt8) (hx : xs.length = 4080) (hc : 4080 ≤ c) (hab : a ≤ b) (hb : b < 4080) (v : Value) (L : List (Int × List UInt8)) (hL : L.length ≤ 4398046511000)
    (hF : Bx w gF 3 (.int .i64 a)) (hO : Bx w gO 26 v) (hN : Bx w gN 23 (.slice A 4080 c)) (hT : Bx w gT 3 (.int .i64 b)) (hA : Rd w A xs) (hP : Pcs w B v L) (hgO : gO < B) (hgF : gF < B) (hgN : gN < B) (hgT : gT < B)
    (nF : gF ≠ gO) (nN : gN ≠ gO) (nT : gT ≠ gO) (hB : B ≤ w.heap.size) :
    Calls Try.prog 51 #[.pointer (some ⟨gF, 0, none⟩), .pointer (some ⟨gO, 0, none⟩), .pointer (some ⟨gN, 0, none⟩), .pointer (some ⟨gT, 0, none⟩)] w fun e w' => ∃ v', e = .returned (.tuple #[]) ∧ Bx w' gO 26 v' ∧ Pcs w' B v' (L ++ [((a : Int), (xs.drop a).take (b + 1 - a))]) ∧ Chg B gO w w' := by
  have c1 := hF.cell
  have c2 := hO.cell
  have c3 := hN.cell
  have c4 := hT.cell
  obtain ⟨Av, cv, rfl⟩ := hP.slice
  have HP := Lib.hid hP
  have HO := Lib.hid hO
  have HF := Lib.hid hF
  have HN := Lib.hid hN
  have HT := Lib.hid hT
  have RA := Lib.hid (hA.mid a (b + 1 - a) c (by omega))
  have hl : Hid (((xs.drop a).take (b + 1 - a)).length = b + 1 - a) := by show _ = _; rw [List.length_take, List.length_drop]; omega
  have z1 : (a : Int) ≤ (b : Int) + 1 := by omega
  have z2 : (b : Int) + 1 ≤ c := by omega
  have z0 : (0 : Int) ≤ (b : Int) + 1 := by omega
  have hs : IntKind.i64.wrap ((b : Int) + 1) = (b : Int) + 1 := by rw [IntKind.wrap_i64]; omega
  have ht : ((b : Int) + 1).toNat = b + 1 := by omega
  clear hF hO hN hT hP hA hx
  go_enter Try.func51, Try.ntmps51
  go_wp2_with fail
  refine region_popN 11 (S := (fun w' : World => w'.cell? ⟨gF, 0, none⟩ = some (.int .i64 a) ∧ w'.cell? ⟨gN, 0, none⟩ = some (.slice A 4080 c) ∧ w'.cell? ⟨gT, 0, none⟩ = some (.int .i64 b) ∧ w'.cell? ⟨gO, 0, none⟩ = some (.slice Av L.length cv))) (by simp only [List.take_succ_cons, List.take_zero]; rfl) (by simp only [List.drop_succ_cons, List.drop_zero]; rfl) (by kernel_rfl) (by kernel_rfl) rfl (by kernel_rfl) (by kernel_rfl) ⟨c1, c3, c4, c2⟩ (fun hHeld => ?_)
  refine wpAnyH_take (i := 0) (v := ?_) rfl (by kernel_rfl) (by kernel_rfl) (by kernel_rfl) (fun _ _ _ h => h) (Or.inl ⟨by rfl, ?_⟩) (by assumption) ?_
  rotate_left
  · (intro w hSw; (try dsimp only at hSw); first | (go_simp; done) | (go_simp; with_reducible rfl))
  try simp only [Act.put, List.setIfInBounds_toArray, List.set_cons_zero, List.set_cons_succ]
  refine wpAnyH_take (i := 1) (v := ?_) rfl (by kernel_rfl) (by kernel_rfl) (by kernel_rfl) (fun _ _ _ h => h) (Or.inl ⟨by rfl, ?_⟩) (by assumption) ?_
  rotate_left
  · (intro w hSw; (try dsimp only at hSw); first | (go_simp; done) | (go_simp; with_reducible rfl))
  try simp only [Act.put, List.setIfInBounds_toArray, List.set_cons_zero, List.set_cons_succ]
  refine wpAnyH_take (i := 2) (v := ?_) rfl (by kernel_rfl) (by kernel_rfl) (by kernel_rfl) (fun _ _ _ h => h) (Or.inl ⟨by rfl, ?_⟩) (by assumption) ?_
  rotate_left
  · (intro w hSw; (try dsimp only at hSw); first | (go_simp; done) | (go_simp; with_reducible rfl))
  try simp only [Act.put, List.setIfInBounds_toArray, List.set_cons_zero, List.set_cons_succ]
  refine wpAnyH_take (i := 3) (v := ?_) rfl (by kernel_rfl) (by kernel_rfl) (by kernel_rfl) (fun _ _ _ h => h) (Or.inl ⟨by rfl, ?_⟩) (by assumption) ?_
  rotate_left
  · (intro w hSw; (try dsimp only at hSw); first | (go_simp; done) | (go_simp; with_reducible rfl))
  try simp only [Act.put, List.setIfInBounds_toArray, List.set_cons_zero, List.set_cons_succ]
  refine wpAnyH_take (i := 4) (v := ?_) rfl (by kernel_rfl) (by kernel_rfl) (by kernel_rfl) (fun _ _ _ h => h) (Or.inl ⟨by rfl, ?_⟩) (by assumption) ?_
  rotate_left
  · (intro w hSw; (try dsimp only at hSw); first | (go_simp; done) | (go_simp; with_reducible rfl))
  try simp only [Act.put, List.setIfInBounds_toArray, List.set_cons_zero, List.set_cons_succ]
  refine wpAnyH_take (i := 5) (v := ?_) rfl (by kernel_rfl) (by kernel_rfl) (by kernel_rfl) (fun _ _ _ h => h) (Or.inl ⟨by rfl, ?_⟩) (by assumption) ?_
  rotate_left
  · (intro w hSw; (try dsimp only at hSw); first | (go_simp; done) | (go_simp; with_reducible rfl))
  try simp only [Act.put, List.setIfInBounds_toArray, List.set_cons_zero, List.set_cons_succ]
  refine wpAnyH_take (i := 6) (v := ?_) rfl (by kernel_rfl) (by kernel_rfl) (by kernel_rfl) (fun _ _ _ h => h) (Or.inl ⟨by rfl, ?_⟩) (by assumption) ?_
  rotate_left
  · (intro w hSw; (try dsimp only at hSw); first | (go_simp; done) | (go_simp; with_reducible rfl))
  try simp only [Act.put, List.setIfInBounds_toArray, List.set_cons_zero, List.set_cons_succ]
  refine wpAnyH_ready (rs := [7]) (by kernel_rfl) (by simp) ?_
  refine AllReadyH.cons rfl (fun K hK => ?_) AllReadyH.nil
  (go_simp; go_at_call 52; refine (clone_any (w := w.drew) (xs := (xs.drop a).take (b + 1 - a)) hl.out _ (show Rd w.drew _ _ from RA.out) (by omega)).mono ?_; rintro e w1 ⟨rv, rfl, hvv, _, hbb⟩; obtain ⟨A1, k1, rfl, _, _, _⟩ := hvv.sliceN hl.out; have OC : Hid (Own w1 B _ _) := Own.mono hvv (show B ≤ w.heap.size from hB); have BC : Hid (Below w.heap.size w w1) := bthen (bdrew (Below.refl _ _)) hbb; clear hvv hbb)
  refine hK.out _ _ ?_ (fun hHeld => ?_)
  · exact ⟨(HF.out.below BC.out).cell, (HN.out.below BC.out).cell, (HT.out.below BC.out).cell, (HO.out.below BC.out).cell⟩
  clear hK K
  try simp only [Act.put, List.setIfInBounds_toArray, List.set_cons_zero, List.set_cons_succ]
  refine wpAnyH_take (i := 8) (v := ?_) rfl (by kernel_rfl) (by kernel_rfl) (by kernel_rfl) (fun _ _ _ h => h) (Or.inl ⟨by rfl, ?_⟩) (by assumption) ?_
  rotate_left
  · (intro w hSw; (try dsimp only at hSw); first | (go_simp; done) | (go_simp; with_reducible rfl))
  try simp only [Act.put, List.setIfInBounds_toArray, List.set_cons_zero, List.set_cons_succ]
  refine wpAnyH_ready (rs := [9]) (by kernel_rfl) (by simp) ?_
  refine AllReadyH.cons rfl (fun K hK => ?_) AllReadyH.nil
  (go_simp)
  refine hK.out _ _ ?_ (fun hHeld => ?_)
  · exact ⟨((HF.out.below BC.out).below (balloc (Below.refl _ _) _)).cell, ((HN.out.below BC.out).below (balloc (Below.refl _ _) _)).cell, ((HT.out.below BC.out).below (balloc (Below.refl _ _) _)).cell, ((HO.out.below BC.out).below (balloc (Below.refl _ _) _)).cell⟩
  clear hK K
  try simp only [Act.put, List.setIfInBounds_toArray, List.set_cons_zero, List.set_cons_succ]
  refine wpAnyH_ready (rs := [10]) (by kernel_rfl) (by simp) ?_
  refine AllReadyH.cons rfl (fun K hK => ?_) AllReadyH.nil
  (refine step_append_piece rfl (.tmp 6) (.tmp 15) rfl B _ L rfl ((HP.out.below BC.out).alloc _) a _ ((xs.drop a).take (b + 1 - a)) (OC.out.alloc _) w1.heap.size rfl (heap_alloc_new _ _) hL (by have := BC.out.size; simp; omega) ?_; intro v2 w2 hp2 hg2; have P2 := Lib.hid hp2; have G2 := Lib.hid hg2; obtain ⟨A2, k2, rfl⟩ := hp2.slice; have X2 := Lib.hid ((((HO.out.below BC.out).below (balloc (Below.refl _ _) _))).grown hg2 (by intro e; have := HP.out.base gO e.symm; omega)); have XF := Lib.hid ((((HF.out.below BC.out).below (balloc (Below.refl _ _) _))).grown hg2 (by intro e; have := HP.out.base gF e.symm; omega)); have XN := Lib.hid ((((HN.out.below BC.out).below (balloc (Below.refl _ _) _))).grown hg2 (by intro e; have := HP.out.base gN e.symm; omega)); have XT := Lib.hid ((((HT.out.below BC.out).below (balloc (Below.refl _ _) _))).grown hg2 (by intro e; have := HP.out.base gT e.symm; omega)); clear hp2 hg2)
  refine hK.out _ _ ?_ (fun hHeld => ?_)
  · exact ⟨XF.out.cell, XN.out.cell, XT.out.cell, X2.out.cell⟩
  clear hK K
  try simp only [Act.put, List.setIfInBounds_toArray, List.set_cons_zero, List.set_cons_succ]
  refine wpAnyH_done (by kernel_rfl) ?_ _
  have x2 := X2.out.cell
  have f2 := X2.out.frozen
  clear hHeld
  show wpList _ _ _ _ _ _
  go_wp2_with fail
  go_end0
  have q1 : Chg B gO w w1 := Chg.of_below hB BC.out
  have q2 : Chg B gO w (w1.alloc (.cells #[.int .i64 a, .slice A1 (b + 1 - a) k1] 36)) := q1.grown (World.grownBy_alloc _ _ none) (by have := BC.out.size; omega) (by intro k e; cases e)
  have q3 : Chg B gO w w2 := q2.grown G2.out (by have := BC.out.size; simp; omega) (fun k e => ⟨.inl (HP.out.base k e), ((HP.out.below BC.out).alloc _).isCells k e⟩)
  have hz : B ≤ w2.heap.size := by have := q3.size; omega
  refine ⟨_, rfl, (X2.out.store _).1, ?_, q3.grown (X2.out.store _).2 hz (fun k e => by injection e with e; subst e; exact ⟨.inr rfl, X2.out.isCells⟩)⟩
  have := P2.out.store hgO (.slice A2 (L.length + 1) k2)
  simpa using this
end Go.Proofs.Ytobnomlbkhkodaa.Y
