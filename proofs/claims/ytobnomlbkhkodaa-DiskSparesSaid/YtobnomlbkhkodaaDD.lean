/-
  place, content; what a sync and a crash leave.
-/
import Derived.Test.YtobnomlbkhkodaaDC
set_option linter.unusedVariables false
set_option linter.unusedSimpArgs false
namespace Go.Proofs.Ytobnomlbkhkodaa.Y
open Go.RowKit
attribute [local go_sem ↓] Go.wp_at_zero Go.wp_at_succ

theorem place_any {w : World} (x : Int) (h1 : -9223372036854775808 ≤ x) (h2 : x ≤ 9223372036854775807) :
    Calls Try.prog 34 #[.int .i64 x] w fun r w' => r = .returned (.int .i64 (x % 4)) ∧ w = w' := by
  have K := Lib.hid (pick_any (w := w) x 4 (by decide) (by decide) h1 h2)
  clear h1 h2
  go_enter Try.func34, Try.ntmps34
  go_wp2_with fail
  refine K.out.mono ?_
  rintro e w' ⟨rfl, rfl⟩
  go_wp2_with fail
  go_ret
  exact ⟨rfl, rfl⟩
theorem content_any {w : World} (x i : Int) (h1 : -9223372036854775808 ≤ x) (h2 : x ≤ 9223372036854775807) (h3 : 0 ≤ i) (h4 : i ≤ 1000000) :
    Calls Try.prog 35 #[.int .i64 x, .int .i64 i] w fun r w' => ∃ L v, r = .returned v ∧ L.length = 4096 ∧ Own w' w.heap.size v L ∧ Below w.heap.size w w' := by
  have t0 := Int.tmod_def x 4
  have t1 : x.tmod 4 < 4 := Int.tmod_lt_of_pos x (by omega)
  have t2 : -4 < x.tmod 4 := Int.lt_tmod_of_pos x (by omega)
  have hq1 : -2305843009213693954 ≤ x.tdiv 4 := by omega
  have hq2 : x.tdiv 4 ≤ 2305843009213693954 := by omega
  have e1 : IntKind.i64.wrap (x.tdiv 4) = x.tdiv 4 := by rw [IntKind.wrap_i64]; omega
  have e2 : IntKind.i64.wrap (x.tdiv 4 + i) = x.tdiv 4 + i := by rw [IntKind.wrap_i64]; omega
  have K := Lib.hid (made_any (w := w) (x.tdiv 4 + i) 4096 (by decide) (by omega) (by omega))
  clear h1 h2 h3 h4 t0 t1 t2
  go_enter Try.func35, Try.ntmps35
  go_wp2_with fail
  refine K.out.mono ?_
  rintro e w' ⟨L, v, rfl, hl, ho, hb⟩
  have HL := Lib.hid hl
  have HO := Lib.hid ho
  have HB := Lib.hid hb
  clear hl ho hb
  go_wp2_with fail
  go_ret
  exact ⟨_, _, rfl, HL.out, HO.out, HB.out⟩
/-- Nothing is armed. -/
structure Calm (D : DS) : Prop where
  down : D.down = false
  arm : D.arm = 0
  fail : D.fail = 0
theorem Calm.stop {D : DS} (h : Calm D) : stopE D = 0 := by
  unfold stopE
  rw [h.down, h.arm, h.fail]
  rfl
theorem Calm.same {D : DS} (h : Calm D) : stopD D = D := by
  obtain ⟨h1, h2, h3⟩ := h
  cases D
  simp only at h1 h2 h3
  subst h1; subst h2; subst h3
  rfl
theorem applyW_get (ws : List (Nat × List UInt8)) : ∀ (bs : List (List UInt8)) (b : Nat), b < bs.length → (applyW bs ws)[b]? = some (ws.foldl (fun acc (p : Nat × List UInt8) => if p.1 = b then p.2 else acc) (bs[b]?.getD [])) := by
  induction ws with
  | nil => intro bs b hb; simp [applyW, hb]
  | cons p ws ih =>
    intro bs b hb
    have := ih (bs.set p.1 p.2) b (by simpa using hb)
    unfold applyW at this ⊢
    rw [List.foldl_cons, List.foldl_cons, this]
    congr 2
    by_cases h : p.1 = b
    · subst h
      rw [if_pos rfl, List.getElem?_set_self hb]
      rfl
    · rw [if_neg h, List.getElem?_set_ne h]
theorem applyW_read {d : DS} {b : Nat} (hb : b < d.blocks.length) : (applyW d.blocks d.writes)[b]? = some (readV d b) := applyW_get _ _ _ hb
theorem leftL_all {ct : Nat} {ws : List (Nat × List UInt8)} {bs : List (List UInt8)} : ∀ k, k ≤ ws.length → leftL (List.replicate ws.length true) (-1) ct ws bs k = applyW bs (ws.take k) := by
  intro k
  induction k with
  | zero => intro _; rfl
  | succ k ih =>
    intro hk
    have hp := List.getElem?_eq_getElem (l := ws) (i := k) (by omega)
    rw [leftL_at hp, applyW_take hp, ih (by omega), stepL_keep (by omega) (by rw [List.getElem?_replicate, if_pos (by omega)])]
theorem leftL_none {ct : Nat} {ws : List (Nat × List UInt8)} {bs : List (List UInt8)} : ∀ k, leftL [] (-1) ct ws bs k = bs := by
  intro k
  induction k with
  | zero => rfl
  | succ k ih =>
    unfold leftL
    split
    · rw [stepL_gone (by omega) (by simp), ih]
    · exact ih
theorem crash_all (d : DS) (n ct : Nat) (hn : n = d.writes.length) {b : Nat} (hb : b < d.blocks.length) : (crashD d (List.replicate n true) (-1) ct).blocks[b]? = some (readV d b) := by
  subst hn
  show (leftL _ _ _ _ _ _)[b]? = _
  rw [leftL_all _ (Nat.le_refl _), List.take_length]
  exact applyW_read hb
theorem crash_none (d : DS) (ct : Nat) : (crashD d [] (-1) ct).blocks = d.blocks := leftL_none _
theorem sync_get {d : DS} {b : Nat} (hb : b < d.blocks.length) : (syncD d).blocks[b]? = some (readV d b) := applyW_read hb
theorem RdT.of_own {w : World} {B : Nat} {A : Option Addr} {n c : Nat} (h : w.ownsRow B 4 1 (.slice A n c) n (List.replicate n (.bool true))) : RdT w A (List.replicate n true) := by
  rcases h.2 with ⟨e, h0⟩ | ⟨g, cap, cur, e, hb, hh, h1, h2, h3, h4⟩
  · subst h0; exact .inl rfl
  · injection e with e1 e2 e3
    refine .inr ⟨g, 0, e1, fun j u hu => ?_⟩
    have hj : j < n := by simpa using (List.getElem?_eq_some_iff.1 hu).1
    have hu2 : u = true := (List.mem_replicate.1 (List.mem_of_getElem? hu)).2
    subst hu2
    rw [cell_of_row _ _ _ _ _ _ hh, Nat.zero_add]
    have : (cur.toList.take (n * 1))[j]? = some (.bool true) := by rw [h4, List.getElem?_replicate, if_pos hj]
    rw [List.getElem?_take_of_lt (by omega)] at this
    simpa using this
end Go.Proofs.Ytobnomlbkhkodaa.Y
