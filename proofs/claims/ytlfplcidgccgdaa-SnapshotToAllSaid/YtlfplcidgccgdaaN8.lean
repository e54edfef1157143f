/-
  SnapshotStays: what a watcher sees; rows of ints.
-/
import Derived.Test.YtlfplcidgccgdaaN6
set_option linter.unusedVariables false
set_option linter.unusedSimpArgs false
namespace Go.Proofs.Ytlfplcidgccgdaa.Y
open Go.RowKit Go.Maps
attribute [local go_sem ↓] Go.wp_at_zero Go.wp_at_succ

theorem info_int : (Try.prog.info? 3).map (fun i => (i.zero, i.size, i.bytes)) = some (some (.int .i64 0), 1, 8) := by kernel_rfl
/-- A row of ints of the call's own. -/
def OwnI (w : World) (B : Nat) (v : Value) (xs : List Int) : Prop := w.ownsRow B 3 1 v xs.length (ivs xs)
theorem OwnI.nil (w : World) (B : Nat) : OwnI w B (.slice none 0 0) [] := World.ownsRow_nil _ _ _ _
theorem OwnI.slice {w : World} {B : Nat} {v : Value} {xs : List Int} (h : OwnI w B v xs) : ∃ A c, v = .slice A xs.length c ∧ RdI w A xs := by
  rcases h.2 with ⟨rfl, h0⟩ | ⟨g, cap, cur, rfl, _, hg, h1, h2, h3, h4⟩
  · exact ⟨none, 0, by rw [h0], .inl (List.eq_nil_of_length_eq_zero h0)⟩
  · refine ⟨_, cap, rfl, .inr ⟨g, 0, rfl, fun j u hu => ?_⟩⟩
    have := World.ownsRow.cells h (g := g) rfl j (iv u) (by simp [ivs, hu])
    rwa [add_plain] at this
theorem OwnI.kept {w w1 : World} {B : Nat} {v : Value} {xs : List Int} {S : Nat → Prop} (h : OwnI w B v xs) (ht : Tch S w w1) (hs : ∀ k, v.ownBlock = some k → ¬ S k) : OwnI w1 B v xs := ht.rows h hs
theorem OwnI.below {w w1 : World} {B : Nat} {v : Value} {xs : List Int} (h : OwnI w B v xs) (hb : Below w.heap.size w w1) : OwnI w1 B v xs := (Tch.below (S := fun _ => False) hb).rows h (fun _ _ q => q)
theorem ft_rows {w : World} {g bo bc bd bg : Nat} {s : TS} (h : TableAt w g bo bc bd bg s) {B : Nat} {v : Value} {xs : List Int} (ho : OwnI w B v xs) : ∀ k, v.ownBlock = some k → ¬ FT g bo bc bd bg k := by
  intro k hk hf
  obtain ⟨cur, hc⟩ := row_at ho hk
  have hm : ∀ {b : Nat} {M : Int → Option Int} {sz : Nat}, MI w b M sz → k ≠ b := fun hm e => by
    subst e
    obtain ⟨es, c, h2⟩ := hm.isMap
    rw [h2] at hc
    cases hc
  rcases hf with rfl | hf | hf | hf | hf
  · have h1 : w.heap[k]? = _ := h.obj
    rw [h1] at hc
    injection hc with hc
    injection hc with _ hc
    exact absurd hc (by decide)
  · exact hm h.mo hf
  · exact hm h.mc hf
  · exact hm h.md hf
  · exact hm h.mg hf
section
variable {P : Program} {ops : Array Oper} {rest : List Oper} {o : Oper} {a : Act} {Q : Exit → Act → World → Prop} {w : World}
theorem wpList_append_int (hgd : Region.wanted o (yielded ops a.tmps) = true) (s x : Operand) (t : TypeId)
    (ho : o.op = .call { callee := .builtin .append, args := #[s, x], argTypes := #[t, t] }) (base : Nat) (ht : P.underlying t = some (.slice 3)) (hinfo : (P.info? 3).map (fun i => (i.zero, i.size, i.bytes)) = some (some (.int .i64 0), 1, 8))
    (v : Value) (xs : List Int) (hs : a.eval s = v) (hown : OwnI w base v xs) (g : Nat) (hx : a.eval x = .slice (some ⟨g, 0, none⟩) 1 1) (y : Int) (hg : w.cell? ⟨g, 0, none⟩ = some (.int .i64 y)) (hl : xs.length ≤ 1000000) (hbase : base ≤ w.heap.size)
    (h : ∀ v' w', OwnI w' base v' (xs ++ [y]) → w.grownBy w' v.ownBlock → wpList P ops Q rest (a.put o.dst v') w') : wpList P ops Q (o :: rest) a w := by
  obtain ⟨i0, hi, hzz⟩ := Option.map_eq_some_iff.1 hinfo
  simp only [Prod.mk.injEq] at hzz
  obtain ⟨hz0, hz1, hz2⟩ := hzz
  refine wpList_step fun K hK => ?_
  rw [if_pos hgd]
  obtain ⟨v', w', hr, h2, h3, h4, h5⟩ := append_run (P := P) (w := w) base t o.type 3 i0 (.int .i64 0) 1 8 ht hi hz0 hz1 hz2 rfl (by decide) v xs.length (ivs xs) hown (some ⟨g, 0, none⟩) 1 1 [.int .i64 y] rfl (.inr ⟨_, rfl, fun j u hu => by
    match j, hu with
    | 0, hu => injection hu with hu; subst hu; rw [add_plain]; exact hg
    | (j + 1), hu => simp at hu⟩) (by intro u hu; simp at hu; subst hu; rfl) (by simp only [maxLen]; omega) (by omega) hbase
  unfold Oper.wp execOp
  simp only [ho, resolve, invoke, builtin, Sem.run_bind, Sem.run_pure, Result.andThen_ok, List.map_toArray, List.map_cons, List.map_nil, hs, hx, hr]
  refine hK _ _ (h v' w' ?_ h3)
  have e : ivs (xs ++ [y]) = ivs xs ++ [.int .i64 y] := by simp [ivs, iv]
  unfold OwnI
  rw [e, List.length_append]
  exact h2
end
/-- 1, 2, .., k. -/
def upto (k : Nat) : List Int := (List.range k).map fun (j : Nat) => (j : Int) + 1
@[simp] theorem upto_length (k : Nat) : (upto k).length = k := by simp [upto]
theorem upto_succ (k : Nat) : upto (k + 1) = upto k ++ [(k : Int) + 1] := by simp [upto, List.range_succ]
set_option maxHeartbeats 1600000 in
theorem sameInts_eq {w : World} {A B : Option Addr} {xs : List Int} {n : Nat} (hn : xs.length = n) (c d : Nat) (hA : RdI w A xs) (hB : RdI w B xs) (hl : n ≤ 1000000) :
    Calls Try.prog 23 #[.slice A n c, .slice B n d] w fun e w' => e = .returned (.bool true) ∧ Below w.heap.size w w' := by
  have HN := Lib.hid hn
  have HA := Lib.hid hA
  have HB := Lib.hid hB
  have q0 : ((n : Int) != (n : Int)) = false := by simp
  clear hn hA hB
  go_enter Try.func23, Try.ntmps23
  go_wp2_with fail
  go_loopw [5] (fun i wr => ∃ k : Nat, k ≤ n ∧ i = .int .i64 k ∧ Hid (Below w.heap.size w wr)) (fun i _ => n - (intOf i).toNat)
  case atStart => exact ⟨0, Nat.zero_le _, rfl, Below.refl _ _⟩
  case round =>
    obtain ⟨k, hk, rfl, hb⟩ := hrel
    by_cases hlt : k < n
    · have hlx : k < xs.length := by rw [HN.out]; exact hlt
      obtain ⟨b1, o1, rfl, p1⟩ := (HA.out.below hb.out).at_ hlx
      obtain ⟨b2, o2, rfl, p2⟩ := (HB.out.below hb.out).at_ hlx
      generalize xs[k]'hlx = y at *
      have z0 : (0 : Int) ≤ (k : Int) := by omega
      have z1 : (k : Int) < (n : Int) := by omega
      have q1 : ((y : Int) != y) = false := by simp
      go_upto_region 6 with (fail)
      go_quiet (fail)
      go_wp2_with fail
      go_roundw
      case rel => exact ⟨k + 1, by omega, by go_num, bdrewN hb.out _⟩
      case measure => simp [intOf]; omega
    · obtain rfl : k = n := by omega
      go_wp2_with fail
      go_ret
      exact ⟨rfl, hb.out⟩
theorem pick_big {w : World} (x : Int) (n : Nat) (h0 : 0 < n) (hn : n ≤ 2000000) (h1 : -9223372036854775808 ≤ x) (h2 : x ≤ 9223372036854775807) :
    Calls Try.prog 16 #[.int .i64 x, .int .i64 n] w fun r w' => r = .returned (.int .i64 (x % n)) ∧ w = w' := by
  have b1 : x.tmod n < n := Int.tmod_lt_of_pos x (by omega)
  have b2 : -(n : Int) < x.tmod n := Int.lt_tmod_of_pos x (by omega)
  have b3 := Int.emod_nonneg x (b := (n : Int)) (by omega)
  have b4 := Int.emod_lt_of_pos x (b := (n : Int)) (by omega)
  have e : x.tmod n = x % n ∨ x.tmod n = x % n - n := by
    have e := Int.tmod_eq_emod (a := x) (b := (n : Int))
    split at e
    · left; rw [e]; simp
    · right; rw [e]; simp
  by_cases h : x.tmod n < 0
  · have e2 : x.tmod n + n = x % n := by omega
    go_enter Try.func16, Try.ntmps16
    go_wp2
    go_ret
    exact ⟨rfl, rfl⟩
  · have e2 : x.tmod n = x % n := by omega
    go_enter Try.func16, Try.ntmps16
    go_wp2
    go_ret
    exact ⟨rfl, rfl⟩
/-- What the watcher N leans on. -/
structure SInv (N : Nat) (s : TS) : Prop where
  n1 : 1 ≤ N
  fst : s.first = N
  me : s.op N = some 0
  lt : (N : Int) < s.next
  cmk : ∀ k v, s.cm k = some v → 1 ≤ v ∧ (N : Int) < k
  ddk : ∀ k v, s.dd k = some v → (N : Int) < k
  gnk : ∀ k v, s.gn k = some v → (N : Int) < k
theorem SInv.sees {N : Nat} {s : TS} (h : SInv N s) (k : Int) : visB s N k = decide (1 ≤ k ∧ k ≤ N) := by
  unfold visB
  rw [h.me]
  dsimp only
  have hn := h.n1
  by_cases e : k = N
  · subst e
    rw [show ((N : Int) == (N : Int)) = true from by simp, decide_eq_true (show 1 ≤ (N : Int) ∧ (N : Int) ≤ N by omega), Bool.true_or]
  · rw [show (k == (N : Int)) = false from by rw [beq_eq_false_iff_ne]; exact e, Bool.false_or]
    unfold placeB placeN oldB
    rw [h.fst]
    by_cases hg : (N : Int) < k
    · rw [decide_eq_false (show ¬ (1 ≤ k ∧ k ≤ N) by omega), decide_eq_false (show ¬ k < (N : Int) by omega)]
      cases hc : s.cm k with
      | none => simp
      | some v =>
        have := (h.cmk k v hc).1
        rw [Option.getD_some, decide_eq_false (show ¬ v ≤ 0 by omega), Bool.and_false]
    · have hc : s.cm k = none := by
        cases hc : s.cm k with
        | none => rfl
        | some v => exact absurd (h.cmk k v hc).2 hg
      have hd : s.dd k = none := by
        cases hc : s.dd k with
        | none => rfl
        | some v => exact absurd (h.ddk k v hc) hg
      have hG : s.gn k = none := by
        cases hc : s.gn k with
        | none => rfl
        | some v => exact absurd (h.gnk k v hc) hg
      rw [hc, hd, hG]
      have e1 : decide (k < (N : Int)) = true := decide_eq_true (by omega)
      rw [e1]
      by_cases h1 : 1 ≤ k
      · rw [decide_eq_true h1, decide_eq_true (show 1 ≤ k ∧ k ≤ N by omega)]
        rfl
      · rw [decide_eq_false h1, decide_eq_false (show ¬ (1 ≤ k ∧ k ≤ N) by omega)]
        rfl
theorem updM_some {M : Int → Option Int} {x k v : Int} {u : Option Int} (h : updM M x u k = some v) : (k = x ∧ u = some v) ∨ (k ≠ x ∧ M k = some v) := by
  unfold updM at h
  split at h
  · rename_i e; exact .inl ⟨e, h⟩
  · rename_i e; exact .inr ⟨e, h⟩
theorem SInv.begin {N : Nat} {s : TS} (h : SInv N s) : SInv N (begS s) := by
  have hl := h.lt
  refine ⟨h.n1, h.fst, ?_, by show (N : Int) < s.next + 1; omega, h.cmk, h.ddk, h.gnk⟩
  show updM s.op s.next _ N = _
  unfold updM
  rw [if_neg (by omega)]
  exact h.me
theorem SInv.commit {N : Nat} {s : TS} (h : SInv N s) (h0 : 0 ≤ s.last) {tx : Int} (ht : (N : Int) < tx) : SInv N (comS s tx) := by
  refine ⟨h.n1, h.fst, ?_, h.lt, fun k v e => ?_, h.ddk, h.gnk⟩
  · show updM s.op tx none N = _
    unfold updM
    rw [if_neg (by omega)]
    exact h.me
  · rcases updM_some (show updM s.cm tx _ k = some v from e) with ⟨e1, e2⟩ | ⟨_, e2⟩
    · injection e2 with e2
      omega
    · exact h.cmk k v e2
theorem SInv.abort {N : Nat} {s : TS} (h : SInv N s) {tx : Int} (ht : (N : Int) < tx) : SInv N (aboS s tx) := by
  refine ⟨h.n1, h.fst, ?_, h.lt, h.cmk, h.ddk, fun k v e => ?_⟩
  · show updM s.op tx none N = _
    unfold updM
    rw [if_neg (by omega)]
    exact h.me
  · rcases updM_some (show updM s.gn tx _ k = some v from e) with ⟨e1, _⟩ | ⟨_, e2⟩
    · omega
    · exact h.gnk k v e2
theorem SInv.kill {N : Nat} {s : TS} (h : SInv N s) {tx : Int} (ht : (N : Int) < tx) : SInv N (kilS s tx) := by
  refine ⟨h.n1, h.fst, ?_, h.lt, h.cmk, fun k v e => ?_, h.gnk⟩
  · show updM s.op tx none N = _
    unfold updM
    rw [if_neg (by omega)]
    exact h.me
  · rcases updM_some (show updM s.dd tx _ k = some v from e) with ⟨e1, _⟩ | ⟨_, e2⟩
    · omega
    · exact h.ddk k v e2
/-- What stands in SnapshotStays' rounds. -/
structure ST (w0 : World) (N g bo bc bd bg : Nat) (vS : Value) (k : Nat) (s : TS) (w : World) : Prop where
  tab : TableAt w g bo bc bd bg s
  inv : SInv N s
  sees : OwnI w w0.heap.size vS (upto N)
  sc : s.sc ≤ k
  sg : s.sg ≤ k
  nx : s.next ≤ (N : Int) + 1 + k
  low : Below w0.heap.size w0 w
  own : ∀ j, FT g bo bc bd bg j → w0.heap.size ≤ j
section
variable {w0 w : World} {N g bo bc bd bg k : Nat} {vS : Value} {s : TS}
theorem ST.more (h : ST w0 N g bo bc bd bg vS k s w) : ST w0 N g bo bc bd bg vS (k + 1) s w := ⟨h.tab, h.inv, h.sees, Nat.le_succ_of_le h.sc, Nat.le_succ_of_le h.sg, by have := h.nx; omega, h.low, h.own⟩
theorem ST.below {w1 : World} (h : ST w0 N g bo bc bd bg vS k s w) (hb : Below w.heap.size w w1) : ST w0 N g bo bc bd bg vS k s w1 := ⟨h.tab.below hb, h.inv, h.sees.below hb, h.sc, h.sg, h.nx, bthen h.low hb, h.own⟩
theorem ST.next {w1 : World} {s1 : TS} {k1 : Nat} {S : Nat → Prop} (h : ST w0 N g bo bc bd bg vS k s w) (ht : TableAt w1 g bo bc bd bg s1) (hi : SInv N s1) (hT : Tch S w w1) (hS : ∀ j, S j → FT g bo bc bd bg j) (h1 : s1.sc ≤ k1) (h2 : s1.sg ≤ k1) (h3 : s1.next ≤ (N : Int) + 1 + k1) : ST w0 N g bo bc bd bg vS k1 s1 w1 :=
  ⟨ht, hi, h.sees.kept hT (fun j hj hs => ft_rows h.tab h.sees j hj (hS j hs)), h1, h2, h3, h.low.trans (hT.toBelow h.low.size (fun j hs => h.own j (hS j hs))), h.own⟩
theorem ST.lowlt (h : ST w0 N g bo bc bd bg vS k s w) : w0.heap.size < w.heap.size + 1 := by have := h.low.size; omega
/-- Another row of ints is written. -/
theorem ST.row {w1 : World} {B : Nat} {v : Value} {xs : List Int} (h : ST w0 N g bo bc bd bg vS k s w) (ht : Tch (fun b => v.ownBlock = some b) w w1) (ho : OwnI w B v xs) (hB : w0.heap.size ≤ B) (hne : ∀ b, vS.ownBlock = some b → v.ownBlock ≠ some b) : ST w0 N g bo bc bd bg vS k s w1 :=
  ⟨h.tab.kept ht (fun j hf e => ft_rows h.tab ho j e hf), h.inv, h.sees.kept ht (fun j hj e => hne j hj e), h.sc, h.sg, h.nx, h.low.trans (ht.toBelow h.low.size (fun j hj => Nat.le_trans hB (World.ownsRow.lt ho j hj).1)), h.own⟩
theorem ite_le {p : Prop} [Decidable p] {a k : Nat} (h : a ≤ k) : (if p then a else a + 1) ≤ k + 1 := by split <;> omega
theorem st_begin (h : ST w0 N g bo bc bd bg vS k s w) (hk : k ≤ 100) (hN : N ≤ 100) : Calls Try.prog 18 #[.pointer (some ⟨g, 0, none⟩)] w fun e w' => (∃ n r, e = .returned (.tuple #[.int .i64 n, .int .i64 r])) ∧ ∃ s', ST w0 N g bo bc bd bg vS (k + 1) s' w' := by
  have hnx := h.nx
  have h16 := h.tab.ok.so16
  by_cases hs : s.so < 16
  · refine (begin_ok h.tab hs (by omega)).mono ?_
    rintro e w' ⟨rfl, ht, hT⟩
    exact ⟨⟨_, _, rfl⟩, _, h.next ht h.inv.begin hT (fun j hj => hj.elim .inl (fun e => .inr (.inl e))) (Nat.le_succ_of_le h.sc) (Nat.le_succ_of_le h.sg) (by show s.next + 1 ≤ (N : Int) + 1 + ((k + 1 : Nat) : Int); omega)⟩
  · refine (begin_full h.tab (by omega)).mono ?_
    rintro e w' ⟨rfl, rfl⟩
    exact ⟨⟨_, _, rfl⟩, _, h.more⟩
theorem st_commit (h : ST w0 N g bo bc bd bg vS k s w) (hk : k ≤ 100) (tx : Int) (ht : (N : Int) < tx) (hx : wf64 tx) : Calls Try.prog 19 #[.pointer (some ⟨g, 0, none⟩), .int .i64 tx] w fun e w' => (∃ r, e = .returned (.int .i64 r)) ∧ ∃ s', ST w0 N g bo bc bd bg vS (k + 1) s' w' := by
  have h1 := h.sc
  have h2 := h.sg
  have h3 := h.nx
  cases ho : s.op tx with
  | none =>
    refine (commit_bad h.tab tx hx ho).mono ?_
    rintro e w' ⟨rfl, rfl⟩
    exact ⟨⟨_, rfl⟩, _, h.more⟩
  | some p =>
    refine (commit_ok h.tab tx p hx ho (by omega)).mono ?_
    rintro e w' ⟨rfl, hT, hb⟩
    exact ⟨⟨_, rfl⟩, _, h.next hT (h.inv.commit h.tab.ok.l0 ht) hb (fun j hj => hj.elim .inl (fun e => e.elim (fun e => .inr (.inl e)) (fun e => .inr (.inr (.inl e))))) (ite_le h1) (Nat.le_succ_of_le h2) (by show s.next ≤ (N : Int) + 1 + ((k + 1 : Nat) : Int); omega)⟩
theorem st_abort (h : ST w0 N g bo bc bd bg vS k s w) (hk : k ≤ 100) (tx : Int) (ht : (N : Int) < tx) (hx : wf64 tx) : Calls Try.prog 20 #[.pointer (some ⟨g, 0, none⟩), .int .i64 tx] w fun e w' => (∃ r, e = .returned (.int .i64 r)) ∧ ∃ s', ST w0 N g bo bc bd bg vS (k + 1) s' w' := by
  have h1 := h.sc
  have h2 := h.sg
  have h3 := h.nx
  cases ho : s.op tx with
  | none =>
    refine (abort_bad h.tab tx hx ho).mono ?_
    rintro e w' ⟨rfl, rfl⟩
    exact ⟨⟨_, rfl⟩, _, h.more⟩
  | some p =>
    refine (abort_ok h.tab tx p hx ho (by omega)).mono ?_
    rintro e w' ⟨rfl, hT, hb⟩
    exact ⟨⟨_, rfl⟩, _, h.next hT (h.inv.abort ht) hb (fun j hj => hj.elim .inl (fun e => e.elim (fun e => .inr (.inl e)) (fun e => .inr (.inr (.inr (.inr e)))))) (Nat.le_succ_of_le h1) (ite_le h2) (by show s.next ≤ (N : Int) + 1 + ((k + 1 : Nat) : Int); omega)⟩
theorem st_kill (h : ST w0 N g bo bc bd bg vS k s w) (hk : k ≤ 100) (tx : Int) (ht : (N : Int) < tx) (hx : wf64 tx) : Calls Try.prog 21 #[.pointer (some ⟨g, 0, none⟩), .int .i64 tx] w fun e w' => (∃ r, e = .returned (.int .i64 r)) ∧ ∃ s', ST w0 N g bo bc bd bg vS (k + 1) s' w' := by
  have h1 := h.sc
  have h2 := h.sg
  have h3 := h.nx
  have h4 := h.tab.ok.sd64
  cases ho : s.op tx with
  | none =>
    refine (kill_bad h.tab tx hx ho).mono ?_
    rintro e w' ⟨rfl, rfl⟩
    exact ⟨⟨_, rfl⟩, _, h.more⟩
  | some p =>
    by_cases h64 : s.sd < 64
    · refine (kill_ok h.tab tx p hx ho h64).mono ?_
      rintro e w' ⟨rfl, hT, hb⟩
      exact ⟨⟨_, rfl⟩, _, h.next hT (h.inv.kill ht) hb (fun j hj => hj.elim .inl (fun e => e.elim (fun e => .inr (.inl e)) (fun e => .inr (.inr (.inr (.inl e)))))) (Nat.le_succ_of_le h1) (Nat.le_succ_of_le h2) (by show s.next ≤ (N : Int) + 1 + ((k + 1 : Nat) : Int); omega)⟩
    · refine (kill_full h.tab tx p hx ho (by omega)).mono ?_
      rintro e w' ⟨rfl, rfl⟩
      exact ⟨⟨_, rfl⟩, _, h.more⟩
end
end Go.Proofs.Ytlfplcidgccgdaa.Y
