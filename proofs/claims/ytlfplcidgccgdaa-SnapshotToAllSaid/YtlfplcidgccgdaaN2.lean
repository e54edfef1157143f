/-
  package snapshot: what a table is; its small functions.
-/
import Derived.Test.YtlfplcidgccgdaaN1
import Derived.WalkSpells
import Derived.StillTail
set_option linter.unusedVariables false
set_option linter.unusedSimpArgs false
namespace Go.Proofs.Ytlfplcidgccgdaa.Y
open Go.RowKit Go.Maps
attribute [local go_sem ↓] Go.wp_at_zero Go.wp_at_succ

section
variable {P : Program} {ops : Array Oper} {rest : List Oper} {o : Oper} {a : Act} {Q : Exit → Act → World → Prop} {w : World}
theorem wpList_del_MI (hg : o.guard = none) (m x : Operand) (hop : o.op = Op.call { callee := Callee.builtin Builtin.delete, args := #[m, x], argTypes := #[100, 3] })
    (b : Nat) (hm : a.eval m = .map (some b)) {M : Int → Option Int} {sz : Nat} (h : MI w b M sz) (k : Int) (hx : a.eval x = .int .i64 k) (hk : wf64 k)
    (hK : ∀ w', MI w' b (updM M k none) (if (M k).isSome then sz - 1 else sz) → Tch (fun j => j = b) w w' → wpList Try.prog ops Q rest (a.put o.dst (.tuple #[])) w') : wpList Try.prog ops Q (o :: rest) a w := by
  refine wpList_plain hg fun K' hK' => ?_
  obtain ⟨w', hrun, r1, r2⟩ := h.del hk o.type
  unfold Oper.wp
  simp [execOp, hop, resolve, invoke, builtin, hm, hx, hrun, Result.andThen]
  exact hK' _ _ (hK w' r1 r2)
theorem wpList_put_MI (hg : o.guard = none) (m x v : Operand) (hop : o.op = Op.mapUpdate 100 m x v)
    (b : Nat) (hm : a.eval m = .map (some b)) {M : Int → Option Int} {sz : Nat} (h : MI w b M sz) (k u : Int) (hx : a.eval x = .int .i64 k) (hv : a.eval v = .int .i64 u) (hk : wf64 k) (hu : wf64 u) (hs : sz < maxLen)
    (hK : ∀ w', MI w' b (updM M k (some u)) (if (M k).isSome then sz else sz + 1) → Tch (fun j => j = b) w w' → wpList Try.prog ops Q rest (a.put o.dst undef) w') : wpList Try.prog ops Q (o :: rest) a w := by
  refine wpList_plain hg fun K' hK' => ?_
  obtain ⟨w', hrun, r1, r2⟩ := h.put hk hu hs
  unfold Oper.wp
  simp [execOp, hop, hm, hx, hv, hrun, Result.andThen]
  exact hK' _ _ (hK w' r1 r2)
end
theorem add_one_any {w : World} {g j : Nat} {t : TypeId} {cs : List Value} (h : Ob w g t cs) {n : Int} (hj : cs[j]? = some (.int .i64 n)) (h0 : -9223372036854775808 ≤ n) (h1 : n < 9223372036854775807) :
    Calls Try.prog 68 #[.pointer (some ⟨g, j, none⟩), .int .i64 1] w fun e w' => e = .returned (.int .i64 (n + 1)) ∧ w' = w.setCell ⟨g, j, none⟩ (.int .i64 (n + 1)) := by
  have hs : (Op.intArith .add .i64 n 1).run Try.prog w = .ok (.int .i64 (n + 1)) w := by
    have e : IntKind.i64.wrap (n + 1) = n + 1 := by rw [IntKind.wrap_i64]; omega
    simp [Op.intArith, e]
  have hl := run_call_add (P := Try.prog) Try.func109 (by kernel_rfl) (by kernel_rfl) (by kernel_rfl) .i64 (by kernel_rfl) (h.cell hj) (h.frozen j) hs
  clear h hj hs
  go_enter Try.func68, Try.ntmps68
  go_wp2
  go_ret
  exact ⟨rfl, rfl⟩
/-- A table's state. -/
structure TS where
  next : Int
  first : Int
  last : Int
  op : Int → Option Int
  cm : Int → Option Int
  dd : Int → Option Int
  gn : Int → Option Int
  so : Nat
  sc : Nat
  sd : Nat
  sg : Nat
def tCells (bo bc bd bg : Nat) (s : TS) : List Value := [.int .i64 s.next, .int .i64 s.first, .map (some bo), .map (some bc), .map (some bd), .map (some bg), .int .i64 s.last]
/-- What holds of every table's state. -/
structure TOk (s : TS) : Prop where
  f1 : 1 ≤ s.first
  fn : s.first ≤ s.next
  nm : s.next ≤ 4611686018427387904
  l0 : 0 ≤ s.last
  room : s.last + s.so ≤ s.next - s.first
  opk : ∀ k p, s.op k = some p → s.first ≤ k ∧ k < s.next ∧ 0 ≤ p ∧ p ≤ s.last
  so16 : s.so ≤ 16
  sd64 : s.sd ≤ 64
/-- A table: its object is block g, its maps the blocks bo, bc, bd, bg. -/
structure TableAt (w : World) (g bo bc bd bg : Nat) (s : TS) : Prop where
  obj : Ob w g 102 (tCells bo bc bd bg s)
  mo : MI w bo s.op s.so
  mc : MI w bc s.cm s.sc
  md : MI w bd s.dd s.sd
  mg : MI w bg s.gn s.sg
  oc : bo ≠ bc
  od : bo ≠ bd
  og : bo ≠ bg
  cd : bc ≠ bd
  cg : bc ≠ bg
  dg : bd ≠ bg
  ok : TOk s
def FT (g bo bc bd bg : Nat) (k : Nat) : Prop := k = g ∨ k = bo ∨ k = bc ∨ k = bd ∨ k = bg
section
variable {w : World} {g bo bc bd bg : Nat} {s : TS}
theorem TableAt.kept {w1 : World} {S : Nat → Prop} (h : TableAt w g bo bc bd bg s) (ht : Tch S w w1) (hs : ∀ k, FT g bo bc bd bg k → ¬ S k) : TableAt w1 g bo bc bd bg s :=
  ⟨ht.ob h.obj (hs _ (.inl rfl)), h.mo.kept (ht.block _ h.mo.lt (hs _ (.inr (.inl rfl)))), h.mc.kept (ht.block _ h.mc.lt (hs _ (.inr (.inr (.inl rfl))))), h.md.kept (ht.block _ h.md.lt (hs _ (.inr (.inr (.inr (.inl rfl)))))), h.mg.kept (ht.block _ h.mg.lt (hs _ (.inr (.inr (.inr (.inr rfl)))))), h.oc, h.od, h.og, h.cd, h.cg, h.dg, h.ok⟩
theorem TableAt.below {w1 : World} (h : TableAt w g bo bc bd bg s) (hb : Below w.heap.size w w1) : TableAt w1 g bo bc bd bg s := h.kept (Tch.below (S := fun _ => False) hb) (fun _ _ q => q)
theorem map_ob {w : World} {b g : Nat} {t : TypeId} {cs : List Value} {M : Int → Option Int} {sz : Nat} (h : MI w b M sz) (ho : Ob w g t cs) : b ≠ g := by
  intro e
  subst e
  obtain ⟨es, c, hm⟩ := h.isMap
  have ho' : w.heap[b]? = _ := ho
  rw [hm] at ho'
  cases ho'
theorem TableAt.c0 (h : TableAt w g bo bc bd bg s) : w.cell? ⟨g, 0, none⟩ = some (.int .i64 s.next) := h.obj.cell rfl
theorem TableAt.c1 (h : TableAt w g bo bc bd bg s) : w.cell? ⟨g, 1, none⟩ = some (.int .i64 s.first) := h.obj.cell rfl
theorem TableAt.c2 (h : TableAt w g bo bc bd bg s) : w.cell? ⟨g, 2, none⟩ = some (.map (some bo)) := h.obj.cell rfl
theorem TableAt.c3 (h : TableAt w g bo bc bd bg s) : w.cell? ⟨g, 3, none⟩ = some (.map (some bc)) := h.obj.cell rfl
theorem TableAt.c4 (h : TableAt w g bo bc bd bg s) : w.cell? ⟨g, 4, none⟩ = some (.map (some bd)) := h.obj.cell rfl
theorem TableAt.c5 (h : TableAt w g bo bc bd bg s) : w.cell? ⟨g, 5, none⟩ = some (.map (some bg)) := h.obj.cell rfl
theorem TableAt.c6 (h : TableAt w g bo bc bd bg s) : w.cell? ⟨g, 6, none⟩ = some (.int .i64 s.last) := h.obj.cell rfl
theorem tnone_any (h : TableAt w g bo bc bd bg s) : Calls Try.prog 66 #[.pointer (some ⟨g, 0, none⟩)] w fun e w' => e = .returned (.bool false) ∧ w = w' := by
  have q : ∀ (w : World) (r : Option Nat), (binOp .eql 100 (.map r) (.map none)).run Try.prog w = .ok (.bool r.isNone) w := fun w r => run_eql_map_nil w _ _ _ r Try.underlying100
  have c := h.c2
  clear h
  go_enter Try.func66, Try.ntmps66
  go_wp2
  go_ret
  exact ⟨rfl, rfl⟩
theorem next_any (h : TableAt w g bo bc bd bg s) : Calls Try.prog 17 #[.pointer (some ⟨g, 0, none⟩)] w fun e w' => e = .returned (.int .i64 s.next) ∧ w = w' := by
  have H := Lib.hid h
  clear h
  go_enter Try.func17, Try.ntmps17
  go_wp2_with fail
  refine (tnone_any H.out).mono ?_
  rintro e w' ⟨rfl, rfl⟩
  go_wp2_with fail
  refine (load_any (j := 0) H.out.obj rfl).mono ?_
  rintro e w' ⟨rfl, rfl⟩
  go_wp2_with fail
  go_ret
  exact ⟨rfl, rfl⟩
theorem isOpen_any (h : TableAt w g bo bc bd bg s) (tx : Int) (hx : wf64 tx) : Calls Try.prog 24 #[.pointer (some ⟨g, 0, none⟩), .int .i64 tx] w fun e w' => e = .returned (.bool (s.op tx).isSome) ∧ w = w' := by
  have H := Lib.hid h
  have c := h.c2
  have l := h.mo.look2 hx
  clear h hx
  go_enter Try.func24, Try.ntmps24
  go_wp2_with fail
  refine (tnone_any H.out).mono ?_
  rintro e w' ⟨rfl, rfl⟩
  go_wp2_with fail
  go_ret
  exact ⟨rfl, rfl⟩
def wrongT (s : TS) (tx : Int) : Int := if (s.op tx).isSome then 0 else 9
theorem twrong_any (h : TableAt w g bo bc bd bg s) (tx : Int) (hx : wf64 tx) : Calls Try.prog 69 #[.pointer (some ⟨g, 0, none⟩), .int .i64 tx] w fun e w' => e = .returned (.int .i64 (wrongT s tx)) ∧ w = w' := by
  have H := Lib.hid h
  clear h
  unfold wrongT
  have K := Lib.hid (isOpen_any H.out tx hx)
  cases ho : (s.op tx).isSome with
  | true =>
    rw [ho] at K
    clear ho hx
    go_enter Try.func69, Try.ntmps69
    go_wp2_with fail
    refine (tnone_any H.out).mono ?_
    rintro e w' ⟨rfl, rfl⟩
    go_wp2_with fail
    refine K.out.mono ?_
    rintro e w' ⟨rfl, rfl⟩
    go_wp2_with fail
    go_ret
    exact ⟨rfl, rfl⟩
  | false =>
    rw [ho] at K
    clear ho hx
    go_enter Try.func69, Try.ntmps69
    go_wp2_with fail
    refine (tnone_any H.out).mono ?_
    rintro e w' ⟨rfl, rfl⟩
    go_wp2_with fail
    refine K.out.mono ?_
    rintro e w' ⟨rfl, rfl⟩
    go_wp2_with fail
    go_ret
    exact ⟨rfl, rfl⟩
def begS (s : TS) : TS := { s with next := s.next + 1, op := updM s.op s.next (some s.last), so := s.so + 1 }
set_option maxHeartbeats 1600000 in
set_option maxRecDepth 100000 in
theorem begin_ok (h : TableAt w g bo bc bd bg s) (h16 : s.so < 16) (hn : s.next < 4611686018427387904) : Calls Try.prog 18 #[.pointer (some ⟨g, 0, none⟩)] w fun e w' => e = .returned (.tuple #[.int .i64 s.next, .int .i64 0]) ∧ TableAt w' g bo bc bd bg (begS s) ∧ Tch (fun k => k = g ∨ k = bo) w w' := by
  have H := Lib.hid h
  have c := h.c2
  have l := h.mo.len 3
  obtain ⟨nx, hnx⟩ : ∃ nx, nx = s.next := ⟨_, rfl⟩
  obtain ⟨n, hn'⟩ : ∃ n, n = s.so := ⟨_, rfl⟩
  have ok := h.ok
  have hno : s.op nx = none := by
    cases e : s.op nx with
    | none => rfl
    | some p => have := (ok.opk nx p e).2.1; omega
  have b1 := ok.f1
  have b2 := ok.fn
  have b3 := ok.nm
  have b4 := ok.l0
  have b5 := ok.room
  have HN := Lib.hid hnx
  have HNO := Lib.hid hno
  have HSO := Lib.hid hn'
  rw [← hn'] at l h16
  rw [← hnx] at hn b2 ⊢
  have z1 : ((nx : Int) == 4611686018427387904) = false := by rw [beq_eq_false_iff_ne]; omega
  have z2 : decide ((16 : Int) ≤ (n : Int)) = false := decide_eq_false (by omega)
  have WN : Hid (wf64 nx) := ⟨by omega, by omega⟩
  have WL : Hid (wf64 s.last) := ⟨by omega, by omega⟩
  have z3 : IntKind.i64.wrap (nx + 1 - 1) = nx := by rw [IntKind.wrap_i64]; omega
  have z4 : nx + 1 - 1 = nx := by omega
  clear h ok hno hnx hn' b5 b3
  go_enter Try.func18, Try.ntmps18
  go_wp2_with fail
  refine (tnone_any H.out).mono ?_
  rintro e w' ⟨rfl, rfl⟩
  go_wp2_with fail
  refine (next_any H.out).mono ?_
  rintro e w' ⟨rfl, rfl⟩
  rw [← HN.out]
  go_wp2_with fail
  refine (add_one_any (j := 0) H.out.obj (n := nx) (by rw [HN.out]; rfl) (by omega) (by omega)).mono ?_
  rintro e w1 ⟨rfl, rfl⟩
  have O1 := Lib.hid (H.out.obj.set 0 (.int .i64 (nx + 1)))
  have T1 : Hid (Tch (fun k => k = g) w (w.setCell ⟨g, 0, none⟩ (.int .i64 (nx + 1)))) := (Tch.refl _ _).grown (set_grown _ _ _ _) (fun j e => .inl (by injection e with e; exact e.symm))
  have H1 : Hid (TableAt (w.setCell ⟨g, 0, none⟩ (.int .i64 (nx + 1))) g bo bc bd bg { s with next := nx + 1 }) := by
    refine ⟨O1.out, H.out.mo.kept (T1.out.block _ H.out.mo.lt (map_ob H.out.mo H.out.obj)), H.out.mc.kept (T1.out.block _ H.out.mc.lt (map_ob H.out.mc H.out.obj)), H.out.md.kept (T1.out.block _ H.out.md.lt (map_ob H.out.md H.out.obj)), H.out.mg.kept (T1.out.block _ H.out.mg.lt (map_ob H.out.mg H.out.obj)), H.out.oc, H.out.od, H.out.og, H.out.cd, H.out.cg, H.out.dg, ?_⟩
    have ok := H.out.ok
    have hn2 := HN.out
    exact ⟨ok.f1, by dsimp only; omega, by dsimp only; omega, ok.l0, by have := ok.room; dsimp only; omega, fun k p e => by have := ok.opk k p e; dsimp only; omega, ok.so16, ok.sd64⟩
  generalize w.setCell ⟨g, 0, none⟩ (.int .i64 (nx + 1)) = w1 at *
  have k2 := H1.out.c2
  have k6 := H1.out.c6
  go_upto_region 6 with (fail)
  refine region_popN 9 (S := (fun w' : World => w'.cell? ⟨g, 2, none⟩ = some (.map (some bo)) ∧ w'.cell? ⟨g, 6, none⟩ = some (.int .i64 s.last))) (by simp only [List.take_succ_cons, List.take_zero]; rfl) (by simp only [List.drop_succ_cons, List.drop_zero]; rfl) (by kernel_rfl) (by kernel_rfl) rfl (by kernel_rfl) (by kernel_rfl) (⟨k2, k6⟩) (fun hHeld => ?_)
  refine take_op (i := 0) 25 (v := ?_) rfl rfl (by kernel_rfl) (by kernel_rfl) (by kernel_rfl) (fun _ _ _ h => h) (Or.inl ⟨by rfl, ?_⟩) (by assumption) ?_
  rotate_left
  · (intro w hSw; (try dsimp only at hSw); first | (go_simp; done) | (go_simp; with_reducible rfl))
  try simp only [Act.put, List.setIfInBounds_toArray, List.set_cons_zero, List.set_cons_succ]
  refine take_op (i := 1) 26 (v := ?_) rfl rfl (by kernel_rfl) (by kernel_rfl) (by kernel_rfl) (fun _ _ _ h => h) (Or.inl ⟨by rfl, ?_⟩) (by assumption) ?_
  rotate_left
  · (intro w hSw; (try dsimp only at hSw); first | (go_simp; done) | (go_simp; with_reducible rfl))
  try simp only [Act.put, List.setIfInBounds_toArray, List.set_cons_zero, List.set_cons_succ]
  refine take_op (i := 2) 27 (v := ?_) rfl rfl (by kernel_rfl) (by kernel_rfl) (by kernel_rfl) (fun _ _ _ h => h) (Or.inl ⟨by rfl, ?_⟩) (by assumption) ?_
  rotate_left
  · (intro w hSw; (try dsimp only at hSw); first | (go_simp; done) | (go_simp; with_reducible rfl))
  try simp only [Act.put, List.setIfInBounds_toArray, List.set_cons_zero, List.set_cons_succ]
  refine take_op (i := 3) 28 (v := ?_) rfl rfl (by kernel_rfl) (by kernel_rfl) (by kernel_rfl) (fun _ _ _ h => h) (Or.inl ⟨by rfl, ?_⟩) (by assumption) ?_
  rotate_left
  · (intro w hSw; (try dsimp only at hSw); first | (go_simp; done) | (go_simp; with_reducible rfl))
  try simp only [Act.put, List.setIfInBounds_toArray, List.set_cons_zero, List.set_cons_succ]
  refine take_op (i := 4) 29 (v := ?_) rfl rfl (by kernel_rfl) (by kernel_rfl) (by kernel_rfl) (fun _ _ _ h => h) (Or.inl ⟨by rfl, ?_⟩) (by assumption) ?_
  rotate_left
  · (intro w hSw; (try dsimp only at hSw); first | (go_simp; done) | (go_simp; with_reducible rfl))
  try simp only [Act.put, List.setIfInBounds_toArray, List.set_cons_zero, List.set_cons_succ]
  refine take_op (i := 5) 30 (v := ?_) rfl rfl (by kernel_rfl) (by kernel_rfl) (by kernel_rfl) (fun _ _ _ h => h) (Or.inl ⟨by rfl, ?_⟩) (by assumption) ?_
  rotate_left
  · (intro w hSw; (try dsimp only at hSw); first | (go_simp; done) | (go_simp; with_reducible rfl))
  try simp only [Act.put, List.setIfInBounds_toArray, List.set_cons_zero, List.set_cons_succ]
  refine take_op (i := 6) 31 (v := ?_) rfl rfl (by kernel_rfl) (by kernel_rfl) (by kernel_rfl) (fun _ _ _ h => h) (Or.inl ⟨by rfl, ?_⟩) (by assumption) ?_
  rotate_left
  · (intro w hSw; (try dsimp only at hSw); first | (go_simp; done) | (go_simp; with_reducible rfl))
  try simp only [Act.put, List.setIfInBounds_toArray, List.set_cons_zero, List.set_cons_succ]
  refine take_op (i := 7) 32 (v := ?_) rfl rfl (by kernel_rfl) (by kernel_rfl) (by kernel_rfl) (fun _ _ _ h => h) (Or.inl ⟨by rfl, ?_⟩) (by assumption) ?_
  rotate_left
  · (intro w hSw; (try dsimp only at hSw); first | (go_simp; done) | (go_simp; with_reducible rfl))
  try simp only [Act.put, List.setIfInBounds_toArray, List.set_cons_zero, List.set_cons_succ]
  refine take_op (i := 8) 33 (v := ?_) rfl rfl (by kernel_rfl) (by kernel_rfl) (by kernel_rfl) (fun _ _ _ h => h) (Or.inl ⟨by rfl, ?_⟩) (by assumption) ?_
  rotate_left
  · (intro w hSw; (try dsimp only at hSw); first | (go_simp; done) | (go_simp; with_reducible rfl))
  try simp only [Act.put, List.setIfInBounds_toArray, List.set_cons_zero, List.set_cons_succ]
  refine wpAnyH_done (by kernel_rfl) ?_ _
  show wpList _ _ _ _ _ _
  refine wpList_put_MI rfl (.tmp 28) (.tmp 29) (.tmp 33) rfl bo rfl (H1.out.below (bdrew (Below.refl _ _))).mo nx s.last rfl rfl WN.out WL.out (by rw [← HSO.out]; simp only [maxLen]; omega) ?_
  intro w2 hm2 ht2
  rw [HNO.out] at hm2
  have M2 : Hid (MI w2 bo (updM s.op nx (some s.last)) (s.so + 1)) := hm2
  have T2 := Lib.hid ht2
  clear hm2 ht2
  go_wp2_with fail
  go_ret2
  have TT : Tch (fun k => k = bo) w1 w2 := (Tch.below (S := fun k => k = bo) (bdrew (Below.refl _ _))).trans T2.out
  have hne := map_ob H1.out.mo H1.out.obj
  have hso := HSO.out
  have hno := HNO.out
  obtain rfl := HN.out
  refine ⟨rfl, ⟨TT.ob H1.out.obj (fun e => hne e.symm), M2.out, H1.out.mc.kept (TT.block _ H1.out.mc.lt (fun e => H.out.oc e.symm)), H1.out.md.kept (TT.block _ H1.out.md.lt (fun e => H.out.od e.symm)), H1.out.mg.kept (TT.block _ H1.out.mg.lt (fun e => H.out.og e.symm)), H.out.oc, H.out.od, H.out.og, H.out.cd, H.out.cg, H.out.dg, ?_⟩, (T1.out.mono (fun k _ e => .inl e)).trans (TT.mono (fun k _ e => .inr e))⟩
  have ok := H.out.ok
  refine ⟨ok.f1, by have := ok.fn; show s.first ≤ s.next + 1; omega, by show s.next + 1 ≤ 4611686018427387904; omega, ok.l0, by have := ok.room; show s.last + ((s.so + 1 : Nat) : Int) ≤ s.next + 1 - s.first; omega, fun k p e => ?_, by show s.so + 1 ≤ 16; omega, ok.sd64⟩
  have e' : updM s.op s.next (some s.last) k = some p := e
  unfold updM at e'
  show s.first ≤ k ∧ k < s.next + 1 ∧ 0 ≤ p ∧ p ≤ s.last
  split at e'
  · rename_i q
    injection e' with e'
    have := ok.fn
    have := ok.l0
    omega
  · have := ok.opk k p e'
    omega
end
end Go.Proofs.Ytlfplcidgccgdaa.Y
