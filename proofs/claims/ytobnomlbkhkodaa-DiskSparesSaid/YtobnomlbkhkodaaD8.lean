/-
  package disk: Copy.
-/
import Derived.Test.YtobnomlbkhkodaaD7
set_option linter.unusedVariables false
set_option linter.unusedSimpArgs false
namespace Go.Proofs.Ytobnomlbkhkodaa.Y
open Go.RowKit
attribute [local go_sem ↓] Go.wp_at_zero Go.wp_at_succ

section
variable {P : Program} {ops : Array Oper} {rest : List Oper} {o : Oper} {a : Act} {Q : Exit → Act → World → Prop} {w : World}
theorem wpList_append_rows (hgd : Region.wanted o (yielded ops a.tmps) = true) (s x : Operand) (t e : TypeId)
    (ho : o.op = .call { callee := .builtin .append, args := #[s, x], argTypes := #[t, t] })
    (base : Nat) {z : Value} {size bytes : Nat} (ht : P.underlying t = some (.slice e)) (hinfo : (P.info? e).map (fun i => (i.zero, i.size, i.bytes)) = some (some z, size, bytes)) (hzs : z.cells.size = size) (hsz : 0 < size)
    (v : Value) (n : Nat) (xs ys : List Value) (hs : a.eval s = v) (hown : w.ownsRow base e size v n xs) (A : Option Addr) (m c : Nat) (hx : a.eval x = .slice A m c) (hm : ys.length = m * size)
    (hA : ys = [] ∨ ∃ a, A = some a ∧ ∀ j u, ys[j]? = some u → w.cell? (a.add j) = some u) (h1 : ∀ u ∈ ys, u.oneCell' = true) (h63 : n + m ≤ maxLen) (hbytes : ((n + m) + (n + m + 768) / 4 + 256) * bytes ≤ 281474976710656) (hbase : base ≤ w.heap.size)
    (h : ∀ v' w', w'.ownsRow base e size v' (n + m) (xs ++ ys) → w.grownBy w' v.ownBlock → wpList P ops Q rest (a.put o.dst v') w') :
    wpList P ops Q (o :: rest) a w := by
  obtain ⟨i0, hi, hzz⟩ := Option.map_eq_some_iff.1 hinfo
  simp only [Prod.mk.injEq] at hzz
  obtain ⟨hz0, hz1, hz2⟩ := hzz
  refine wpList_step fun K hK => ?_
  rw [if_pos hgd]
  obtain ⟨v', w', hr, h2, h3, h4, h5⟩ := append_run (P := P) (w := w) base t o.type e i0 z size bytes ht hi hz0 hz1 hz2 hzs hsz v n xs hown A m c ys hm hA h1 h63 hbytes hbase
  unfold Oper.wp execOp
  simp only [ho, resolve, invoke, builtin, Sem.run_bind, Sem.run_pure, Result.andThen_ok, List.map_toArray, List.map_cons, List.map_nil, hs, hx, hr]
  exact hK _ _ (h v' w' h2 h3)
end
theorem own_none {w : World} {e : TypeId} {size : Nat} : (w.alloc (.cells #[] e)).ownsRow w.heap.size e size (.slice (some ⟨w.heap.size, 0, none⟩) 0 0) 0 [] :=
  ⟨by simp, .inr ⟨w.heap.size, 0, #[], rfl, Nat.le_refl _, heap_alloc_new w _, Nat.le_refl _, Nat.zero_le _, by simp, by simp⟩⟩
/-- Cells that stand at an address. -/
def RdV (w : World) (A : Option Addr) (ys : List Value) : Prop := ys = [] ∨ ∃ b, A = some ⟨b, 0, none⟩ ∧ ∀ j u, ys[j]? = some u → w.cell? ⟨b, j, none⟩ = some u
theorem RdV.below {w w1 : World} {A : Option Addr} {ys : List Value} (h : RdV w A ys) (hb : Below w.heap.size w w1) : RdV w1 A ys := by
  rcases h with h | ⟨b, e, hc⟩
  · exact .inl h
  · exact .inr ⟨b, e, fun j u hu => (hb.cell (World.block_lt_of_cell? w _ (hc j u hu))).trans (hc j u hu)⟩
theorem RdV.form {w : World} {A : Option Addr} {ys : List Value} (h : RdV w A ys) : ys = [] ∨ ∃ a, A = some a ∧ ∀ j u, ys[j]? = some u → w.cell? (a.add j) = some u := by
  rcases h with h | ⟨b, e, hc⟩
  · exact .inl h
  · exact .inr ⟨_, e, fun j u hu => by rw [add_plain, Nat.zero_add]; exact hc j u hu⟩
theorem clone_b {w : World} {A : Option Addr} {n : Nat} {ys : List Value} (hl : ys.length = n * 1) (c : Nat) (hA : RdV w A ys) (h1 : ∀ u ∈ ys, u.oneCell' = true) (hn : n ≤ 1000000) (h0 : A = none → n = 0) :
    Calls Try.prog 63 #[.slice A n c] w fun e w' => ∃ v, e = .returned v ∧ w'.ownsRow w.heap.size 23 1 v n ys ∧ Below w.heap.size w w' := by
  have q22 : ∀ (w : World) (a : Option Addr) (n c n' c' : Nat), (binOp .eql 60 (.slice a n c) (.slice none n' c')).run Try.prog w = .ok (.bool a.isNone) w := fun w a n c n' c' => Lib.run_eql_slice_nil w _ _ a n c n' c' Try.underlying60
  cases A with
  | none =>
    obtain rfl := h0 rfl
    obtain rfl : ys = [] := List.eq_nil_of_length_eq_zero (by simpa using hl)
    clear hA h1 hl h0
    go_enter Try.func63, Try.ntmps63
    go_wp2
    go_ret
    exact ⟨_, rfl, World.ownsRow_nil _ _ _ _, Below.refl _ _⟩
  | some a =>
    have HL := Lib.hid hl
    have HA := Lib.hid hA
    have H1 := Lib.hid h1
    clear hl hA h1 h0
    go_enter Try.func63, Try.ntmps63
    go_wp2_with (at_builtin; refine wpList_append_rows rfl _ _ 60 23 rfl w.heap.size Try.underlying60 info_slice rfl (by decide) (.slice (some ⟨w.heap.size, 0, none⟩) 0 0) 0 [] ys rfl own_none (some a) n c rfl HL.out (HA.out.below (balloc (Below.refl _ _) _)).form H1.out (by simp only [maxLen]; omega) (by omega) (by simp) ?_; intro v1 w1 hown hg)
    go_ret
    rw [Nat.zero_add, List.nil_append] at hown
    exact ⟨v1, rfl, hown, ((Below.refl _ _).alloc (Nat.le_refl _) _).grown hg (by simp) (by intro k hk; injection hk with hk; subst hk; exact Nat.le_refl _)⟩
theorem clone_w {w : World} {A : Option Addr} {n : Nat} {ys : List Value} (hl : ys.length = n * 2) (c : Nat) (hA : RdV w A ys) (h1 : ∀ u ∈ ys, u.oneCell' = true) (hn : n ≤ 1000000) (h0 : A = none → n = 0) :
    Calls Try.prog 64 #[.slice A n c] w fun e w' => ∃ v, e = .returned v ∧ w'.ownsRow w.heap.size 106 2 v n ys ∧ Below w.heap.size w w' := by
  have q22 : ∀ (w : World) (a : Option Addr) (n c n' c' : Nat), (binOp .eql 90 (.slice a n c) (.slice none n' c')).run Try.prog w = .ok (.bool a.isNone) w := fun w a n c n' c' => Lib.run_eql_slice_nil w _ _ a n c n' c' Try.underlying90
  cases A with
  | none =>
    obtain rfl := h0 rfl
    obtain rfl : ys = [] := List.eq_nil_of_length_eq_zero (by simpa using hl)
    clear hA h1 hl h0
    go_enter Try.func64, Try.ntmps64
    go_wp2
    go_ret
    exact ⟨_, rfl, World.ownsRow_nil _ _ _ _, Below.refl _ _⟩
  | some a =>
    have HL := Lib.hid hl
    have HA := Lib.hid hA
    have H1 := Lib.hid h1
    clear hl hA h1 h0
    go_enter Try.func64, Try.ntmps64
    go_wp2_with (at_builtin; refine wpList_append_rows rfl _ _ 90 106 rfl w.heap.size Try.underlying90 info_write rfl (by decide) (.slice (some ⟨w.heap.size, 0, none⟩) 0 0) 0 [] ys rfl own_none (some a) n c rfl HL.out (HA.out.below (balloc (Below.refl _ _) _)).form H1.out (by simp only [maxLen]; omega) (by omega) (by simp) ?_; intro v1 w1 hown hg)
    go_ret
    rw [Nat.zero_add, List.nil_append] at hown
    exact ⟨v1, rfl, hown, ((Below.refl _ _).alloc (Nat.le_refl _) _).grown hg (by simp) (by intro k hk; injection hk with hk; subst hk; exact Nat.le_refl _)⟩
theorem info_disk : (Try.prog.info? 97).map (fun i => (i.zero, i.size)) = some (some (.agg #[.slice none 0 0, .slice none 0 0, .bool false, .int .i64 0, .int .i64 0, .int .i64 0]), 6) := by kernel_rfl
section
variable {w : World} {B g gb : Nat} {ws : Value} {d : DS}
theorem DiskAt.rowV (h : DiskAt w B g gb ws d) : ∃ ys : List Value, ys.length = d.blocks.length * 1 ∧ RdV w (some ⟨gb, 0, none⟩) ys ∧ (∀ u ∈ ys, u.oneCell' = true) ∧ ∀ (i : Nat) v xs, ys[i]? = some v → d.blocks[i]? = some xs → DataV w B v xs := by
  obtain ⟨vals, hv, hl, hd⟩ := h.row
  refine ⟨vals.take d.blocks.length, by simp; omega, .inr ⟨gb, rfl, fun j u hu => ?_⟩, fun u hu => ?_, fun i v xs h1 h2 => ?_⟩
  · rw [List.getElem?_take] at hu
    split at hu
    · exact hv.cell hu
    · cases hu
  · obtain ⟨i, hi⟩ := List.getElem?_of_mem hu
    rw [List.getElem?_take] at hi
    split at hi
    · rename_i hlt
      rcases hd i u _ hi (List.getElem?_eq_getElem hlt) with ⟨rfl, _⟩ | ⟨_, ho, _⟩
      · rfl
      · exact own_oneCell ho
    · cases hi
  · rw [List.getElem?_take] at h1
    split at h1
    · exact hd i v xs h1 h2
    · cases h1
theorem DiskAt.wrV (h : DiskAt w B g gb ws d) {A : Option Addr} {m c : Nat} (hws : ws = .slice A m c) : ∃ qs : List (Int × Value), qs.length = m ∧ m = d.writes.length ∧ (qs.flatMap wcell).length = m * 2 ∧ RdV w A (qs.flatMap wcell) ∧ (∀ u ∈ qs.flatMap wcell, u.oneCell' = true) ∧ (A = none → m = 0) ∧ ∀ (i : Nat) (q : Int × Value) (p : Nat × List UInt8), qs[i]? = some q → d.writes[i]? = some p → q.1 = (p.1 : Int) ∧ q.2 ≠ .slice none 0 0 ∧ Own w B q.2 p.2 ∧ p.2.length = 4096 ∧ p.1 < d.blocks.length := by
  obtain ⟨qs, h1, h2, h3⟩ := h.wr
  have hone : ∀ u ∈ qs.flatMap wcell, u.oneCell' = true := by
    intro u hu
    obtain ⟨q, hq, hu⟩ := List.mem_flatMap.1 hu
    obtain ⟨i, hi⟩ := List.getElem?_of_mem hq
    have hlt : i < d.writes.length := by rw [← h1]; exact (List.getElem?_eq_some_iff.1 hi).1
    obtain ⟨_, _, ho, _⟩ := h3 i q _ hi (List.getElem?_eq_getElem hlt)
    simp [wcell] at hu
    rcases hu with rfl | rfl
    · rfl
    · exact own_oneCell ho
  rcases h2.2 with ⟨e, h0⟩ | ⟨b, cap, cur, e, hb, hh, _, _, hr, hr2⟩
  · rw [e] at hws
    injection hws with e1 e2 e3
    have : qs = [] := List.eq_nil_of_length_eq_zero h0
    subst this
    exact ⟨[], by simp [← e2], by rw [← h1, ← e2]; rfl, by simp [← e2], .inl rfl, hone, fun _ => e2.symm, h3⟩
  · rw [e] at hws
    injection hws with e1 e2 e3
    refine ⟨qs, e2, by rw [← e2, h1], by rw [wflat_length, e2], .inr ⟨b, e1.symm, fun j u hu => ?_⟩, hone, fun q => (by rw [← e1] at q; cases q), h3⟩
    rw [cell_of_row _ _ _ _ _ _ hh]
    rw [← hr2] at hu
    have hj := (List.getElem?_eq_some_iff.1 hu).1
    rw [List.getElem?_take_of_lt (by simp at hj; omega)] at hu
    simpa using hu
set_option maxHeartbeats 3200000 in
theorem copy_any (h : DiskAt w B g gb ws d) : Calls Try.prog 44 #[.pointer (some ⟨g, 0, none⟩)] w fun e w' => ∃ g' gb' ws' cap', e = .returned (.pointer (some ⟨g', 0, none⟩)) ∧ DiskAt w' B g' gb' ws' { d with cap := cap' } ∧ Below w.heap.size w w' ∧ ∀ k, Foot g' gb' ws' k → w.heap.size ≤ k := by
  have H := Lib.hid h
  obtain ⟨A, c, hws⟩ := h.wsForm
  obtain ⟨m, hm⟩ : ∃ m, m = d.writes.length := ⟨_, rfl⟩
  rw [← hm] at hws
  subst hws
  have hml : m ≤ 1000000 := hm ▸ h.few
  obtain ⟨qs, hq1, hq2, hq3, hq4, hq5, hq6, hq7⟩ := h.wrV rfl
  obtain ⟨ys, hy1, hy2, hy3, hy4⟩ := h.rowV
  have HQ1 := Lib.hid hq1
  have HQ2 := Lib.hid hq2
  have HQ3 := Lib.hid hq3
  have HQ4 := Lib.hid hq4
  have HQ5 := Lib.hid hq5
  have HQ6 := Lib.hid hq6
  have HQ7 := Lib.hid hq7
  have HY2 := Lib.hid hy2
  have HY3 := Lib.hid hy3
  have HY4 := Lib.hid hy4
  have c0 := h.c0
  have c1 := h.c1
  have c2 := h.c2
  have c5 := h.c5
  have hp := h.pos
  have hmany := h.many
  obtain ⟨n, hn⟩ : ∃ n, n = d.blocks.length := ⟨_, rfl⟩
  rw [← hn] at c0 hp hmany hy1
  have HN := Lib.hid hn
  have HY1 := Lib.hid hy1
  have ltg := h.obj.lt
  clear h hm hq1 hq2 hq3 hq4 hq5 hq6 hq7 hy1 hy2 hy3 hy4 hn
  go_enter Try.func44, Try.ntmps44
  go_wp2_with fail
  refine (none_any H.out).mono ?_
  rintro e w' ⟨rfl, rfl⟩
  go_wp2_with fail
  refine wp_region_held_drew (S := (fun w' : World => w'.cell? ⟨g, 0, none⟩ = some (.slice (some ⟨gb, 0, none⟩) n d.cap) ∧ w'.cell? ⟨g, 1, none⟩ = some (.slice A m c) ∧ w'.cell? ⟨g, 2, none⟩ = some (.bool d.down) ∧ w'.cell? ⟨g, 5, none⟩ = some (.int .i64 d.wth))) (by kernel_rfl) (⟨c0, c1, c2, c5⟩) (fun hHeld => ?_)
  refine take_op (i := 0) 6 (v := ?_) rfl rfl (by kernel_rfl) (by kernel_rfl) (by kernel_rfl) (fun _ _ _ h => h) (Or.inl ⟨by rfl, ?_⟩) (by assumption) ?_
  rotate_left
  · (intro w hSw; (try dsimp only at hSw); first | (go_simp; done) | (go_simp; with_reducible rfl))
  try simp only [Act.put, List.setIfInBounds_toArray, List.set_cons_zero, List.set_cons_succ]
  refine take_op (i := 1) 7 (v := ?_) rfl rfl (by kernel_rfl) (by kernel_rfl) (by kernel_rfl) (fun _ _ _ h => h) (Or.inl ⟨by rfl, ?_⟩) (by assumption) ?_
  rotate_left
  · (intro w hSw; (try dsimp only at hSw); first | (go_simp; done) | (go_simp; with_reducible rfl))
  try simp only [Act.put, List.setIfInBounds_toArray, List.set_cons_zero, List.set_cons_succ]
  refine take_op (i := 2) 8 (v := ?_) rfl rfl (by kernel_rfl) (by kernel_rfl) (by kernel_rfl) (fun _ _ _ h => h) (Or.inl ⟨by rfl, ?_⟩) (by assumption) ?_
  rotate_left
  · (intro w hSw; (try dsimp only at hSw); first | (go_simp; done) | (go_simp; with_reducible rfl))
  try simp only [Act.put, List.setIfInBounds_toArray, List.set_cons_zero, List.set_cons_succ]
  refine take_op (i := 3) 9 (v := ?_) rfl rfl (by kernel_rfl) (by kernel_rfl) (by kernel_rfl) (fun _ _ _ h => h) (Or.inl ⟨by rfl, ?_⟩) (by assumption) ?_
  rotate_left
  · (intro w hSw; (try dsimp only at hSw); first | (go_simp; done) | (go_simp; with_reducible rfl))
  try simp only [Act.put, List.setIfInBounds_toArray, List.set_cons_zero, List.set_cons_succ]
  refine take_op (i := 5) 11 (v := ?_) rfl rfl (by kernel_rfl) (by kernel_rfl) (by kernel_rfl) (fun _ _ _ h => h) (Or.inl ⟨by rfl, ?_⟩) (by assumption) ?_
  rotate_left
  · (intro w hSw; (try dsimp only at hSw); first | (go_simp; done) | (go_simp; with_reducible rfl))
  try simp only [Act.put, List.setIfInBounds_toArray, List.set_cons_zero, List.set_cons_succ]
  refine take_op (i := 6) 12 (v := ?_) rfl rfl (by kernel_rfl) (by kernel_rfl) (by kernel_rfl) (fun _ _ _ h => h) (Or.inl ⟨by rfl, ?_⟩) (by assumption) ?_
  rotate_left
  · (intro w hSw; (try dsimp only at hSw); first | (go_simp; done) | (go_simp; with_reducible rfl))
  try simp only [Act.put, List.setIfInBounds_toArray, List.set_cons_zero, List.set_cons_succ]
  refine take_op (i := 7) 13 (v := ?_) rfl rfl (by kernel_rfl) (by kernel_rfl) (by kernel_rfl) (fun _ _ _ h => h) (Or.inl ⟨by rfl, ?_⟩) (by assumption) ?_
  rotate_left
  · (intro w hSw; (try dsimp only at hSw); first | (go_simp; done) | (go_simp; with_reducible rfl))
  try simp only [Act.put, List.setIfInBounds_toArray, List.set_cons_zero, List.set_cons_succ]
  refine take_op (i := 8) 14 (v := ?_) rfl rfl (by kernel_rfl) (by kernel_rfl) (by kernel_rfl) (fun _ _ _ h => h) (Or.inl ⟨by rfl, ?_⟩) (by assumption) ?_
  rotate_left
  · (intro w hSw; (try dsimp only at hSw); first | (go_simp; done) | (go_simp; with_reducible rfl))
  try simp only [Act.put, List.setIfInBounds_toArray, List.set_cons_zero, List.set_cons_succ]
  refine take_op (i := 10) 16 (v := ?_) rfl rfl (by kernel_rfl) (by kernel_rfl) (by kernel_rfl) (fun _ _ _ h => h) (Or.inl ⟨by rfl, ?_⟩) (by assumption) ?_
  rotate_left
  · (intro w hSw; (try dsimp only at hSw); first | (go_simp; done) | (go_simp; with_reducible rfl))
  try simp only [Act.put, List.setIfInBounds_toArray, List.set_cons_zero, List.set_cons_succ]
  refine take_op (i := 11) 17 (v := ?_) rfl rfl (by kernel_rfl) (by kernel_rfl) (by kernel_rfl) (fun _ _ _ h => h) (Or.inl ⟨by rfl, ?_⟩) (by assumption) ?_
  rotate_left
  · (intro w hSw; (try dsimp only at hSw); first | (go_simp; done) | (go_simp; with_reducible rfl))
  try simp only [Act.put, List.setIfInBounds_toArray, List.set_cons_zero, List.set_cons_succ]
  refine take_op (i := 12) 18 (v := ?_) rfl rfl (by kernel_rfl) (by kernel_rfl) (by kernel_rfl) (fun _ _ _ h => h) (Or.inl ⟨by rfl, ?_⟩) (by assumption) ?_
  rotate_left
  · (intro w hSw; (try dsimp only at hSw); first | (go_simp; done) | (go_simp; with_reducible rfl))
  try simp only [Act.put, List.setIfInBounds_toArray, List.set_cons_zero, List.set_cons_succ]
  refine take_op (i := 13) 19 (v := ?_) rfl rfl (by kernel_rfl) (by kernel_rfl) (by kernel_rfl) (fun _ _ _ h => h) (Or.inl ⟨by rfl, ?_⟩) (by assumption) ?_
  rotate_left
  · (intro w hSw; (try dsimp only at hSw); first | (go_simp; done) | (go_simp; with_reducible rfl))
  try simp only [Act.put, List.setIfInBounds_toArray, List.set_cons_zero, List.set_cons_succ]
  refine take_op (i := 14) 20 (v := ?_) rfl rfl (by kernel_rfl) (by kernel_rfl) (by kernel_rfl) (fun _ _ _ h => h) (Or.inl ⟨by rfl, ?_⟩) (by assumption) ?_
  rotate_left
  · (intro w hSw; (try dsimp only at hSw); first | (go_simp; done) | (go_simp; with_reducible rfl))
  try simp only [Act.put, List.setIfInBounds_toArray, List.set_cons_zero, List.set_cons_succ]
  refine take_op (i := 15) 21 (v := ?_) rfl rfl (by kernel_rfl) (by kernel_rfl) (by kernel_rfl) (fun _ _ _ h => h) (Or.inl ⟨by rfl, ?_⟩) (by assumption) ?_
  rotate_left
  · (intro w hSw; (try dsimp only at hSw); first | (go_simp; done) | (go_simp; with_reducible rfl))
  try simp only [Act.put, List.setIfInBounds_toArray, List.set_cons_zero, List.set_cons_succ]
  refine take_op (i := 16) 22 (v := ?_) rfl rfl (by kernel_rfl) (by kernel_rfl) (by kernel_rfl) (fun _ _ _ h => h) (Or.inl ⟨by rfl, ?_⟩) (by assumption) ?_
  rotate_left
  · (intro w hSw; (try dsimp only at hSw); first | (go_simp; done) | (go_simp; with_reducible rfl))
  try simp only [Act.put, List.setIfInBounds_toArray, List.set_cons_zero, List.set_cons_succ]
  refine take_op (i := 17) 23 (v := ?_) rfl rfl (by kernel_rfl) (by kernel_rfl) (by kernel_rfl) (fun _ _ _ h => h) (Or.inl ⟨by rfl, ?_⟩) (by assumption) ?_
  rotate_left
  · (intro w hSw; (try dsimp only at hSw); first | (go_simp; done) | (go_simp; with_reducible rfl))
  try simp only [Act.put, List.setIfInBounds_toArray, List.set_cons_zero, List.set_cons_succ]
  refine ready_one 4 (by kernel_rfl) rfl (fun K hK => ?_)
  (go_simp; go_at_call 63; refine (clone_b (w := w.drew) HY1.out _ (HY2.out.below (bdrew (Below.refl _ _))) HY3.out (by omega) (fun e => by cases e)).mono ?_; rintro e w1 ⟨rv, rfl, hro, hrb⟩; obtain ⟨gb2, cap2, cur2, rfl, hgb, hh2, hcap2, _, hcs, hct⟩ := hro.2.resolve_left (fun q => by omega); have HH2 : Hid (w1.heap[gb2]? = some (.cells cur2 23 (0, 0))) := hh2; have HCT := Lib.hid hct; have HCS := Lib.hid hcs; have B1 : Hid (Below w.heap.size w w1) := bthen (bdrew (Below.refl _ _)) hrb; clear hro hrb hh2 hct hcs)
  refine hK.out _ _ ?_ (fun hHeld => ?_)
  · exact ⟨(B1.out.cell ltg).trans c0, (B1.out.cell ltg).trans c1, (B1.out.cell ltg).trans c2, (B1.out.cell ltg).trans c5⟩
  clear hK K
  try simp only [Act.put, List.setIfInBounds_toArray, List.set_cons_zero, List.set_cons_succ]
  refine ready_one 9 (by kernel_rfl) rfl (fun K hK => ?_)
  (go_simp; go_at_call 64; refine (clone_w (w := w1) HQ3.out _ (HQ4.out.below B1.out) HQ5.out (by omega) HQ6.out).mono ?_; rintro e w2 ⟨rv2, rfl, hro2, hrb2⟩; obtain ⟨A2, l2, c2', rfl⟩ := own_slice hro2; have RO2 := Lib.hid hro2; have B2 := Lib.hid hrb2; clear hro2 hrb2)
  refine hK.out _ _ ?_ (fun hHeld => ?_)
  · exact ⟨((bthen B1.out B2.out).cell ltg).trans c0, ((bthen B1.out B2.out).cell ltg).trans c1, ((bthen B1.out B2.out).cell ltg).trans c2, ((bthen B1.out B2.out).cell ltg).trans c5⟩
  clear hK K
  try simp only [Act.put, List.setIfInBounds_toArray, List.set_cons_zero, List.set_cons_succ]
  refine take_op (i := 18) 24 (v := ?_) rfl rfl (by kernel_rfl) (by kernel_rfl) (by kernel_rfl) (fun _ _ _ h => h) (Or.inl ⟨by rfl, ?_⟩) (by assumption) ?_
  rotate_left
  · (intro w hSw; (try dsimp only at hSw); first | (go_simp; done) | (go_simp; with_reducible rfl))
  try simp only [Act.put, List.setIfInBounds_toArray, List.set_cons_zero, List.set_cons_succ]
  refine ready_one 19 (by kernel_rfl) rfl (fun K hK => ?_)
  (go_simp)
  refine hK.out _ _ ?_ (fun hHeld => ?_)
  · have B3 : Below w.heap.size w (w2.alloc (.cells (diskCells gb2 n cap2 (.slice A2 l2 c2') d.down 0 0 d.wth).toArray 97)) := balloc (bthen B1.out B2.out) _; exact ⟨(B3.cell ltg).trans c0, (B3.cell ltg).trans c1, (B3.cell ltg).trans c2, (B3.cell ltg).trans c5⟩
  clear hK K
  try simp only [Act.put, List.setIfInBounds_toArray, List.set_cons_zero, List.set_cons_succ]
  refine take_op (i := 20) 3 (v := ?_) rfl rfl (by kernel_rfl) (by kernel_rfl) (by kernel_rfl) (fun _ _ _ h => h) (Or.inl ⟨by rfl, ?_⟩) (by assumption) ?_
  rotate_left
  · (intro w hSw; (try dsimp only at hSw); first | (go_simp; done) | (go_simp; with_reducible rfl))
  try simp only [Act.put, List.setIfInBounds_toArray, List.set_cons_zero, List.set_cons_succ]
  refine wpAnyH_done (by kernel_rfl) ?_ _
  go_wp2_with fail
  have B3 : Hid (Below w.heap.size w (w2.alloc (.cells #[.slice (some ⟨gb2, 0, none⟩) n cap2, .slice A2 l2 c2', .bool d.down, .int .i64 0, .int .i64 0, .int .i64 d.wth] 97))) := balloc (bthen B1.out B2.out) _
  have O3 : Hid (Ob (w2.alloc (.cells #[.slice (some ⟨gb2, 0, none⟩) n cap2, .slice A2 l2 c2', .bool d.down, .int .i64 0, .int .i64 0, .int .i64 d.wth] 97)) w2.heap.size 97 (diskCells gb2 n cap2 (.slice A2 l2 c2') d.down 0 0 d.wth)) := heap_alloc_new w2 _
  have BB : Hid (Below w2.heap.size w2 (w2.alloc (.cells #[.slice (some ⟨gb2, 0, none⟩) n cap2, .slice A2 l2 c2', .bool d.down, .int .i64 0, .int .i64 0, .int .i64 d.wth] 97))) := balloc (Below.refl _ _) _
  generalize w2.alloc (.cells #[.slice (some ⟨gb2, 0, none⟩) n cap2, .slice A2 l2 c2', .bool d.down, .int .i64 0, .int .i64 0, .int .i64 d.wth] 97) = w3 at *
  refine wp_region_held_drew (S := (fun _ : World => True)) (by kernel_rfl) (trivial) (fun hHeld => ?_)
  refine take_op (i := 0) 26 (v := ?_) rfl rfl (by kernel_rfl) (by kernel_rfl) (by kernel_rfl) (fun _ _ _ h => h) (Or.inl ⟨by rfl, ?_⟩) (by assumption) ?_
  rotate_left
  · (intro w hSw; (try dsimp only at hSw); first | (go_simp; done) | (go_simp; with_reducible rfl))
  try simp only [Act.put, List.setIfInBounds_toArray, List.set_cons_zero, List.set_cons_succ]
  refine take_op (i := 1) 27 (v := ?_) rfl rfl (by kernel_rfl) (by kernel_rfl) (by kernel_rfl) (fun _ _ _ h => h) (Or.inl ⟨by rfl, ?_⟩) (by assumption) ?_
  rotate_left
  · (intro w hSw; (try dsimp only at hSw); first | (go_simp; done) | (go_simp; with_reducible rfl))
  try simp only [Act.put, List.setIfInBounds_toArray, List.set_cons_zero, List.set_cons_succ]
  refine take_op (i := 2) 28 (v := ?_) rfl rfl (by kernel_rfl) (by kernel_rfl) (by kernel_rfl) (fun _ _ _ h => h) (Or.inl ⟨by rfl, ?_⟩) (by assumption) ?_
  rotate_left
  · (intro w hSw; (try dsimp only at hSw); first | (go_simp; done) | (go_simp; with_reducible rfl))
  try simp only [Act.put, List.setIfInBounds_toArray, List.set_cons_zero, List.set_cons_succ]
  refine take_op (i := 3) 29 (v := ?_) rfl rfl (by kernel_rfl) (by kernel_rfl) (by kernel_rfl) (fun _ _ _ h => h) (Or.inl ⟨by rfl, ?_⟩) (by assumption) ?_
  rotate_left
  · (intro w hSw; (try dsimp only at hSw); first | (go_simp; done) | (go_simp; with_reducible rfl))
  try simp only [Act.put, List.setIfInBounds_toArray, List.set_cons_zero, List.set_cons_succ]
  refine take_op (i := 4) 30 (v := ?_) rfl rfl (by kernel_rfl) (by kernel_rfl) (by kernel_rfl) (fun _ _ _ h => h) (Or.inl ⟨by rfl, ?_⟩) (by assumption) ?_
  rotate_left
  · (intro w hSw; (try dsimp only at hSw); first | (go_simp; done) | (go_simp; with_reducible rfl))
  try simp only [Act.put, List.setIfInBounds_toArray, List.set_cons_zero, List.set_cons_succ]
  refine take_op (i := 5) 31 (v := ?_) rfl rfl (by kernel_rfl) (by kernel_rfl) (by kernel_rfl) (fun _ _ _ h => h) (Or.inl ⟨by rfl, ?_⟩) (by assumption) ?_
  rotate_left
  · (intro w hSw; (try dsimp only at hSw); first | (go_simp; done) | (go_simp; with_reducible rfl))
  try simp only [Act.put, List.setIfInBounds_toArray, List.set_cons_zero, List.set_cons_succ]
  refine ready_one 6 (by kernel_rfl) rfl (fun K hK => ?_)
  (go_simp; go_at_call 65; refine (load_any (w := w3.drew) (show Ob w3.drew g _ _ from (H.out.below B3.out).obj) (j := 3) rfl).mono ?_; rintro e w9 ⟨rfl, rfl⟩)
  refine hK.out _ _ ?_ (fun hHeld => ?_)
  · trivial
  clear hK K
  try simp only [Act.put, List.setIfInBounds_toArray, List.set_cons_zero, List.set_cons_succ]
  refine ready_one 7 (by kernel_rfl) rfl (fun K hK => ?_)
  (go_simp; go_at_call 60; refine (store_any (w := w3.drew) (show Ob w3.drew w2.heap.size _ _ from O3.out) (j := 3) rfl d.arm).mono ?_; rintro e w9 ⟨rfl, rfl⟩)
  refine hK.out _ _ ?_ (fun hHeld => ?_)
  · trivial
  clear hK K
  try simp only [Act.put, List.setIfInBounds_toArray, List.set_cons_zero, List.set_cons_succ]
  refine wpAnyH_done (by kernel_rfl) ?_ _
  have ne : g ≠ w2.heap.size := fun e => by have := (bthen B1.out B2.out).size; omega
  have O4 := Lib.hid ((show Ob w3.drew w2.heap.size _ _ from O3.out).set 3 (.int .i64 d.arm))
  have H4 : Hid (Ob (w3.drew.setCell ⟨w2.heap.size, 3, none⟩ (.int .i64 d.arm)) g 97 _) := ((Tch.refl (fun k => k = w2.heap.size) _).grown (set_grown w3.drew w2.heap.size 3 _) (fun j e => .inl (by injection e with e; exact e.symm))).ob (show Ob w3.drew g _ _ from (H.out.below B3.out).obj) ne
  have T4 : Hid (Tch (fun k => k = w2.heap.size) w3 (w3.drew.setCell ⟨w2.heap.size, 3, none⟩ (.int .i64 d.arm))) := (Tch.below (bdrew (Below.refl _ _))).grown (set_grown w3.drew w2.heap.size 3 _) (fun j e => .inl (by injection e with e; exact e.symm))
  generalize w3.drew.setCell ⟨w2.heap.size, 3, none⟩ (.int .i64 d.arm) = w4 at *
  go_wp2_with fail
  refine wp_region_held_drew (S := (fun _ : World => True)) (by kernel_rfl) (trivial) (fun hHeld => ?_)
  refine take_op (i := 0) 34 (v := ?_) rfl rfl (by kernel_rfl) (by kernel_rfl) (by kernel_rfl) (fun _ _ _ h => h) (Or.inl ⟨by rfl, ?_⟩) (by assumption) ?_
  rotate_left
  · (intro w hSw; (try dsimp only at hSw); first | (go_simp; done) | (go_simp; with_reducible rfl))
  try simp only [Act.put, List.setIfInBounds_toArray, List.set_cons_zero, List.set_cons_succ]
  refine take_op (i := 1) 35 (v := ?_) rfl rfl (by kernel_rfl) (by kernel_rfl) (by kernel_rfl) (fun _ _ _ h => h) (Or.inl ⟨by rfl, ?_⟩) (by assumption) ?_
  rotate_left
  · (intro w hSw; (try dsimp only at hSw); first | (go_simp; done) | (go_simp; with_reducible rfl))
  try simp only [Act.put, List.setIfInBounds_toArray, List.set_cons_zero, List.set_cons_succ]
  refine take_op (i := 2) 36 (v := ?_) rfl rfl (by kernel_rfl) (by kernel_rfl) (by kernel_rfl) (fun _ _ _ h => h) (Or.inl ⟨by rfl, ?_⟩) (by assumption) ?_
  rotate_left
  · (intro w hSw; (try dsimp only at hSw); first | (go_simp; done) | (go_simp; with_reducible rfl))
  try simp only [Act.put, List.setIfInBounds_toArray, List.set_cons_zero, List.set_cons_succ]
  refine take_op (i := 3) 37 (v := ?_) rfl rfl (by kernel_rfl) (by kernel_rfl) (by kernel_rfl) (fun _ _ _ h => h) (Or.inl ⟨by rfl, ?_⟩) (by assumption) ?_
  rotate_left
  · (intro w hSw; (try dsimp only at hSw); first | (go_simp; done) | (go_simp; with_reducible rfl))
  try simp only [Act.put, List.setIfInBounds_toArray, List.set_cons_zero, List.set_cons_succ]
  refine take_op (i := 4) 38 (v := ?_) rfl rfl (by kernel_rfl) (by kernel_rfl) (by kernel_rfl) (fun _ _ _ h => h) (Or.inl ⟨by rfl, ?_⟩) (by assumption) ?_
  rotate_left
  · (intro w hSw; (try dsimp only at hSw); first | (go_simp; done) | (go_simp; with_reducible rfl))
  try simp only [Act.put, List.setIfInBounds_toArray, List.set_cons_zero, List.set_cons_succ]
  refine take_op (i := 5) 39 (v := ?_) rfl rfl (by kernel_rfl) (by kernel_rfl) (by kernel_rfl) (fun _ _ _ h => h) (Or.inl ⟨by rfl, ?_⟩) (by assumption) ?_
  rotate_left
  · (intro w hSw; (try dsimp only at hSw); first | (go_simp; done) | (go_simp; with_reducible rfl))
  try simp only [Act.put, List.setIfInBounds_toArray, List.set_cons_zero, List.set_cons_succ]
  refine ready_one 6 (by kernel_rfl) rfl (fun K hK => ?_)
  (go_simp; go_at_call 65; refine (load_any (w := w4.drew) (show Ob w4.drew g _ _ from H4.out) (j := 4) rfl).mono ?_; rintro e w9 ⟨rfl, rfl⟩)
  refine hK.out _ _ ?_ (fun hHeld => ?_)
  · trivial
  clear hK K
  try simp only [Act.put, List.setIfInBounds_toArray, List.set_cons_zero, List.set_cons_succ]
  refine ready_one 7 (by kernel_rfl) rfl (fun K hK => ?_)
  (go_simp; go_at_call 60; refine (store_any (w := w4.drew) (show Ob w4.drew w2.heap.size _ _ from O4.out) (j := 4) rfl d.fail).mono ?_; rintro e w9 ⟨rfl, rfl⟩)
  refine hK.out _ _ ?_ (fun hHeld => ?_)
  · trivial
  clear hK K
  try simp only [Act.put, List.setIfInBounds_toArray, List.set_cons_zero, List.set_cons_succ]
  refine wpAnyH_done (by kernel_rfl) ?_ _
  have O5 := Lib.hid ((show Ob w4.drew w2.heap.size _ _ from O4.out).set 4 (.int .i64 d.fail))
  have T5 : Hid (Tch (fun k => k = w2.heap.size) w3 (w4.drew.setCell ⟨w2.heap.size, 4, none⟩ (.int .i64 d.fail))) := (T4.out.trans (Tch.below (bdrew (Below.refl _ _)))).grown (set_grown w4.drew w2.heap.size 4 _) (fun j e => .inl (by injection e with e; exact e.symm))
  go_wp2_with fail
  go_ret
  have hN := HN.out
  subst hN
  have szB := (bthen B1.out B2.out).size
  have hw2 : w.heap.size ≤ w1.heap.size := B1.out.size
  have hBw : B ≤ w.heap.size := Nat.le_of_lt (Nat.lt_of_le_of_lt H.out.bg ltg)
  have BA := B3.out.trans (T5.out.toBelow B3.out.size (fun j e => by rw [e]; exact szB))
  have T2 := (Tch.below (S := fun k => k = w2.heap.size) BB.out).trans T5.out
  have l1 : gb2 < w1.heap.size := (Array.getElem?_eq_some_iff.1 HH2.out).1
  have l2' : gb2 < w2.heap.size := Nat.lt_of_lt_of_le l1 B2.out.size
  have hgb2 : w.heap.size ≤ gb2 := hgb
  have hlt := World.ownsRow.lt RO2.out
  refine ⟨_, gb2, _, cap2, rfl, ⟨O5.out, ⟨cur2.toList, ?_, ?_, fun i v xs h1 h2 => ?_⟩, ⟨qs, by rw [HQ1.out, HQ2.out], ?_, fun i q p hq hp => ?_⟩, Nat.le_trans hBw szB, Nat.le_trans hBw hgb2, H.out.pos, H.out.many, H.out.few, H.out.arm0, H.out.fail0⟩, BA, fun k hk => ?_⟩
  · have := (T2.block gb2 l2' (fun e => by omega)).trans ((B2.out.block gb2 l1).trans HH2.out)
    show _ = _
    rw [this]
  · have := HCS.out
    simp
    omega
  · have hi : i < d.blocks.length := (List.getElem?_eq_some_iff.1 h2).1
    refine (HY4.out i v xs ?_ h2).keep (S := fun _ => False) (Tch.below (BA.mono (Nat.le_refl _))) (fun _ _ _ q => q)
    rw [← HCT.out, List.getElem?_take_of_lt (by omega)]
    exact h1
  · rw [HQ1.out]
    have hr := T2.rows RO2.out (fun k hk e => by have := (hlt k hk).2; omega)
    exact ⟨hr.1, hr.2.imp id (fun ⟨g9, cap9, cur9, e9, hb9, r9⟩ => ⟨g9, cap9, cur9, e9, Nat.le_trans (Nat.le_trans hBw hw2) hb9, r9⟩)⟩
  · obtain ⟨q1, q2, q3, q4, q5⟩ := HQ7.out i q p hq hp
    exact ⟨q1, q2, q3.below BA, q4, q5⟩
  · rcases hk with rfl | rfl | hk
    · exact szB
    · exact hgb2
    · exact Nat.le_trans hw2 (hlt k hk).1
end
end Go.Proofs.Ytobnomlbkhkodaa.Y
