/-
  chanceryref08.Diff.
-/
import Derived.Test.YtobnomlbkhkodaaC9
set_option linter.unusedVariables false
set_option linter.unusedSimpArgs false
namespace Go.Proofs.Ytobnomlbkhkodaa.Y
open Go.RowKit
attribute [local go_sem ↓] Go.wp_at_zero Go.wp_at_succ

/-- The state behind the first k places. -/
def gst (xs ys : List UInt8) (k : Nat) : GS := grp (unl xs ys k)
theorem gst_no {xs ys : List UInt8} {k : Nat} (h : ¬ Unl xs ys k) : gst xs ys (k + 1) = gst xs ys k := by
  unfold gst
  rw [unl_succ, if_pos (by simpa [Unl] using h)]
theorem gst_yes {xs ys : List UInt8} {k : Nat} (h : Unl xs ys k) : gst xs ys (k + 1) = gstep (gst xs ys k) k := by
  unfold gst
  rw [unl_succ, if_neg h, grp_snoc]
def Quiet (xs ys : List UInt8) (i : Nat) : Prop := ∀ a b, (gst xs ys i).2 = some (a, b) → ∀ j, i ≤ j → j ≤ b + 8 → j < 4080 → ¬ Unl xs ys j
theorem quiet_zero (xs ys : List UInt8) : Quiet xs ys 0 := fun a b h => by simp [gst, unl, grp] at h
theorem quiet_skip {xs ys : List UInt8} {i : Nat} (h : Quiet xs ys i) (hu : ¬ Unl xs ys i) : Quiet xs ys (i + 1) := fun a b e j h1 h2 h3 => by
  rw [gst_no hu] at e
  exact h a b e j (by omega) h2 h3
theorem quiet_start {xs ys : List UInt8} {i : Nat} (h : Quiet xs ys i) (hu : Unl xs ys i) (hi : i < 4080) : gst xs ys (i + 1) = (gfin (gst xs ys i), some (i, i)) := by
  rw [gst_yes hu]
  have hinv : GInv (Unl xs ys) i (gst xs ys i) := grp_inv xs ys i
  cases hs : (gst xs ys i).2 with
  | none =>
    unfold gstep gfin
    rw [hs]
  | some p =>
    obtain ⟨a, b⟩ := p
    have : ¬ i ≤ b + 8 := fun q => h a b hs i (Nat.le_refl _) q hi hu
    unfold gstep gfin
    rw [hs]
    simp only []
    rw [if_pos (by omega)]
theorem inner_yes {xs ys : List UInt8} {k i last : Nat} {c : List (Nat × Nat)} (h : gst xs ys k = (c, some (i, last))) (hu : Unl xs ys k) (hk : k ≤ last + 8) : gst xs ys (k + 1) = (c, some (i, k)) := by
  rw [gst_yes hu, h]
  unfold gstep
  simp only []
  rw [if_neg (by omega)]
theorem unl_quiet {xs ys : List UInt8} {m : Nat} : ∀ k, m ≤ k → (∀ j, m ≤ j → j < k → ¬ Unl xs ys j) → gst xs ys k = gst xs ys m := by
  intro k
  induction k with
  | zero => intro h _; obtain rfl : m = 0 := (by omega); rfl
  | succ k ih =>
    intro h hq
    by_cases e : m = k + 1
    · rw [e]
    · rw [gst_no (hq k (by omega) (by omega)), ih (by omega) (fun j h1 h2 => hq j h1 (by omega))]
theorem inner_end {xs ys : List UInt8} {k i last : Nat} {c : List (Nat × Nat)} (h : gst xs ys k = (c, some (i, last))) (hl : last < k) (hk : k ≤ 4080) (he : k = 4080 ∨ last + 8 < k) : gst xs ys (last + 1) = (c, some (i, last)) ∧ Quiet xs ys (last + 1) := by
  have hr : Runs (Unl xs ys) k (gfin (gst xs ys k)) := (grp_inv xs ys k).runs
  rw [h] at hr
  have hr2 : Runs (Unl xs ys) k (c ++ [(i, last)]) := hr
  have hno : ∀ j, last + 1 ≤ j → j < k → ¬ Unl xs ys j := fun j h1 h2 hu => by
    obtain ⟨r, hm, h3, h4⟩ := hr2.cover j h2 hu
    rcases List.mem_append.1 hm with hm | hm
    · have := (List.pairwise_append.1 hr2.far).2.2 r hm (i, last) (by simp)
      have h5 := (hr2.each (i, last) (by simp)).1
      simp at this h5
      omega
    · simp at hm; subst hm; simp at h4; omega
  have e := unl_quiet (xs := xs) (ys := ys) (m := last + 1) k (by omega) hno
  rw [h] at e
  refine ⟨e.symm, fun a b hab j h1 h2 h3 => ?_⟩
  rw [← e] at hab
  simp at hab
  exact hno j h1 (by omega)
theorem pcs_drew {w : World} {B : Nat} {v : Value} {L : List (Int × List UInt8)} (h : Pcs w B v L) : Pcs w.drew B v L := h
theorem pcs_drewN {w : World} {B : Nat} {v : Value} {L : List (Int × List UInt8)} (h : Pcs w B v L) (n : Nat) : Pcs (w.drewN n) B v L := h
section
variable {ops : Array Oper} {rest : List Oper} {o : Oper} {a : Act} {Q : Exit → Act → World → Prop} {w : World}
theorem wpList_append_piece (hgd : o.guard = none) (s x : Operand)
    (ho : o.op = .call { callee := .builtin .append, args := #[s, x], argTypes := #[26, 26] })
    (base : Nat) (v : Value) (L : List (Int × List UInt8)) (hs : a.eval s = v) (h : Pcs w base v L) (p : Int) (u : Value) (xs : List UInt8) (hu : Own w base u xs) (g : Nat) (hx : a.eval x = .slice (some ⟨g, 0, none⟩) 1 1)
    (hg : w.heap[g]? = some (.cells #[.int .i64 p, u] 36 (0, 0))) (hL : L.length ≤ 4398046511000) (hbase : base ≤ w.heap.size)
    (hk : ∀ v' w', Pcs w' base v' (L ++ [(p, xs)]) → w.grownBy w' v.ownBlock → wpList Try.prog ops Q rest (a.put o.dst v') w') : wpList Try.prog ops Q (o :: rest) a w := by
  refine wpList_step fun K hK => ?_
  exact step_append_piece hgd s x ho base v L hs h p u xs hu g hx hg hL hbase (fun v' w' h1 h2 => hK _ _ (hk v' w' h1 h2))
end
theorem below_none {w w1 : World} (h : w.grownBy w1 none) : Below w.heap.size w w1 := (Below.refl _ _).grown h (Nat.le_refl _) (fun k e => by cases e)
theorem pcs_fin {w : World} {B : Nat} {v : Value} {ys : List UInt8} {c : List (Nat × Nat)} {i last : Nat} (h : Pcs w B v (c.map (cutP ys) ++ [((i : Int), (ys.drop i).take (last + 1 - i))])) : Pcs w B v ((gfin (c, some (i, last))).map (cutP ys)) := by
  have e : (gfin (c, some (i, last))).map (cutP ys) = c.map (cutP ys) ++ [((i : Int), (ys.drop i).take (last + 1 - i))] := by simp [gfin, cutP]
  rw [e]
  exact h
theorem gst_done (xs ys : List UInt8) : diffL xs ys = (gfin (gst xs ys 4080)).map (cutP ys) := rfl
theorem unl_iff {xs ys : List UInt8} {k : Nat} {x y : UInt8} (hx : xs[k]? = some x) (hy : ys[k]? = some y) : Unl xs ys k ↔ x ≠ y := by
  unfold Unl
  rw [hx, hy]
  exact ⟨fun h e => h (by rw [e]), fun h e => h (by injection e)⟩
theorem gfin_len (xs ys : List UInt8) (i : Nat) : (gfin (gst xs ys i)).length ≤ i + 1 := rngs_length xs ys i
theorem refDiff_arg {w : World} {A B : Option Addr} {l m : Nat} (c d : Nat) (hl : l ≤ 140737488555328) (hm : m ≤ 140737488555328) (h : l ≠ 4080 ∨ m ≠ 4080) :
    Calls Try.prog 25 #[.slice A l c, .slice B m d] w fun e w' => e = .returned (.tuple #[.slice none 0 0, .int .i64 2]) ∧ Below w.heap.size w w' := by
  by_cases h1 : l = 4080
  · have h2 : m ≠ 4080 := by omega
    have q1 : ((l : Int) != 4080) = false := by rw [bne_eq_false_iff_eq]; omega
    have q2 : ((m : Int) != 4080) = true := by rw [bne_iff_ne]; omega
    have q3 : (l != 4080) = false := by rw [bne_eq_false_iff_eq]; omega
    have q4 : (m != 4080) = true := by rw [bne_iff_ne]; omega
    clear h h1 h2
    go_enter Try.func25, Try.ntmps25
    go_wp2
    go_ret2
    exact ⟨rfl, Below.refl _ _⟩
  · have q1 : ((l : Int) != 4080) = true := by rw [bne_iff_ne]; omega
    have q3 : (l != 4080) = true := by rw [bne_iff_ne]; omega
    clear h h1
    go_enter Try.func25, Try.ntmps25
    go_wp2
    go_ret2
    exact ⟨rfl, Below.refl _ _⟩
set_option maxHeartbeats 6400000 in
set_option maxRecDepth 100000 in
theorem refDiff_any {w : World} {A B : Option Addr} (c d : Nat) {xs ys : List UInt8} (hx : xs.length = 4080) (hy : ys.length = 4080) (hA : Rd w A xs) (hB : Rd w B ys) (hd : 4080 ≤ d) :
    Calls Try.prog 25 #[.slice A 4080 c, .slice B 4080 d] w fun e w' => ∃ r, e = .returned (.tuple #[r, .int .i64 0]) ∧ Pcs w' w.heap.size r (diffL xs ys) ∧ Below w.heap.size w w' := by
  obtain ⟨ga, oa, rfl⟩ := hA.addr (by omega)
  obtain ⟨gb, ob, rfl⟩ := hB.addr (by omega)
  have HX := Lib.hid hx
  have HY := Lib.hid hy
  have HA := Lib.hid hA
  have HB := Lib.hid hB
  clear hA hB hx hy
  go_enter Try.func25, Try.ntmps25
  go_wp2
  go_loopw [6, 7] (fun v i wr => ∃ k : Nat, k ≤ 4080 ∧ i = .int .i64 k ∧ Hid (Pcs wr w.heap.size v ((gfin (gst xs ys k)).map (cutP ys))) ∧ Hid (Quiet xs ys k) ∧ Hid (Below w.heap.size w wr)) (fun _ i _ => 4080 - (intOf i).toNat)
  case atStart => exact ⟨0, Nat.zero_le _, rfl, Pcs.nil _ _, quiet_zero _ _, Below.refl _ _⟩
  case round =>
    obtain ⟨i, hi, rfl, hv, hq, hb⟩ := hrel
    by_cases hlt : i < 4080
    · have x1 := Lib.hid (List.getElem?_eq_getElem (l := xs) (i := i) (by rw [HX.out]; exact hlt))
      have y1 := Lib.hid (List.getElem?_eq_getElem (l := ys) (i := i) (by rw [HY.out]; exact hlt))
      generalize xs[i]'(by rw [HX.out]; exact hlt) = x at x1
      generalize ys[i]'(by rw [HY.out]; exact hlt) = y at y1
      have kA := Lib.hid ((HA.out.below hb.out).at' i x1.out)
      have kB := Lib.hid ((HB.out.below hb.out).at' i y1.out)
      have kk0 : (0 : Int) ≤ (i : Int) := by omega
      have kk1 : (i : Int) < 4080 := by omega
      have uq := Lib.hid (unl_iff x1.out y1.out)
      by_cases hxy : x = y
      · have hne : ((x.toNat : Int) == (y.toNat : Int)) = true := by rw [beq_iff_eq, hxy]
        have hno := Lib.hid (fun h => (uq.out.1 h) hxy)
        clear hxy
        go_wp2
        refine wp_region_held_drew (S := (fun w' : World => w'.cell? ⟨ga, oa + i, none⟩ = some (.int .u8 (x.toNat : Int)) ∧ w'.cell? ⟨gb, ob + i, none⟩ = some (.int .u8 (y.toNat : Int)))) (by kernel_rfl) (⟨kA.out, kB.out⟩) (fun hHeld => ?_)
        refine take_op (i := 0) 23 (v := ?_) rfl rfl (by kernel_rfl) (by kernel_rfl) (by kernel_rfl) (fun _ _ _ h => h) (Or.inl ⟨by rfl, ?_⟩) (by assumption) ?_
        rotate_left
        · (intro w hSw; (try dsimp only at hSw); first | (go_simp; done) | (go_simp; with_reducible rfl))
        try simp only [Act.put, List.setIfInBounds_toArray, List.set_cons_zero, List.set_cons_succ]
        refine take_op (i := 1) 24 (v := ?_) rfl rfl (by kernel_rfl) (by kernel_rfl) (by kernel_rfl) (fun _ _ _ h => h) (Or.inl ⟨by rfl, ?_⟩) (by assumption) ?_
        rotate_left
        · (intro w hSw; (try dsimp only at hSw); first | (go_simp; done) | (go_simp; with_reducible rfl))
        try simp only [Act.put, List.setIfInBounds_toArray, List.set_cons_zero, List.set_cons_succ]
        refine take_op (i := 2) 25 (v := ?_) rfl rfl (by kernel_rfl) (by kernel_rfl) (by kernel_rfl) (fun _ _ _ h => h) (Or.inl ⟨by rfl, ?_⟩) (by assumption) ?_
        rotate_left
        · (intro w hSw; (try dsimp only at hSw); first | (go_simp; done) | (go_simp; with_reducible rfl))
        try simp only [Act.put, List.setIfInBounds_toArray, List.set_cons_zero, List.set_cons_succ]
        refine take_op (i := 3) 26 (v := ?_) rfl rfl (by kernel_rfl) (by kernel_rfl) (by kernel_rfl) (fun _ _ _ h => h) (Or.inl ⟨by rfl, ?_⟩) (by assumption) ?_
        rotate_left
        · (intro w hSw; (try dsimp only at hSw); first | (go_simp; done) | (go_simp; with_reducible rfl))
        try simp only [Act.put, List.setIfInBounds_toArray, List.set_cons_zero, List.set_cons_succ]
        refine take_op (i := 4) 27 (v := ?_) rfl rfl (by kernel_rfl) (by kernel_rfl) (by kernel_rfl) (fun _ _ _ h => h) (Or.inl ⟨by rfl, ?_⟩) (by assumption) ?_
        rotate_left
        · (intro w hSw; (try dsimp only at hSw); first | (go_simp; done) | (go_simp; with_reducible rfl))
        try simp only [Act.put, List.setIfInBounds_toArray, List.set_cons_zero, List.set_cons_succ]
        refine take_op (i := 5) 28 (v := ?_) rfl rfl (by kernel_rfl) (by kernel_rfl) (by kernel_rfl) (fun _ _ _ h => h) (Or.inl ⟨by rfl, ?_⟩) (by assumption) ?_
        rotate_left
        · (intro w hSw; (try dsimp only at hSw); first | (go_simp; done) | (go_simp; with_reducible rfl))
        try simp only [Act.put, List.setIfInBounds_toArray, List.set_cons_zero, List.set_cons_succ]
        refine take_op (i := 6) 29 (v := ?_) rfl rfl (by kernel_rfl) (by kernel_rfl) (by kernel_rfl) (fun _ _ _ h => h) (Or.inl ⟨by rfl, ?_⟩) (by assumption) ?_
        rotate_left
        · (intro w hSw; (try dsimp only at hSw); first | (go_simp; done) | (go_simp; with_reducible rfl))
        try simp only [Act.put, List.setIfInBounds_toArray, List.set_cons_zero, List.set_cons_succ]
        refine take_op (i := 7) 30 (v := ?_) rfl rfl (by kernel_rfl) (by kernel_rfl) (by kernel_rfl) (fun _ _ _ h => h) (Or.inl ⟨by rfl, ?_⟩) (by assumption) ?_
        rotate_left
        · (intro w hSw; (try dsimp only at hSw); first | (go_simp; done) | (go_simp; with_reducible rfl))
        try simp only [Act.put, List.setIfInBounds_toArray, List.set_cons_zero, List.set_cons_succ]
        refine take_op (i := 8) 31 (v := ?_) rfl rfl (by kernel_rfl) (by kernel_rfl) (by kernel_rfl) (fun _ _ _ h => h) (Or.inl ⟨by rfl, ?_⟩) (by assumption) ?_
        rotate_left
        · (intro w hSw; (try dsimp only at hSw); first | (go_simp; done) | (go_simp; with_reducible rfl))
        try simp only [Act.put, List.setIfInBounds_toArray, List.set_cons_zero, List.set_cons_succ]
        refine wpAnyH_done (by kernel_rfl) ?_ _
        go_wp2
        go_roundw
        case rel => exact ⟨i + 1, by omega, by go_num, by rw [gst_no hno.out]; exact (hv.out : Pcs wr.drew _ _ _), quiet_skip hq.out hno.out, bdrew hb.out⟩
        case measure => simp [intOf]; omega
      · have hne : ((x.toNat : Int) == (y.toNat : Int)) = false := by rw [beq_eq_false_iff_ne]; intro e; exact hxy (UInt8.toNat_inj.1 (by omega))
        have hst := Lib.hid (quiet_start hq.out (uq.out.2 hxy) hlt)
        clear hxy
        go_wp2
        refine wp_region_held_drew (S := (fun w' : World => w'.cell? ⟨ga, oa + i, none⟩ = some (.int .u8 (x.toNat : Int)) ∧ w'.cell? ⟨gb, ob + i, none⟩ = some (.int .u8 (y.toNat : Int)))) (by kernel_rfl) (⟨kA.out, kB.out⟩) (fun hHeld => ?_)
        refine take_op (i := 0) 23 (v := ?_) rfl rfl (by kernel_rfl) (by kernel_rfl) (by kernel_rfl) (fun _ _ _ h => h) (Or.inl ⟨by rfl, ?_⟩) (by assumption) ?_
        rotate_left
        · (intro w hSw; (try dsimp only at hSw); first | (go_simp; done) | (go_simp; with_reducible rfl))
        try simp only [Act.put, List.setIfInBounds_toArray, List.set_cons_zero, List.set_cons_succ]
        refine take_op (i := 1) 24 (v := ?_) rfl rfl (by kernel_rfl) (by kernel_rfl) (by kernel_rfl) (fun _ _ _ h => h) (Or.inl ⟨by rfl, ?_⟩) (by assumption) ?_
        rotate_left
        · (intro w hSw; (try dsimp only at hSw); first | (go_simp; done) | (go_simp; with_reducible rfl))
        try simp only [Act.put, List.setIfInBounds_toArray, List.set_cons_zero, List.set_cons_succ]
        refine take_op (i := 2) 25 (v := ?_) rfl rfl (by kernel_rfl) (by kernel_rfl) (by kernel_rfl) (fun _ _ _ h => h) (Or.inl ⟨by rfl, ?_⟩) (by assumption) ?_
        rotate_left
        · (intro w hSw; (try dsimp only at hSw); first | (go_simp; done) | (go_simp; with_reducible rfl))
        try simp only [Act.put, List.setIfInBounds_toArray, List.set_cons_zero, List.set_cons_succ]
        refine take_op (i := 3) 26 (v := ?_) rfl rfl (by kernel_rfl) (by kernel_rfl) (by kernel_rfl) (fun _ _ _ h => h) (Or.inl ⟨by rfl, ?_⟩) (by assumption) ?_
        rotate_left
        · (intro w hSw; (try dsimp only at hSw); first | (go_simp; done) | (go_simp; with_reducible rfl))
        try simp only [Act.put, List.setIfInBounds_toArray, List.set_cons_zero, List.set_cons_succ]
        refine take_op (i := 4) 27 (v := ?_) rfl rfl (by kernel_rfl) (by kernel_rfl) (by kernel_rfl) (fun _ _ _ h => h) (Or.inl ⟨by rfl, ?_⟩) (by assumption) ?_
        rotate_left
        · (intro w hSw; (try dsimp only at hSw); first | (go_simp; done) | (go_simp; with_reducible rfl))
        try simp only [Act.put, List.setIfInBounds_toArray, List.set_cons_zero, List.set_cons_succ]
        refine take_op (i := 5) 28 (v := ?_) rfl rfl (by kernel_rfl) (by kernel_rfl) (by kernel_rfl) (fun _ _ _ h => h) (Or.inl ⟨by rfl, ?_⟩) (by assumption) ?_
        rotate_left
        · (intro w hSw; (try dsimp only at hSw); first | (go_simp; done) | (go_simp; with_reducible rfl))
        try simp only [Act.put, List.setIfInBounds_toArray, List.set_cons_zero, List.set_cons_succ]
        refine take_op (i := 6) 29 (v := ?_) rfl rfl (by kernel_rfl) (by kernel_rfl) (by kernel_rfl) (fun _ _ _ h => h) (Or.inl ⟨by rfl, ?_⟩) (by assumption) ?_
        rotate_left
        · (intro w hSw; (try dsimp only at hSw); first | (go_simp; done) | (go_simp; with_reducible rfl))
        try simp only [Act.put, List.setIfInBounds_toArray, List.set_cons_zero, List.set_cons_succ]
        refine take_op (i := 7) 30 (v := ?_) rfl rfl (by kernel_rfl) (by kernel_rfl) (by kernel_rfl) (fun _ _ _ h => h) (Or.inl ⟨by rfl, ?_⟩) (by assumption) ?_
        rotate_left
        · (intro w hSw; (try dsimp only at hSw); first | (go_simp; done) | (go_simp; with_reducible rfl))
        try simp only [Act.put, List.setIfInBounds_toArray, List.set_cons_zero, List.set_cons_succ]
        refine take_op (i := 8) 31 (v := ?_) rfl rfl (by kernel_rfl) (by kernel_rfl) (by kernel_rfl) (fun _ _ _ h => h) (Or.inl ⟨by rfl, ?_⟩) (by assumption) ?_
        rotate_left
        · (intro w hSw; (try dsimp only at hSw); first | (go_simp; done) | (go_simp; with_reducible rfl))
        try simp only [Act.put, List.setIfInBounds_toArray, List.set_cons_zero, List.set_cons_succ]
        refine wpAnyH_done (by kernel_rfl) ?_ _
        go_wp2
        clear uq kA kB x1 y1 hne
        obtain ⟨wo, hwo⟩ : ∃ wo : World, wo = wr.drew := ⟨_, rfl⟩
        rw [← hwo]
        replace hv := Lib.hid (pcs_drew hv.out)
        replace hb := Lib.hid (bdrew hb.out)
        rw [← hwo] at hv hb
        clear hwo kk0 kk1
        go_loopw [8, 9] (fun ls k wi => ∃ last k' : Nat, i ≤ last ∧ last < k' ∧ k' ≤ 4080 ∧ k' ≤ last + 9 ∧ ls = .int .i64 last ∧ k = .int .i64 k' ∧ Hid (gst xs ys k' = (gfin (gst xs ys i), some (i, last))) ∧ ∃ n, wi = wo.drewN n) (fun _ k _ => 4080 - (intOf k).toNat)
        case atStart => exact ⟨i, i + 1, Nat.le_refl _, by omega, by omega, by omega, rfl, by go_num, hst, 0, rfl⟩
        case round =>
          obtain ⟨last, k, h1, h2, h3, h4, rfl, rfl, hg, n, rfl⟩ := hrel
          by_cases hk2 : k < 4080
          · by_cases hk8 : k ≤ last + 8
            · have hbo := hb
              replace hb : Hid (Below w.heap.size w (wo.drewN n)) := bdrewN hb.out n
              have x1 := Lib.hid (List.getElem?_eq_getElem (l := xs) (i := k) (by rw [HX.out]; exact hk2))
              have y1 := Lib.hid (List.getElem?_eq_getElem (l := ys) (i := k) (by rw [HY.out]; exact hk2))
              generalize xs[k]'(by rw [HX.out]; exact hk2) = x at x1
              generalize ys[k]'(by rw [HY.out]; exact hk2) = y at y1
              have kA := Lib.hid ((HA.out.below hb.out).at' k x1.out)
              have kB := Lib.hid ((HB.out.below hb.out).at' k y1.out)
              have kk0 : (0 : Int) ≤ (k : Int) := by omega
              have kk1 : (k : Int) < 4080 := by omega
              have uq := Lib.hid (unl_iff x1.out y1.out)
              have t8 : (k : Int) ≤ (last : Int) + 8 := by omega
              by_cases hxy : x = y
              · have hne : ((x.toNat : Int) != (y.toNat : Int)) = false := by rw [bne_eq_false_iff_eq, hxy]
                have hno := Lib.hid (fun h => (uq.out.1 h) hxy)
                clear hxy
                go_wp2
                refine wp_region_held_drew (S := (fun w' : World => w'.cell? ⟨ga, oa + k, none⟩ = some (.int .u8 (x.toNat : Int)) ∧ w'.cell? ⟨gb, ob + k, none⟩ = some (.int .u8 (y.toNat : Int)))) (by kernel_rfl) (⟨kA.out, kB.out⟩) (fun hHeld => ?_)
                refine take_op (i := 0) 45 (v := ?_) rfl rfl (by kernel_rfl) (by kernel_rfl) (by kernel_rfl) (fun _ _ _ h => h) (Or.inl ⟨by rfl, ?_⟩) (by assumption) ?_
                rotate_left
                · (intro w hSw; (try dsimp only at hSw); first | (go_simp; done) | (go_simp; with_reducible rfl))
                try simp only [Act.put, List.setIfInBounds_toArray, List.set_cons_zero, List.set_cons_succ]
                refine take_op (i := 1) 46 (v := ?_) rfl rfl (by kernel_rfl) (by kernel_rfl) (by kernel_rfl) (fun _ _ _ h => h) (Or.inl ⟨by rfl, ?_⟩) (by assumption) ?_
                rotate_left
                · (intro w hSw; (try dsimp only at hSw); first | (go_simp; done) | (go_simp; with_reducible rfl))
                try simp only [Act.put, List.setIfInBounds_toArray, List.set_cons_zero, List.set_cons_succ]
                refine take_op (i := 2) 47 (v := ?_) rfl rfl (by kernel_rfl) (by kernel_rfl) (by kernel_rfl) (fun _ _ _ h => h) (Or.inl ⟨by rfl, ?_⟩) (by assumption) ?_
                rotate_left
                · (intro w hSw; (try dsimp only at hSw); first | (go_simp; done) | (go_simp; with_reducible rfl))
                try simp only [Act.put, List.setIfInBounds_toArray, List.set_cons_zero, List.set_cons_succ]
                refine take_op (i := 3) 48 (v := ?_) rfl rfl (by kernel_rfl) (by kernel_rfl) (by kernel_rfl) (fun _ _ _ h => h) (Or.inl ⟨by rfl, ?_⟩) (by assumption) ?_
                rotate_left
                · (intro w hSw; (try dsimp only at hSw); first | (go_simp; done) | (go_simp; with_reducible rfl))
                try simp only [Act.put, List.setIfInBounds_toArray, List.set_cons_zero, List.set_cons_succ]
                refine take_op (i := 4) 49 (v := ?_) rfl rfl (by kernel_rfl) (by kernel_rfl) (by kernel_rfl) (fun _ _ _ h => h) (Or.inl ⟨by rfl, ?_⟩) (by assumption) ?_
                rotate_left
                · (intro w hSw; (try dsimp only at hSw); first | (go_simp; done) | (go_simp; with_reducible rfl))
                try simp only [Act.put, List.setIfInBounds_toArray, List.set_cons_zero, List.set_cons_succ]
                refine take_op (i := 5) 50 (v := ?_) rfl rfl (by kernel_rfl) (by kernel_rfl) (by kernel_rfl) (fun _ _ _ h => h) (Or.inl ⟨by rfl, ?_⟩) (by assumption) ?_
                rotate_left
                · (intro w hSw; (try dsimp only at hSw); first | (go_simp; done) | (go_simp; with_reducible rfl))
                try simp only [Act.put, List.setIfInBounds_toArray, List.set_cons_zero, List.set_cons_succ]
                refine take_op (i := 6) 51 (v := ?_) rfl rfl (by kernel_rfl) (by kernel_rfl) (by kernel_rfl) (fun _ _ _ h => h) (Or.inl ⟨by rfl, ?_⟩) (by assumption) ?_
                rotate_left
                · (intro w hSw; (try dsimp only at hSw); first | (go_simp; done) | (go_simp; with_reducible rfl))
                try simp only [Act.put, List.setIfInBounds_toArray, List.set_cons_zero, List.set_cons_succ]
                refine take_op (i := 7) 52 (v := ?_) rfl rfl (by kernel_rfl) (by kernel_rfl) (by kernel_rfl) (fun _ _ _ h => h) (Or.inl ⟨by rfl, ?_⟩) (by assumption) ?_
                rotate_left
                · (intro w hSw; (try dsimp only at hSw); first | (go_simp; done) | (go_simp; with_reducible rfl))
                try simp only [Act.put, List.setIfInBounds_toArray, List.set_cons_zero, List.set_cons_succ]
                refine take_op (i := 8) 53 (v := ?_) rfl rfl (by kernel_rfl) (by kernel_rfl) (by kernel_rfl) (fun _ _ _ h => h) (Or.inl ⟨by rfl, ?_⟩) (by assumption) ?_
                rotate_left
                · (intro w hSw; (try dsimp only at hSw); first | (go_simp; done) | (go_simp; with_reducible rfl))
                try simp only [Act.put, List.setIfInBounds_toArray, List.set_cons_zero, List.set_cons_succ]
                refine wpAnyH_done (by kernel_rfl) ?_ _
                go_wp2
                go_roundw
                case rel => exact ⟨last, k + 1, h1, by omega, by omega, by omega, rfl, by go_num, by rw [gst_no hno.out]; exact hg.out, n + 1, rfl⟩
                case measure => simp [intOf]; omega
              · have hne : ((x.toNat : Int) != (y.toNat : Int)) = true := by rw [bne_iff_ne]; intro e; exact hxy (UInt8.toNat_inj.1 (by omega))
                have hys := Lib.hid (inner_yes hg.out (uq.out.2 hxy) hk8)
                clear hxy
                go_wp2
                refine wp_region_held_drew (S := (fun w' : World => w'.cell? ⟨ga, oa + k, none⟩ = some (.int .u8 (x.toNat : Int)) ∧ w'.cell? ⟨gb, ob + k, none⟩ = some (.int .u8 (y.toNat : Int)))) (by kernel_rfl) (⟨kA.out, kB.out⟩) (fun hHeld => ?_)
                refine take_op (i := 0) 45 (v := ?_) rfl rfl (by kernel_rfl) (by kernel_rfl) (by kernel_rfl) (fun _ _ _ h => h) (Or.inl ⟨by rfl, ?_⟩) (by assumption) ?_
                rotate_left
                · (intro w hSw; (try dsimp only at hSw); first | (go_simp; done) | (go_simp; with_reducible rfl))
                try simp only [Act.put, List.setIfInBounds_toArray, List.set_cons_zero, List.set_cons_succ]
                refine take_op (i := 1) 46 (v := ?_) rfl rfl (by kernel_rfl) (by kernel_rfl) (by kernel_rfl) (fun _ _ _ h => h) (Or.inl ⟨by rfl, ?_⟩) (by assumption) ?_
                rotate_left
                · (intro w hSw; (try dsimp only at hSw); first | (go_simp; done) | (go_simp; with_reducible rfl))
                try simp only [Act.put, List.setIfInBounds_toArray, List.set_cons_zero, List.set_cons_succ]
                refine take_op (i := 2) 47 (v := ?_) rfl rfl (by kernel_rfl) (by kernel_rfl) (by kernel_rfl) (fun _ _ _ h => h) (Or.inl ⟨by rfl, ?_⟩) (by assumption) ?_
                rotate_left
                · (intro w hSw; (try dsimp only at hSw); first | (go_simp; done) | (go_simp; with_reducible rfl))
                try simp only [Act.put, List.setIfInBounds_toArray, List.set_cons_zero, List.set_cons_succ]
                refine take_op (i := 3) 48 (v := ?_) rfl rfl (by kernel_rfl) (by kernel_rfl) (by kernel_rfl) (fun _ _ _ h => h) (Or.inl ⟨by rfl, ?_⟩) (by assumption) ?_
                rotate_left
                · (intro w hSw; (try dsimp only at hSw); first | (go_simp; done) | (go_simp; with_reducible rfl))
                try simp only [Act.put, List.setIfInBounds_toArray, List.set_cons_zero, List.set_cons_succ]
                refine take_op (i := 4) 49 (v := ?_) rfl rfl (by kernel_rfl) (by kernel_rfl) (by kernel_rfl) (fun _ _ _ h => h) (Or.inl ⟨by rfl, ?_⟩) (by assumption) ?_
                rotate_left
                · (intro w hSw; (try dsimp only at hSw); first | (go_simp; done) | (go_simp; with_reducible rfl))
                try simp only [Act.put, List.setIfInBounds_toArray, List.set_cons_zero, List.set_cons_succ]
                refine take_op (i := 5) 50 (v := ?_) rfl rfl (by kernel_rfl) (by kernel_rfl) (by kernel_rfl) (fun _ _ _ h => h) (Or.inl ⟨by rfl, ?_⟩) (by assumption) ?_
                rotate_left
                · (intro w hSw; (try dsimp only at hSw); first | (go_simp; done) | (go_simp; with_reducible rfl))
                try simp only [Act.put, List.setIfInBounds_toArray, List.set_cons_zero, List.set_cons_succ]
                refine take_op (i := 6) 51 (v := ?_) rfl rfl (by kernel_rfl) (by kernel_rfl) (by kernel_rfl) (fun _ _ _ h => h) (Or.inl ⟨by rfl, ?_⟩) (by assumption) ?_
                rotate_left
                · (intro w hSw; (try dsimp only at hSw); first | (go_simp; done) | (go_simp; with_reducible rfl))
                try simp only [Act.put, List.setIfInBounds_toArray, List.set_cons_zero, List.set_cons_succ]
                refine take_op (i := 7) 52 (v := ?_) rfl rfl (by kernel_rfl) (by kernel_rfl) (by kernel_rfl) (fun _ _ _ h => h) (Or.inl ⟨by rfl, ?_⟩) (by assumption) ?_
                rotate_left
                · (intro w hSw; (try dsimp only at hSw); first | (go_simp; done) | (go_simp; with_reducible rfl))
                try simp only [Act.put, List.setIfInBounds_toArray, List.set_cons_zero, List.set_cons_succ]
                refine take_op (i := 8) 53 (v := ?_) rfl rfl (by kernel_rfl) (by kernel_rfl) (by kernel_rfl) (fun _ _ _ h => h) (Or.inl ⟨by rfl, ?_⟩) (by assumption) ?_
                rotate_left
                · (intro w hSw; (try dsimp only at hSw); first | (go_simp; done) | (go_simp; with_reducible rfl))
                try simp only [Act.put, List.setIfInBounds_toArray, List.set_cons_zero, List.set_cons_succ]
                refine wpAnyH_done (by kernel_rfl) ?_ _
                go_wp2
                go_roundw
                case rel => exact ⟨k, k + 1, by omega, by omega, by omega, by omega, rfl, by go_num, hys, n + 1, rfl⟩
                case measure => simp [intOf]; omega
            · have hend := Lib.hid (inner_end hg.out h2 h3 (.inr (by omega)))
              have t8 : (last : Int) + 8 < (k : Int) := by omega
              obtain ⟨Av, cv, rfl⟩ := hv.out.sliceN (n := (gfin (gst xs ys i)).length) (by rw [List.length_map])
              have gl := Lib.hid (gfin_len xs ys i)
              have hml : Hid (((ys.drop i).take (last + 1 - i)).length = last + 1 - i) := by show _ = _; rw [List.length_take, List.length_drop, HY.out]; omega
              have RM := Lib.hid (((HB.out.below hb.out).mid i (last + 1 - i) d (by rw [HY.out]; exact hd)).drewN n)
              go_upto_region 15 with (fail)
              have ls1 : (i : Int) ≤ (last : Int) + 1 := by omega
              have ls2 : (last : Int) + 1 ≤ d := by omega
              have ls3 : (last : Int) < 4080 := by omega
              have ez : ((last : Int) + 1).toNat = last + 1 := by omega
              have es : IntKind.i64.wrap ((last : Int) + 1) = (last : Int) + 1 := by rw [IntKind.wrap_i64]; omega
              refine wp_region_lit ?_
              refine list_op 55 (v := ?_) (w1 := ?_) rfl rfl ?_ ?_
              rotate_left 2
              · (first | (go_simp; done) | (go_simp; with_reducible rfl) | (go_simp; refine ⟨?_, ?_⟩ <;> with_reducible rfl))
              try simp only [Act.put, List.setIfInBounds_toArray, List.set_cons_zero, List.set_cons_succ]
              refine list_op 56 (v := ?_) (w1 := ?_) rfl rfl ?_ ?_
              rotate_left 2
              · (first | (go_simp; done) | (go_simp; with_reducible rfl) | (go_simp; refine ⟨?_, ?_⟩ <;> with_reducible rfl))
              try simp only [Act.put, List.setIfInBounds_toArray, List.set_cons_zero, List.set_cons_succ]
              refine list_op 57 (v := ?_) (w1 := ?_) rfl rfl ?_ ?_
              rotate_left 2
              · (first | (go_simp; done) | (go_simp; with_reducible rfl) | (go_simp; refine ⟨?_, ?_⟩ <;> with_reducible rfl))
              try simp only [Act.put, List.setIfInBounds_toArray, List.set_cons_zero, List.set_cons_succ]
              refine list_op 58 (v := ?_) (w1 := ?_) rfl rfl ?_ ?_
              rotate_left 2
              · (first | (go_simp; done) | (go_simp; with_reducible rfl) | (go_simp; refine ⟨?_, ?_⟩ <;> with_reducible rfl))
              try simp only [Act.put, List.setIfInBounds_toArray, List.set_cons_zero, List.set_cons_succ]
              refine list_op 59 (v := ?_) (w1 := ?_) rfl rfl ?_ ?_
              rotate_left 2
              · (first | (go_simp; done) | (go_simp; with_reducible rfl) | (go_simp; refine ⟨?_, ?_⟩ <;> with_reducible rfl))
              try simp only [Act.put, List.setIfInBounds_toArray, List.set_cons_zero, List.set_cons_succ]
              refine list_op 60 (v := ?_) (w1 := ?_) rfl rfl ?_ ?_
              rotate_left 2
              · (first | (go_simp; done) | (go_simp; with_reducible rfl) | (go_simp; refine ⟨?_, ?_⟩ <;> with_reducible rfl))
              try simp only [Act.put, List.setIfInBounds_toArray, List.set_cons_zero, List.set_cons_succ]
              refine list_op 61 (v := ?_) (w1 := ?_) rfl rfl ?_ ?_
              rotate_left 2
              · (first | (go_simp; done) | (go_simp; with_reducible rfl) | (go_simp; refine ⟨?_, ?_⟩ <;> with_reducible rfl))
              try simp only [Act.put, List.setIfInBounds_toArray, List.set_cons_zero, List.set_cons_succ]
              refine list_op 62 (v := ?_) (w1 := ?_) rfl rfl ?_ ?_
              rotate_left 2
              · (first | (go_simp; done) | (go_simp; with_reducible rfl) | (go_simp; refine ⟨?_, ?_⟩ <;> with_reducible rfl))
              try simp only [Act.put, List.setIfInBounds_toArray, List.set_cons_zero, List.set_cons_succ]
              refine wpList_append_bytes rfl (.tmp 57) (.tmp 62) 23 rfl w.heap.size Try.underlying23 info_u8 (.slice none 0 0) [] ((ys.drop i).take (last + 1 - i)) rfl (Own.nil _ _) (cutA (some ⟨gb, ob, none⟩) d i) (last + 1 - i) (d - i) rfl hml.out RM.out (by rw [List.length_nil]; omega) hb.out.size ?_
              intro r2 w2 hown2 hg2 _ _
              have O2 : Hid (Own w2 w.heap.size r2 ((ys.drop i).take (last + 1 - i))) := hown2
              have B2 := Lib.hid (below_none hg2)
              clear hown2 hg2
              obtain ⟨A2, c2, rfl, _, _, _⟩ := O2.out.sliceN hml.out
              try simp only [Act.put, List.setIfInBounds_toArray, List.set_cons_zero, List.set_cons_succ]
              refine list_op 64 (v := ?_) (w1 := ?_) rfl rfl ?_ ?_
              rotate_left 2
              · (first | (go_simp; done) | (go_simp; with_reducible rfl) | (go_simp; refine ⟨?_, ?_⟩ <;> with_reducible rfl))
              try simp only [Act.put, List.setIfInBounds_toArray, List.set_cons_zero, List.set_cons_succ]
              refine list_op 65 (v := ?_) (w1 := ?_) rfl rfl ?_ ?_
              rotate_left 2
              · (first | (go_simp; done) | (go_simp; with_reducible rfl) | (go_simp; refine ⟨?_, ?_⟩ <;> with_reducible rfl))
              try simp only [Act.put, List.setIfInBounds_toArray, List.set_cons_zero, List.set_cons_succ]
              refine wpList_append_piece rfl (.tmp 55) (.tmp 65) rfl w.heap.size _ ((gfin (gst xs ys i)).map (cutP ys)) rfl (((pcs_drewN hv.out n).below B2.out).alloc _) i _ ((ys.drop i).take (last + 1 - i)) (O2.out.alloc _) w2.heap.size rfl (heap_alloc_new _ _) (by rw [List.length_map]; exact Nat.le_trans gl.out (by omega)) (balloc (bthen (bdrewN hb.out n) B2.out) _).size ?_
              intro v3 w3 hp3 hg3
              have P3 := Lib.hid hp3
              have B3 := Lib.hid (pcs_step (w := w) (bdrewN hb.out n) (pcs_drewN hv.out n) B2.out hg3)
              clear hp3 hg3
              try simp only [Act.put, List.setIfInBounds_toArray, List.set_cons_zero, List.set_cons_succ]
              refine list_op 6 (v := ?_) (w1 := ?_) rfl rfl ?_ ?_
              rotate_left 2
              · (first | (go_simp; done) | (go_simp; with_reducible rfl) | (go_simp; refine ⟨?_, ?_⟩ <;> with_reducible rfl))
              try simp only [Act.put, List.setIfInBounds_toArray, List.set_cons_zero, List.set_cons_succ]
              refine wpList_nil ?_
              go_wp2
              clear es ez
              go_roundw
              case rel => exact ⟨last + 1, by omega, by go_num, by rw [hend.out.1]; exact pcs_fin P3.out, hend.out.2, B3⟩
              case measure => simp [intOf]; omega
          · have hend := Lib.hid (inner_end hg.out h2 h3 (.inl (by omega)))
            obtain rfl : k = 4080 := by omega
            obtain ⟨Av, cv, rfl⟩ := hv.out.sliceN (n := (gfin (gst xs ys i)).length) (by rw [List.length_map])
            have gl := Lib.hid (gfin_len xs ys i)
            have hml : Hid (((ys.drop i).take (last + 1 - i)).length = last + 1 - i) := by show _ = _; rw [List.length_take, List.length_drop, HY.out]; omega
            have RM := Lib.hid (((HB.out.below hb.out).mid i (last + 1 - i) d (by rw [HY.out]; exact hd)).drewN n)
            go_upto_region 15 with (fail)
            have ls1 : (i : Int) ≤ (last : Int) + 1 := by omega
            have ls2 : (last : Int) + 1 ≤ d := by omega
            have ls3 : (last : Int) < 4080 := by omega
            have ez : ((last : Int) + 1).toNat = last + 1 := by omega
            have es : IntKind.i64.wrap ((last : Int) + 1) = (last : Int) + 1 := by rw [IntKind.wrap_i64]; omega
            refine wp_region_lit ?_
            refine list_op 55 (v := ?_) (w1 := ?_) rfl rfl ?_ ?_
            rotate_left 2
            · (first | (go_simp; done) | (go_simp; with_reducible rfl) | (go_simp; refine ⟨?_, ?_⟩ <;> with_reducible rfl))
            try simp only [Act.put, List.setIfInBounds_toArray, List.set_cons_zero, List.set_cons_succ]
            refine list_op 56 (v := ?_) (w1 := ?_) rfl rfl ?_ ?_
            rotate_left 2
            · (first | (go_simp; done) | (go_simp; with_reducible rfl) | (go_simp; refine ⟨?_, ?_⟩ <;> with_reducible rfl))
            try simp only [Act.put, List.setIfInBounds_toArray, List.set_cons_zero, List.set_cons_succ]
            refine list_op 57 (v := ?_) (w1 := ?_) rfl rfl ?_ ?_
            rotate_left 2
            · (first | (go_simp; done) | (go_simp; with_reducible rfl) | (go_simp; refine ⟨?_, ?_⟩ <;> with_reducible rfl))
            try simp only [Act.put, List.setIfInBounds_toArray, List.set_cons_zero, List.set_cons_succ]
            refine list_op 58 (v := ?_) (w1 := ?_) rfl rfl ?_ ?_
            rotate_left 2
            · (first | (go_simp; done) | (go_simp; with_reducible rfl) | (go_simp; refine ⟨?_, ?_⟩ <;> with_reducible rfl))
            try simp only [Act.put, List.setIfInBounds_toArray, List.set_cons_zero, List.set_cons_succ]
            refine list_op 59 (v := ?_) (w1 := ?_) rfl rfl ?_ ?_
            rotate_left 2
            · (first | (go_simp; done) | (go_simp; with_reducible rfl) | (go_simp; refine ⟨?_, ?_⟩ <;> with_reducible rfl))
            try simp only [Act.put, List.setIfInBounds_toArray, List.set_cons_zero, List.set_cons_succ]
            refine list_op 60 (v := ?_) (w1 := ?_) rfl rfl ?_ ?_
            rotate_left 2
            · (first | (go_simp; done) | (go_simp; with_reducible rfl) | (go_simp; refine ⟨?_, ?_⟩ <;> with_reducible rfl))
            try simp only [Act.put, List.setIfInBounds_toArray, List.set_cons_zero, List.set_cons_succ]
            refine list_op 61 (v := ?_) (w1 := ?_) rfl rfl ?_ ?_
            rotate_left 2
            · (first | (go_simp; done) | (go_simp; with_reducible rfl) | (go_simp; refine ⟨?_, ?_⟩ <;> with_reducible rfl))
            try simp only [Act.put, List.setIfInBounds_toArray, List.set_cons_zero, List.set_cons_succ]
            refine list_op 62 (v := ?_) (w1 := ?_) rfl rfl ?_ ?_
            rotate_left 2
            · (first | (go_simp; done) | (go_simp; with_reducible rfl) | (go_simp; refine ⟨?_, ?_⟩ <;> with_reducible rfl))
            try simp only [Act.put, List.setIfInBounds_toArray, List.set_cons_zero, List.set_cons_succ]
            refine wpList_append_bytes rfl (.tmp 57) (.tmp 62) 23 rfl w.heap.size Try.underlying23 info_u8 (.slice none 0 0) [] ((ys.drop i).take (last + 1 - i)) rfl (Own.nil _ _) (cutA (some ⟨gb, ob, none⟩) d i) (last + 1 - i) (d - i) rfl hml.out RM.out (by rw [List.length_nil]; omega) hb.out.size ?_
            intro r2 w2 hown2 hg2 _ _
            have O2 : Hid (Own w2 w.heap.size r2 ((ys.drop i).take (last + 1 - i))) := hown2
            have B2 := Lib.hid (below_none hg2)
            clear hown2 hg2
            obtain ⟨A2, c2, rfl, _, _, _⟩ := O2.out.sliceN hml.out
            try simp only [Act.put, List.setIfInBounds_toArray, List.set_cons_zero, List.set_cons_succ]
            refine list_op 64 (v := ?_) (w1 := ?_) rfl rfl ?_ ?_
            rotate_left 2
            · (first | (go_simp; done) | (go_simp; with_reducible rfl) | (go_simp; refine ⟨?_, ?_⟩ <;> with_reducible rfl))
            try simp only [Act.put, List.setIfInBounds_toArray, List.set_cons_zero, List.set_cons_succ]
            refine list_op 65 (v := ?_) (w1 := ?_) rfl rfl ?_ ?_
            rotate_left 2
            · (first | (go_simp; done) | (go_simp; with_reducible rfl) | (go_simp; refine ⟨?_, ?_⟩ <;> with_reducible rfl))
            try simp only [Act.put, List.setIfInBounds_toArray, List.set_cons_zero, List.set_cons_succ]
            refine wpList_append_piece rfl (.tmp 55) (.tmp 65) rfl w.heap.size _ ((gfin (gst xs ys i)).map (cutP ys)) rfl (((pcs_drewN hv.out n).below B2.out).alloc _) i _ ((ys.drop i).take (last + 1 - i)) (O2.out.alloc _) w2.heap.size rfl (heap_alloc_new _ _) (by rw [List.length_map]; exact Nat.le_trans gl.out (by omega)) (balloc (bthen (bdrewN hb.out n) B2.out) _).size ?_
            intro v3 w3 hp3 hg3
            have P3 := Lib.hid hp3
            have B3 := Lib.hid (pcs_step (w := w) (bdrewN hb.out n) (pcs_drewN hv.out n) B2.out hg3)
            clear hp3 hg3
            try simp only [Act.put, List.setIfInBounds_toArray, List.set_cons_zero, List.set_cons_succ]
            refine list_op 6 (v := ?_) (w1 := ?_) rfl rfl ?_ ?_
            rotate_left 2
            · (first | (go_simp; done) | (go_simp; with_reducible rfl) | (go_simp; refine ⟨?_, ?_⟩ <;> with_reducible rfl))
            try simp only [Act.put, List.setIfInBounds_toArray, List.set_cons_zero, List.set_cons_succ]
            refine wpList_nil ?_
            go_wp2
            clear es ez
            go_roundw
            case rel => exact ⟨last + 1, by omega, by go_num, by rw [hend.out.1]; exact pcs_fin P3.out, hend.out.2, B3⟩
            case measure => simp [intOf]; omega
    · obtain rfl : i = 4080 := by omega
      go_wp2
      go_ret2
      exact ⟨_, rfl, hv.out, hb.out⟩
end Go.Proofs.Ytobnomlbkhkodaa.Y
