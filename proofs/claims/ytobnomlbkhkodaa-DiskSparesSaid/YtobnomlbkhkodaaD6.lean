/-
  package disk: Crash.
-/
import Derived.Test.YtobnomlbkhkodaaD5
set_option linter.unusedVariables false
set_option linter.unusedSimpArgs false
namespace Go.Proofs.Ytobnomlbkhkodaa.Y
open Go.RowKit
attribute [local go_sem ↓] Go.wp_at_zero Go.wp_at_succ

section
variable {P : Program} {ops : Array Oper} {rest : List Oper} {o : Oper} {a : Act} {Q : Exit → Act → World → Prop} {w : World}
theorem list_copy_own (hgd : o.guard = none) (d s : Operand) (dT sT : TypeId)
    (ho : o.op = .call { callee := .builtin .copy, args := #[d, s], argTypes := #[dT, sT] }) (hu : P.underlying dT = some (.slice 5)) (hinfo : (P.info? 5).map (fun i => (i.zero, i.size, i.bytes)) = some (some (.int .u8 0), 1, 1))
    {B g n c : Nat} {xs ys : List UInt8} (hown : Own w B (.slice (some ⟨g, 0, none⟩) n c) xs) (off dLen dCap sLen sCap : Nat) (dp sp : Option Addr) (hd : a.eval d = .slice dp dLen dCap) (hs : a.eval s = .slice sp sLen sCap) (hy : ys.length = sLen) (hr : Rd w sp ys) (hp : 0 < dLen → dp = some ⟨g, off, none⟩) (hfit : off + min sLen dLen ≤ n)
    (hk : ∀ w', Own w' B (.slice (some ⟨g, 0, none⟩) n c) (splice xs off (ys.take dLen)) → w.grownBy w' (some g) → wpList P ops Q rest (a.put o.dst (goInt (ys.take dLen).length)) w') : wpList P ops Q (o :: rest) a w := by
  unfold wpList
  rw [if_pos (by simp [Region.wanted, hgd])]
  left
  have h := step_copy_own (ops := ops) (K := fun a w => wpList P ops Q rest a w) (Q := Q) (E := True) hgd d s dT sT ho hu hinfo hown off dLen dCap sLen sCap dp sp hd hs hy hr hp hfit hk
  rw [if_pos (by simp [Region.wanted, hgd])] at h
  exact h
end
/-- At this address these bools stand. -/
def RdT (w : World) (A : Option Addr) (xs : List Bool) : Prop :=
  xs = [] ∨ ∃ b o, A = some ⟨b, o, none⟩ ∧ ∀ j u, xs[j]? = some u → w.cell? ⟨b, o + j, none⟩ = some (.bool u)
theorem RdT.at_ {w : World} {A : Option Addr} {xs : List Bool} (h : RdT w A xs) {j : Nat} {u : Bool} (hj : xs[j]? = some u) : ∃ b o, A = some ⟨b, o, none⟩ ∧ w.cell? ⟨b, o + j, none⟩ = some (.bool u) := by
  rcases h with h | ⟨b, o, e, hc⟩
  · subst h; simp at hj
  · exact ⟨b, o, e, hc j _ hj⟩
def tornL (old new : List UInt8) (ct : Nat) : List UInt8 := new.take ct ++ old.drop ct
def stepL (keep : List Bool) (torn : Int) (ct : Nat) (bs : List (List UInt8)) (k : Nat) (p : Nat × List UInt8) : List (List UInt8) :=
  if (k : Int) = torn then bs.set p.1 (tornL (bs[p.1]?.getD []) p.2 ct) else if keep[k]?.getD false = true then bs.set p.1 p.2 else bs
def leftL (keep : List Bool) (torn : Int) (ct : Nat) (ws : List (Nat × List UInt8)) (bs : List (List UInt8)) : Nat → List (List UInt8)
  | 0 => bs
  | k + 1 => match ws[k]? with
    | some p => stepL keep torn ct (leftL keep torn ct ws bs k) k p
    | none => leftL keep torn ct ws bs k
theorem stepL_length (keep : List Bool) (torn : Int) (ct : Nat) (bs : List (List UInt8)) (k : Nat) (p : Nat × List UInt8) : (stepL keep torn ct bs k p).length = bs.length := by
  unfold stepL
  split
  · simp
  · split <;> simp
theorem leftL_length (keep : List Bool) (torn : Int) (ct : Nat) (ws : List (Nat × List UInt8)) (bs : List (List UInt8)) (k : Nat) : (leftL keep torn ct ws bs k).length = bs.length := by
  induction k with
  | zero => rfl
  | succ k ih =>
    unfold leftL
    split
    · rw [stepL_length, ih]
    · exact ih
theorem leftL_at {keep : List Bool} {torn : Int} {ct : Nat} {ws : List (Nat × List UInt8)} {bs : List (List UInt8)} {k : Nat} {p : Nat × List UInt8} (h : ws[k]? = some p) : leftL keep torn ct ws bs (k + 1) = stepL keep torn ct (leftL keep torn ct ws bs k) k p := by
  rw [leftL, h]
theorem stepL_torn {keep : List Bool} {torn : Int} {ct : Nat} {bs : List (List UInt8)} {k : Nat} {p : Nat × List UInt8} {old : List UInt8} (h : (k : Int) = torn) (ho : bs[p.1]? = some old) : stepL keep torn ct bs k p = bs.set p.1 (tornL old p.2 ct) := by
  unfold stepL
  rw [if_pos h, ho]
  rfl
theorem stepL_keep {keep : List Bool} {torn : Int} {ct : Nat} {bs : List (List UInt8)} {k : Nat} {p : Nat × List UInt8} (h : (k : Int) ≠ torn) (ho : keep[k]? = some true) : stepL keep torn ct bs k p = bs.set p.1 p.2 := by
  unfold stepL
  rw [if_neg h, ho]
  rfl
theorem stepL_gone {keep : List Bool} {torn : Int} {ct : Nat} {bs : List (List UInt8)} {k : Nat} {p : Nat × List UInt8} (h : (k : Int) ≠ torn) (ho : keep[k]?.getD false = false) : stepL keep torn ct bs k p = bs := by
  unfold stepL
  rw [if_neg h, ho]
  rfl
theorem tornL_length {old new : List UInt8} {ct : Nat} (h1 : old.length = 4096) (h2 : new.length = 4096) (hc : ct ≤ 4096) : (tornL old new ct).length = 4096 := by
  unfold tornL
  simp
  omega
theorem tornL_splice {old new : List UInt8} {ct : Nat} (h2 : new.length = 4096) (hc : ct ≤ 4096) : splice old 0 ((new.take ct).take 4096) = tornL old new ct := by
  have : (new.take ct).length = ct := by simp; omega
  unfold splice tornL
  rw [List.take_of_length_le (l := new.take ct) (by omega), this]
  simp
def crashD (d : DS) (keep : List Bool) (torn : Int) (ct : Nat) : DS := ⟨leftL keep torn ct d.writes d.blocks d.writes.length, [], false, 0, 0, d.wth, d.cap⟩
section
variable {w : World} {B g gb : Nat} {ws : Value} {d : DS}
theorem foot_lt (h : DiskAt w B g gb ws d) : ∀ k, Foot g gb ws k → k < w.heap.size := by
  intro k hk
  obtain ⟨cs, t, h1, _⟩ := foot_typed h k hk
  exact (Array.getElem?_eq_some_iff.1 h1).1
theorem crash_bad (h : DiskAt w B g gb ws d) (ks : Value) (torn cut : Int) (hc : cut < 0 ∨ 4096 < cut) :
    Calls Try.prog 38 #[.pointer (some ⟨g, 0, none⟩), .agg #[ks, .int .i64 torn, .int .i64 cut]] w fun e w' => e = .returned (.int .i64 2) ∧ Below w.heap.size w w' := by
  have H := Lib.hid h
  clear h
  by_cases h1 : cut < 0
  · have e1 : decide (cut < 0) = true := decide_eq_true h1
    clear hc
    go_enter Try.func38, Try.ntmps38
    go_wp2_with fail
    refine (none_any (H.out.below (balloc (Below.refl _ _) _))).mono ?_
    rintro e w' ⟨rfl, rfl⟩
    go_wp2_with fail
    go_ret
    exact ⟨rfl, balloc (Below.refl _ _) _⟩
  · have e1 : decide (cut < 0) = false := decide_eq_false h1
    have e2 : decide (4096 < cut) = true := decide_eq_true (hc.resolve_left h1)
    clear hc
    go_enter Try.func38, Try.ntmps38
    go_wp2_with fail
    refine (none_any (H.out.below (balloc (Below.refl _ _) _))).mono ?_
    rintro e w' ⟨rfl, rfl⟩
    go_wp2_with fail
    go_ret
    exact ⟨rfl, balloc (Below.refl _ _) _⟩
set_option maxHeartbeats 3200000 in
theorem crash_ok (h : DiskAt w B g gb ws d) (hB : B ≤ w.heap.size) {keep : List Bool} {kl : Nat} (hkl : keep.length = kl) {KA : Option Addr} (kc : Nat) (torn : Int) {ct : Nat} (hct : ct ≤ 4096) (hK : ∀ w', Tch (Foot g gb ws) w w' → RdT w' KA keep) :
    Calls Try.prog 38 #[.pointer (some ⟨g, 0, none⟩), .agg #[.slice KA kl kc, .int .i64 torn, .int .i64 (ct : Int)]] w fun e w' => e = .returned (.int .i64 0) ∧ DiskAt w' B g gb (.slice none 0 0) (crashD d keep torn ct) ∧ Tch (Foot g gb ws) w w' := by
  obtain ⟨A, c, hws⟩ := h.wsForm
  obtain ⟨m, hm⟩ : ∃ m, m = d.writes.length := ⟨_, rfl⟩
  rw [← hm] at hws
  subst hws
  have HM := Lib.hid hm
  have hml : m ≤ 1000000 := hm ▸ h.few
  have HKL := Lib.hid hkl
  have HK := Lib.hid hK
  have e1 : decide ((ct : Int) < 0) = false := decide_eq_false (by omega)
  have e2 : decide ((4096 : Int) < (ct : Int)) = false := decide_eq_false (by omega)
  obtain ⟨wA, hwA⟩ : ∃ wA, wA = w.alloc (.cells #[.slice KA kl kc, .int .i64 torn, .int .i64 (ct : Int)] 56) := ⟨_, rfl⟩
  have HA := Lib.hid (h.below (w1 := wA) (by rw [hwA]; exact balloc (Below.refl _ _) _))
  have OA : Hid (Ob wA w.heap.size 56 [.slice KA kl kc, .int .i64 torn, .int .i64 (ct : Int)]) := by show Ob _ _ _ _; rw [hwA]; exact Ob.new w _ _
  have TA : Hid (Tch (Foot g gb (.slice A m c)) w wA) := by show Tch _ _ _; rw [hwA]; exact Tch.below (balloc (Below.refl _ _) _)
  have sA : wA.heap.size = w.heap.size + 1 := by rw [hwA]; simp
  have FL := Lib.hid (foot_lt h)
  have a1 := OA.out.cell (j := 1) rfl
  have a2 := OA.out.cell (j := 2) rfl
  have cg := HA.out.c1
  clear h hm hkl hK
  go_enter Try.func38, Try.ntmps38
  go_wp2_with fail
  rw [← hwA]
  clear hwA
  refine (none_any HA.out).mono ?_
  rintro e w' ⟨rfl, rfl⟩
  go_wp2_with fail
  go_loopw [25] (fun i wr => ∃ k : Nat, k ≤ m ∧ i = .int .i64 k ∧ Hid (DiskAt wr B g gb (.slice A m c) { d with blocks := leftL keep torn ct d.writes d.blocks k }) ∧ Hid (Tch (Foot g gb (.slice A m c)) wA wr)) (fun i _ => m - (intOf i).toNat)
  case atStart => exact ⟨0, Nat.zero_le _, rfl, HA, Lib.hid (Tch.refl _ _)⟩
  case round =>
    obtain ⟨k, hk, rfl, hv, ht⟩ := hrel
    have OR := Lib.hid (ht.out.ob OA.out (fun q => absurd (FL.out _ q) (Nat.lt_irrefl _)))
    have s1 : w.heap.size < wr.heap.size := by have := ht.out.size; omega
    have r0 := OR.out.cell (j := 0) rfl
    have r1 := OR.out.cell (j := 1) rfl
    have r2 := OR.out.cell (j := 2) rfl
    by_cases hlt : k < m
    · have gL := Lib.hid (List.getElem?_eq_getElem (l := d.writes) (i := k) (by rw [← HM.out]; exact hlt))
      generalize d.writes[k]'(by rw [← HM.out]; exact hlt) = p at *
      obtain ⟨b, o, C1, c1, rfl, p0, p1, hne, ho, hl, hb⟩ := hv.out.write_at rfl gL.out
      obtain ⟨b1, c1', e3, _, _, hc1, hc2⟩ := ho.formN hl (by decide)
      injection e3 with e3 e4 e5
      subst e3; subst e5
      have HV := Lib.hid ho
      have HL4 := Lib.hid hl
      have hnx := Lib.hid (leftL_at (keep := keep) (torn := torn) (ct := ct) (bs := d.blocks) gL.out)
      have k0 := hv.out.c0
      have hmn := hv.out.many
      dsimp only at k0 hb hmn
      have gO := Lib.hid (List.getElem?_eq_getElem hb)
      generalize (leftL keep torn ct d.writes d.blocks k)[p.1]'hb = old at *
      obtain ⟨vo, cvo, hdo, Ao, lo, co, hvo⟩ := hv.out.block gO.out
      have HO := Lib.hid hdo
      have hol := hdo.len
      obtain ⟨n, hn⟩ : ∃ n, n = (leftL keep torn ct d.writes d.blocks k).length := ⟨_, rfl⟩
      rw [← hn] at k0 hb hmn
      obtain ⟨i, hi⟩ : ∃ i, i = p.1 := ⟨_, rfl⟩
      rw [← hi] at p0 hb cvo
      have HI := Lib.hid hi
      have z0 : (0 : Int) ≤ (i : Int) := by omega
      have z1 : (i : Int) < (n : Int) := by omega
      have KR := Lib.hid (HK.out _ (TA.out.trans ht.out))
      clear hne ho hl hn hi hdo
      by_cases hq : (k : Int) = torn
      · have q1 : ((k : Int) == torn) = true := by rw [beq_iff_eq]; exact hq
        have HX := Lib.hid (stepL_torn (keep := keep) (ct := ct) hq gO.out)
        clear hq
        subst hvo
        go_wp2_with fail
        have bx := box2 wr 106 (.int .i64 (i : Int)) (.slice (some ⟨b1, 0, none⟩) 4096 c1)
        have hb2 : Hid (Below wr.heap.size wr (wr.alloc (.cells #[.int .i64 (i : Int), .slice (some ⟨b1, 0, none⟩) 4096 c1] 106))) := balloc (Below.refl _ _) _
        have lt2 : wr.heap.size < (wr.alloc (.cells #[.int .i64 (i : Int), .slice (some ⟨b1, 0, none⟩) 4096 c1] 106)).heap.size := by simp
        generalize wr.alloc (.cells #[.int .i64 (i : Int), .slice (some ⟨b1, 0, none⟩) 4096 c1] 106) = w2 at *
        have H2 := Lib.hid (hv.out.below hb2.out)
        have k2 : w2.cell? ⟨g, 0, none⟩ = some (.slice (some ⟨gb, 0, none⟩) n d.cap) := (hb2.out.cell (World.block_lt_of_cell? wr _ k0)).trans k0
        have e2 : w2.cell? ⟨gb, i, none⟩ = some (.slice Ao lo co) := (hb2.out.cell (World.block_lt_of_cell? wr _ cvo)).trans cvo
        have fz : w2.frozen? ⟨gb, i, none⟩ = false := by
          obtain ⟨vals, hvv, _⟩ := H2.out.row
          exact hvv.frozen i
        have HO2 := Lib.hid (HO.out.keep (S := fun _ => False) (Tch.below hb2.out) (fun _ _ _ q => q))
        have ltg := World.block_lt_of_cell? w2 _ k2
        have ltb := World.block_lt_of_cell? w2 _ e2
        refine wp_region_held_drew (S := (fun w' : World => w'.cell? ⟨g, 0, none⟩ = some (.slice (some ⟨gb, 0, none⟩) n d.cap) ∧ w'.cell? ⟨wr.heap.size, 0, none⟩ = some (.int .i64 (i : Int)) ∧ w'.cell? ⟨gb, i, none⟩ = some (.slice Ao lo co))) (by kernel_rfl) (⟨k2, bx.1, e2⟩) (fun hHeld => ?_)
        refine take_op (i := 0) 35 (v := ?_) rfl rfl (by kernel_rfl) (by kernel_rfl) (by kernel_rfl) (fun _ _ _ h => h) (Or.inl ⟨by rfl, ?_⟩) (by assumption) ?_
        rotate_left
        · (intro w hSw; (try dsimp only at hSw); first | (go_simp; done) | (go_simp; with_reducible rfl))
        try simp only [Act.put, List.setIfInBounds_toArray, List.set_cons_zero, List.set_cons_succ]
        refine take_op (i := 1) 36 (v := ?_) rfl rfl (by kernel_rfl) (by kernel_rfl) (by kernel_rfl) (fun _ _ _ h => h) (Or.inl ⟨by rfl, ?_⟩) (by assumption) ?_
        rotate_left
        · (intro w hSw; (try dsimp only at hSw); first | (go_simp; done) | (go_simp; with_reducible rfl))
        try simp only [Act.put, List.setIfInBounds_toArray, List.set_cons_zero, List.set_cons_succ]
        refine take_op (i := 2) 37 (v := ?_) rfl rfl (by kernel_rfl) (by kernel_rfl) (by kernel_rfl) (fun _ _ _ h => h) (Or.inl ⟨by rfl, ?_⟩) (by assumption) ?_
        rotate_left
        · (intro w hSw; (try dsimp only at hSw); first | (go_simp; done) | (go_simp; with_reducible rfl))
        try simp only [Act.put, List.setIfInBounds_toArray, List.set_cons_zero, List.set_cons_succ]
        refine take_op (i := 3) 38 (v := ?_) rfl rfl (by kernel_rfl) (by kernel_rfl) (by kernel_rfl) (fun _ _ _ h => h) (Or.inl ⟨by rfl, ?_⟩) (by assumption) ?_
        rotate_left
        · (intro w hSw; (try dsimp only at hSw); first | (go_simp; done) | (go_simp; with_reducible rfl))
        try simp only [Act.put, List.setIfInBounds_toArray, List.set_cons_zero, List.set_cons_succ]
        refine take_op (i := 4) 39 (v := ?_) rfl rfl (by kernel_rfl) (by kernel_rfl) (by kernel_rfl) (fun _ _ _ h => h) (Or.inl ⟨by rfl, ?_⟩) (by assumption) ?_
        rotate_left
        · (intro w hSw; (try dsimp only at hSw); first | (go_simp; done) | (go_simp; with_reducible rfl))
        try simp only [Act.put, List.setIfInBounds_toArray, List.set_cons_zero, List.set_cons_succ]
        refine take_op (i := 5) 40 (v := ?_) rfl rfl (by kernel_rfl) (by kernel_rfl) (by kernel_rfl) (fun _ _ _ h => h) (Or.inl ⟨by rfl, ?_⟩) (by assumption) ?_
        rotate_left
        · (intro w hSw; (try dsimp only at hSw); first | (go_simp; done) | (go_simp; with_reducible rfl))
        try simp only [Act.put, List.setIfInBounds_toArray, List.set_cons_zero, List.set_cons_succ]
        refine take_op (i := 6) 41 (v := ?_) rfl rfl (by kernel_rfl) (by kernel_rfl) (by kernel_rfl) (fun _ _ _ h => h) (Or.inl ⟨by rfl, ?_⟩) (by assumption) ?_
        rotate_left
        · (intro w hSw; (try dsimp only at hSw); first | (go_simp; done) | (go_simp; with_reducible rfl))
        try simp only [Act.put, List.setIfInBounds_toArray, List.set_cons_zero, List.set_cons_succ]
        refine take_op (i := 7) 42 (v := ?_) rfl rfl (by kernel_rfl) (by kernel_rfl) (by kernel_rfl) (fun _ _ _ h => h) (Or.inl ⟨by rfl, ?_⟩) (by assumption) ?_
        rotate_left
        · (intro w hSw; (try dsimp only at hSw); first | (go_simp; done) | (go_simp; with_reducible rfl))
        try simp only [Act.put, List.setIfInBounds_toArray, List.set_cons_zero, List.set_cons_succ]
        refine ready_one 8 (by kernel_rfl) rfl (fun K hK => ?_)
        (go_simp; go_at_call 59; refine (whole_any (w := w2.drew) (HO2.out.keep (S := fun _ => False) (Tch.below (bdrew (Below.refl _ _))) (fun _ _ _ q => q))).mono ?_; rintro e w3 ⟨rv, rfl, hrn, hro, hrb⟩; obtain ⟨rg, rc, rfl, hg1, _, _, _⟩ := hro.formN hol (by decide); have O3 := Lib.hid hro; have B3 : Hid (Below w2.heap.size w2 w3) := bthen (bdrew (Below.refl _ _)) hrb; clear hrn hro hrb)
        refine hK.out _ _ ?_ (fun hHeld => ?_)
        · exact ⟨(B3.out.cell ltg).trans k2, (B3.out.cell lt2).trans bx.1, (B3.out.cell ltb).trans e2⟩
        clear hK K
        try simp only [Act.put, List.setIfInBounds_toArray, List.set_cons_zero, List.set_cons_succ]
        refine take_op (i := 9) 7 (v := ?_) rfl rfl (by kernel_rfl) (by kernel_rfl) (by kernel_rfl) (fun _ _ _ h => h) (Or.inl ⟨by rfl, ?_⟩) (by assumption) ?_
        rotate_left
        · (intro w hSw; (try dsimp only at hSw); first | (go_simp; done) | (go_simp; with_reducible rfl))
        try simp only [Act.put, List.setIfInBounds_toArray, List.set_cons_zero, List.set_cons_succ]
        refine wpAnyH_done (by kernel_rfl) ?_ _
        have x1 : w3.cell? ⟨wr.heap.size, 1, none⟩ = some (.slice (some ⟨b1, 0, none⟩) 4096 c1) := (B3.out.cell lt2).trans bx.2
        have H3b := Lib.hid ((OR.out.below hb2.out).below B3.out)
        have x2 := H3b.out.cell (j := 2) rfl
        have R3 := Lib.hid ((HV.out.below hb2.out).below B3.out).rd.1
        have y5 : (0 : Int) ≤ (ct : Int) := by omega
        have y6 : (ct : Int) ≤ (c1 : Int) := by omega
        have y7 : (ct : Int).toNat = ct := Int.toNat_natCast ct
        go_upto_region 10 with (fail)
        refine wp_region_lit ?_
        refine list_op 44 (v := ?_) (w1 := ?_) rfl rfl ?_ ?_
        rotate_left 2
        · (first | (go_simp; done) | (go_simp; with_reducible rfl) | (go_simp; refine ⟨?_, ?_⟩ <;> with_reducible rfl))
        try simp only [Act.put, List.setIfInBounds_toArray, List.set_cons_zero, List.set_cons_succ]
        refine list_op 45 (v := ?_) (w1 := ?_) rfl rfl ?_ ?_
        rotate_left 2
        · (first | (go_simp; done) | (go_simp; with_reducible rfl) | (go_simp; refine ⟨?_, ?_⟩ <;> with_reducible rfl))
        try simp only [Act.put, List.setIfInBounds_toArray, List.set_cons_zero, List.set_cons_succ]
        refine list_op 46 (v := ?_) (w1 := ?_) rfl rfl ?_ ?_
        rotate_left 2
        · (first | (go_simp; done) | (go_simp; with_reducible rfl) | (go_simp; refine ⟨?_, ?_⟩ <;> with_reducible rfl))
        try simp only [Act.put, List.setIfInBounds_toArray, List.set_cons_zero, List.set_cons_succ]
        refine list_op 47 (v := ?_) (w1 := ?_) rfl rfl ?_ ?_
        rotate_left 2
        · (first | (go_simp; done) | (go_simp; with_reducible rfl) | (go_simp; refine ⟨?_, ?_⟩ <;> with_reducible rfl))
        try simp only [Act.put, List.setIfInBounds_toArray, List.set_cons_zero, List.set_cons_succ]
        refine list_op 48 (v := ?_) (w1 := ?_) rfl rfl ?_ ?_
        rotate_left 2
        · (first | (go_simp; done) | (go_simp; with_reducible rfl) | (go_simp; refine ⟨?_, ?_⟩ <;> with_reducible rfl))
        try simp only [Act.put, List.setIfInBounds_toArray, List.set_cons_zero, List.set_cons_succ]
        refine list_op 49 (v := ?_) (w1 := ?_) rfl rfl ?_ ?_
        rotate_left 2
        · (first | (go_simp; done) | (go_simp; with_reducible rfl) | (go_simp; refine ⟨?_, ?_⟩ <;> with_reducible rfl))
        try simp only [Act.put, List.setIfInBounds_toArray, List.set_cons_zero, List.set_cons_succ]
        refine list_copy_own rfl (.tmp 44) (.tmp 49) 23 23 rfl Try.underlying23 info_u8 (xs := old) (ys := p.2.take ct) O3.out 0 4096 rc ct c1 (some ⟨rg, 0, none⟩) (some ⟨b1, 0, none⟩) rfl rfl (by rw [List.length_take, HL4.out]; omega) (R3.out.take ct) (fun _ => rfl) (by omega) ?_
        intro w4 ho4 hg4
        rw [tornL_splice HL4.out hct] at ho4
        have O4 := Lib.hid ho4
        have G4 := Lib.hid hg4
        clear ho4 hg4
        try simp only [Act.put, List.setIfInBounds_toArray, List.set_cons_zero, List.set_cons_succ]
        refine wpList_nil ?_
        have B4 : Hid (Below wr.heap.size wr w4) := (bthen hb2.out B3.out).grown G4.out (bthen hb2.out B3.out).size (fun j e => by injection e with e; have h1 : w2.heap.size ≤ rg := hg1; omega)
        have H4 := Lib.hid (hv.out.below B4.out)
        have k4 : w4.cell? ⟨g, 0, none⟩ = some (.slice (some ⟨gb, 0, none⟩) n d.cap) := (B4.out.cell (World.block_lt_of_cell? wr _ k0)).trans k0
        have bx4 : w4.heap[wr.heap.size]? = w3.heap[wr.heap.size]? := G4.out.block _ (Nat.lt_of_lt_of_le lt2 B3.out.size) (fun e => by injection e with e; have h1 : w2.heap.size ≤ rg := hg1; omega)
        have x4 : w4.cell? ⟨wr.heap.size, 0, none⟩ = some (.int .i64 (i : Int)) := (cell_block bx4 0).trans ((B3.out.cell lt2).trans bx.1)
        have fz4 : w4.frozen? ⟨gb, i, none⟩ = false := by
          obtain ⟨vals, hvv, _⟩ := H4.out.row
          exact hvv.frozen i
        have e4 : w4.cell? ⟨gb, i, none⟩ = some (.slice Ao lo co) := (B4.out.cell (World.block_lt_of_cell? wr _ cvo)).trans cvo
        have D4 : Hid (DataV w4 B (.slice (some ⟨rg, 0, none⟩) 4096 rc) (tornL old p.2 ct)) := .inr ⟨by simp, O4.out.mono (show B ≤ w2.heap.size from Nat.le_trans hB (Nat.le_trans TA.out.size (Nat.le_trans ht.out.size hb2.out.size))), tornL_length hol HL4.out hct⟩
        go_upto_region 11 with (fail)
        refine region_popN 8 (S := (fun w' : World => w'.cell? ⟨g, 0, none⟩ = some (.slice (some ⟨gb, 0, none⟩) n d.cap) ∧ w'.cell? ⟨wr.heap.size, 0, none⟩ = some (.int .i64 (i : Int)))) (by simp only [List.take_succ_cons, List.take_zero]; rfl) (by simp only [List.drop_succ_cons, List.drop_zero]; rfl) (by kernel_rfl) (by kernel_rfl) rfl (by kernel_rfl) (by kernel_rfl) (⟨k4, x4⟩) (fun hHeld => ?_)
        refine take_op (i := 0) 51 (v := ?_) rfl rfl (by kernel_rfl) (by kernel_rfl) (by kernel_rfl) (fun _ _ _ h => h) (Or.inl ⟨by rfl, ?_⟩) (by assumption) ?_
        rotate_left
        · (intro w hSw; (try dsimp only at hSw); first | (go_simp; done) | (go_simp; with_reducible rfl))
        try simp only [Act.put, List.setIfInBounds_toArray, List.set_cons_zero, List.set_cons_succ]
        refine take_op (i := 1) 52 (v := ?_) rfl rfl (by kernel_rfl) (by kernel_rfl) (by kernel_rfl) (fun _ _ _ h => h) (Or.inl ⟨by rfl, ?_⟩) (by assumption) ?_
        rotate_left
        · (intro w hSw; (try dsimp only at hSw); first | (go_simp; done) | (go_simp; with_reducible rfl))
        try simp only [Act.put, List.setIfInBounds_toArray, List.set_cons_zero, List.set_cons_succ]
        refine take_op (i := 2) 53 (v := ?_) rfl rfl (by kernel_rfl) (by kernel_rfl) (by kernel_rfl) (fun _ _ _ h => h) (Or.inl ⟨by rfl, ?_⟩) (by assumption) ?_
        rotate_left
        · (intro w hSw; (try dsimp only at hSw); first | (go_simp; done) | (go_simp; with_reducible rfl))
        try simp only [Act.put, List.setIfInBounds_toArray, List.set_cons_zero, List.set_cons_succ]
        refine take_op (i := 3) 54 (v := ?_) rfl rfl (by kernel_rfl) (by kernel_rfl) (by kernel_rfl) (fun _ _ _ h => h) (Or.inl ⟨by rfl, ?_⟩) (by assumption) ?_
        rotate_left
        · (intro w hSw; (try dsimp only at hSw); first | (go_simp; done) | (go_simp; with_reducible rfl))
        try simp only [Act.put, List.setIfInBounds_toArray, List.set_cons_zero, List.set_cons_succ]
        refine take_op (i := 4) 55 (v := ?_) rfl rfl (by kernel_rfl) (by kernel_rfl) (by kernel_rfl) (fun _ _ _ h => h) (Or.inl ⟨by rfl, ?_⟩) (by assumption) ?_
        rotate_left
        · (intro w hSw; (try dsimp only at hSw); first | (go_simp; done) | (go_simp; with_reducible rfl))
        try simp only [Act.put, List.setIfInBounds_toArray, List.set_cons_zero, List.set_cons_succ]
        refine take_op (i := 5) 56 (v := ?_) rfl rfl (by kernel_rfl) (by kernel_rfl) (by kernel_rfl) (fun _ _ _ h => h) (Or.inl ⟨by rfl, ?_⟩) (by assumption) ?_
        rotate_left
        · (intro w hSw; (try dsimp only at hSw); first | (go_simp; done) | (go_simp; with_reducible rfl))
        try simp only [Act.put, List.setIfInBounds_toArray, List.set_cons_zero, List.set_cons_succ]
        refine take_op (i := 6) 57 (v := ?_) rfl rfl (by kernel_rfl) (by kernel_rfl) (by kernel_rfl) (fun _ _ _ h => h) (Or.inl ⟨by rfl, ?_⟩) (by assumption) ?_
        rotate_left
        · (intro w hSw; (try dsimp only at hSw); first | (go_simp; done) | (go_simp; with_reducible rfl))
        try simp only [Act.put, List.setIfInBounds_toArray, List.set_cons_zero, List.set_cons_succ]
        refine take_op (i := 7) 58 (v := ?_) rfl rfl (by kernel_rfl) (by kernel_rfl) (by kernel_rfl) (fun _ _ _ h => h) (Or.inl ⟨by rfl, ?_⟩) (by assumption) ?_
        rotate_left
        · (intro w hSw; (try dsimp only at hSw); first | (go_simp; done) | (go_simp; with_reducible rfl))
        try simp only [Act.put, List.setIfInBounds_toArray, List.set_cons_zero, List.set_cons_succ]
        refine wpAnyH_done (by kernel_rfl) ?_ _
        show wpList _ _ _ _ _ _
        go_wp2_with fail
        have hp := ((hv.out.below B4.out).below (bdrew (Below.refl _ _))).setBlock (i := i) (D4.out.keep (S := fun _ => False) (Tch.below (bdrew (Below.refl _ _))) (fun _ _ _ q => q))
        go_roundw
        case rel =>
          refine ⟨k + 1, by omega, by go_num, ?_, ?_⟩
          · rw [hnx.out, HX.out, ← HI.out]; exact hp.1
          · exact ht.out.then ((Tch.below (S := fun k => k = gb) (bdrew B4.out)).trans hp.2) (fun j e => .inl (.inr (.inl e)))
        case measure => simp [intOf]; omega
      · have q1 : ((k : Int) == torn) = false := by rw [beq_eq_false_iff_ne]; exact hq
        by_cases hkk : k < kl
        · have q2 : decide ((k : Int) < (kl : Int)) = true := decide_eq_true (by omega)
          obtain ⟨kb, ko, rfl, kcell⟩ := KR.out.at_ (List.getElem?_eq_getElem (l := keep) (i := k) (by rw [HKL.out]; exact hkk))
          have gK := Lib.hid (List.getElem?_eq_getElem (l := keep) (i := k) (by rw [HKL.out]; exact hkk))
          generalize keep[k]'(by rw [HKL.out]; exact hkk) = kv at *
          have kbl : kb < wr.heap.size := World.block_lt_of_cell? wr _ kcell
          have z7 : (0 : Int) ≤ (k : Int) := by omega
          have z8 : (k : Int) < (kl : Int) := by omega
          cases kv
          · have HX := Lib.hid (stepL_gone (ct := ct) (bs := leftL keep torn ct d.writes d.blocks k) (p := p) hq (by rw [gK.out]; rfl))
            clear hq
            go_wp2_with fail
            go_roundw
            case rel =>
              refine ⟨k + 1, by omega, by go_num, ?_, ?_⟩
              · rw [hnx.out, HX.out]; exact hv.out.below (balloc (Below.refl _ _) _)
              · exact ht.out.trans (Tch.below (balloc (Below.refl _ _) _))
            case measure => simp [intOf]; omega
          · have HX := Lib.hid (stepL_keep (ct := ct) (bs := leftL keep torn ct d.writes d.blocks k) (p := p) hq (by rw [gK.out]))
            clear hq
            go_wp2_with fail
            have bx := box2 wr 106 (.int .i64 (i : Int)) (.slice (some ⟨b1, 0, none⟩) 4096 c1)
            have hb2 : Hid (Below wr.heap.size wr (wr.alloc (.cells #[.int .i64 (i : Int), .slice (some ⟨b1, 0, none⟩) 4096 c1] 106))) := balloc (Below.refl _ _) _
            have lt2 : wr.heap.size < (wr.alloc (.cells #[.int .i64 (i : Int), .slice (some ⟨b1, 0, none⟩) 4096 c1] 106)).heap.size := by simp
            generalize wr.alloc (.cells #[.int .i64 (i : Int), .slice (some ⟨b1, 0, none⟩) 4096 c1] 106) = w2 at *
            have H2 := Lib.hid (hv.out.below hb2.out)
            have k2 : w2.cell? ⟨g, 0, none⟩ = some (.slice (some ⟨gb, 0, none⟩) n d.cap) := (hb2.out.cell (World.block_lt_of_cell? wr _ k0)).trans k0
            have e2 : w2.cell? ⟨gb, i, none⟩ = some vo := (hb2.out.cell (World.block_lt_of_cell? wr _ cvo)).trans cvo
            have fz : w2.frozen? ⟨gb, i, none⟩ = false := by
              obtain ⟨vals, hvv, _⟩ := H2.out.row
              exact hvv.frozen i
            refine region_popN 9 (S := (fun w' : World => w'.cell? ⟨g, 0, none⟩ = some (.slice (some ⟨gb, 0, none⟩) n d.cap) ∧ w'.cell? ⟨wr.heap.size, 0, none⟩ = some (.int .i64 (i : Int)) ∧ w'.cell? ⟨wr.heap.size, 1, none⟩ = some (.slice (some ⟨b1, 0, none⟩) 4096 c1))) (by simp only [List.take_succ_cons, List.take_zero]; rfl) (by simp only [List.drop_succ_cons, List.drop_zero]; rfl) (by kernel_rfl) (by kernel_rfl) rfl (by kernel_rfl) (by kernel_rfl) (⟨k2, bx.1, bx.2⟩) (fun hHeld => ?_)
            refine take_op (i := 0) 72 (v := ?_) rfl rfl (by kernel_rfl) (by kernel_rfl) (by kernel_rfl) (fun _ _ _ h => h) (Or.inl ⟨by rfl, ?_⟩) (by assumption) ?_
            rotate_left
            · (intro w hSw; (try dsimp only at hSw); first | (go_simp; done) | (go_simp; with_reducible rfl))
            try simp only [Act.put, List.setIfInBounds_toArray, List.set_cons_zero, List.set_cons_succ]
            refine take_op (i := 1) 73 (v := ?_) rfl rfl (by kernel_rfl) (by kernel_rfl) (by kernel_rfl) (fun _ _ _ h => h) (Or.inl ⟨by rfl, ?_⟩) (by assumption) ?_
            rotate_left
            · (intro w hSw; (try dsimp only at hSw); first | (go_simp; done) | (go_simp; with_reducible rfl))
            try simp only [Act.put, List.setIfInBounds_toArray, List.set_cons_zero, List.set_cons_succ]
            refine take_op (i := 2) 74 (v := ?_) rfl rfl (by kernel_rfl) (by kernel_rfl) (by kernel_rfl) (fun _ _ _ h => h) (Or.inl ⟨by rfl, ?_⟩) (by assumption) ?_
            rotate_left
            · (intro w hSw; (try dsimp only at hSw); first | (go_simp; done) | (go_simp; with_reducible rfl))
            try simp only [Act.put, List.setIfInBounds_toArray, List.set_cons_zero, List.set_cons_succ]
            refine take_op (i := 3) 75 (v := ?_) rfl rfl (by kernel_rfl) (by kernel_rfl) (by kernel_rfl) (fun _ _ _ h => h) (Or.inl ⟨by rfl, ?_⟩) (by assumption) ?_
            rotate_left
            · (intro w hSw; (try dsimp only at hSw); first | (go_simp; done) | (go_simp; with_reducible rfl))
            try simp only [Act.put, List.setIfInBounds_toArray, List.set_cons_zero, List.set_cons_succ]
            refine take_op (i := 4) 76 (v := ?_) rfl rfl (by kernel_rfl) (by kernel_rfl) (by kernel_rfl) (fun _ _ _ h => h) (Or.inl ⟨by rfl, ?_⟩) (by assumption) ?_
            rotate_left
            · (intro w hSw; (try dsimp only at hSw); first | (go_simp; done) | (go_simp; with_reducible rfl))
            try simp only [Act.put, List.setIfInBounds_toArray, List.set_cons_zero, List.set_cons_succ]
            refine take_op (i := 5) 77 (v := ?_) rfl rfl (by kernel_rfl) (by kernel_rfl) (by kernel_rfl) (fun _ _ _ h => h) (Or.inl ⟨by rfl, ?_⟩) (by assumption) ?_
            rotate_left
            · (intro w hSw; (try dsimp only at hSw); first | (go_simp; done) | (go_simp; with_reducible rfl))
            try simp only [Act.put, List.setIfInBounds_toArray, List.set_cons_zero, List.set_cons_succ]
            refine take_op (i := 6) 78 (v := ?_) rfl rfl (by kernel_rfl) (by kernel_rfl) (by kernel_rfl) (fun _ _ _ h => h) (Or.inl ⟨by rfl, ?_⟩) (by assumption) ?_
            rotate_left
            · (intro w hSw; (try dsimp only at hSw); first | (go_simp; done) | (go_simp; with_reducible rfl))
            try simp only [Act.put, List.setIfInBounds_toArray, List.set_cons_zero, List.set_cons_succ]
            refine take_op (i := 7) 79 (v := ?_) rfl rfl (by kernel_rfl) (by kernel_rfl) (by kernel_rfl) (fun _ _ _ h => h) (Or.inl ⟨by rfl, ?_⟩) (by assumption) ?_
            rotate_left
            · (intro w hSw; (try dsimp only at hSw); first | (go_simp; done) | (go_simp; with_reducible rfl))
            try simp only [Act.put, List.setIfInBounds_toArray, List.set_cons_zero, List.set_cons_succ]
            refine take_op (i := 8) 80 (v := ?_) rfl rfl (by kernel_rfl) (by kernel_rfl) (by kernel_rfl) (fun _ _ _ h => h) (Or.inl ⟨by rfl, ?_⟩) (by assumption) ?_
            rotate_left
            · (intro w hSw; (try dsimp only at hSw); first | (go_simp; done) | (go_simp; with_reducible rfl))
            try simp only [Act.put, List.setIfInBounds_toArray, List.set_cons_zero, List.set_cons_succ]
            refine wpAnyH_done (by kernel_rfl) ?_ _
            show wpList _ _ _ _ _ _
            go_wp2_with fail
            have hp := ((hv.out.below hb2.out).below (bdrew (Below.refl _ _))).setBlock (i := i) ((show DataV w2 B (.slice (some ⟨b1, 0, none⟩) 4096 c1) p.2 from .inr ⟨by simp, HV.out.below hb2.out, HL4.out⟩).keep (S := fun _ => False) (Tch.below (bdrew (Below.refl _ _))) (fun _ _ _ q => q))
            go_roundw
            case rel =>
              refine ⟨k + 1, by omega, by go_num, ?_, ?_⟩
              · rw [hnx.out, HX.out, ← HI.out]; exact hp.1
              · exact ht.out.then ((Tch.below (S := fun k => k = gb) (bdrew hb2.out)).trans hp.2) (fun j e => .inl (.inr (.inl e)))
            case measure => simp [intOf]; omega
        · have q2 : decide ((k : Int) < (kl : Int)) = false := decide_eq_false (by omega)
          have HX := Lib.hid (stepL_gone (ct := ct) (bs := leftL keep torn ct d.writes d.blocks k) (p := p) hq (by rw [List.getElem?_eq_none (by rw [HKL.out]; omega)]; rfl))
          clear hq
          go_wp2_with fail
          go_roundw
          case rel =>
            refine ⟨k + 1, by omega, by go_num, ?_, ?_⟩
            · rw [hnx.out, HX.out]; exact hv.out.below (balloc (Below.refl _ _) _)
            · exact ht.out.trans (Tch.below (balloc (Below.refl _ _) _))
          case measure => simp [intOf]; omega
    · obtain rfl : k = m := by omega
      have hc := Lib.hid hv.out.clear
      have fz1 := hv.out.obj.frozen 1
      have fz2 : (wr.setCell ⟨g, 1, none⟩ (.slice none 0 0)).frozen? ⟨g, 2, none⟩ = false := hc.out.1.obj.frozen 2
      have k1 := hv.out.c1
      have k2 : (wr.setCell ⟨g, 1, none⟩ (.slice none 0 0)).cell? ⟨g, 2, none⟩ = some (.bool d.down) := hc.out.1.c2
      go_wp2_with fail
      have o1 := Lib.hid (hc.out.1.obj.set 2 (.bool false))
      refine (store_any o1.out (j := 3) rfl 0).mono ?_
      rintro e w5 ⟨rfl, rfl⟩
      go_wp2_with fail
      refine (store_any (o1.out.set 3 (.int .i64 0)) (j := 4) rfl 0).mono ?_
      rintro e w5 ⟨rfl, rfl⟩
      go_wp2_with fail
      go_ret
      have T5 : Tch (fun k => k = g) (wr.setCell ⟨g, 1, none⟩ (.slice none 0 0)) (((wr.setCell ⟨g, 1, none⟩ (.slice none 0 0)).setCell ⟨g, 2, none⟩ (.bool false)).setCell ⟨g, 3, none⟩ (.int .i64 0) |>.setCell ⟨g, 4, none⟩ (.int .i64 0)) :=
        (((Tch.refl _ _).grown (set_grown _ g 2 _) (fun j e => .inl (by injection e with e; exact e.symm))).grown (set_grown _ g 3 _) (fun j e => .inl (by injection e with e; exact e.symm))).grown (set_grown _ g 4 _) (fun j e => .inl (by injection e with e; exact e.symm))
      have hu := hc.out.1.upd T5 (fun _ e => e) false 0 0 d.wth (by omega) (by omega) ((o1.out.set 3 (.int .i64 0)).set 4 (.int .i64 0))
      refine ⟨rfl, ?_, (TA.out.trans ht.out).trans ((hc.out.2.trans T5).mono (fun k _ e => .inl e))⟩
      have hM := HM.out
      subst hM
      exact hu
end
end Go.Proofs.Ytobnomlbkhkodaa.Y
