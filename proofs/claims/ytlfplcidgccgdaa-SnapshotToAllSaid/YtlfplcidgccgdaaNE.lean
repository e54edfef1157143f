/-
  Rows of ints at an offset; nil. What all see, all go on seeing.
-/
import Derived.Test.YtlfplcidgccgdaaNC
import Derived.Test.YtlfplcidgccgdaaYT
set_option linter.unusedVariables false
set_option linter.unusedSimpArgs false
namespace Go.Proofs.Ytlfplcidgccgdaa.Y
open Go.RowKit Go.Maps

def AllI (w : World) (B : Nat) (v : Value) (xs : List Int) : Prop := (xs = [] ∧ v = .slice none 0 0) ∨ RowO w B 3 v (ivs xs)
theorem ivs_length (xs : List Int) : (ivs xs).length = xs.length := by simp [ivs]
theorem ivs_at {xs : List Int} {j : Nat} {x : Int} (h : xs[j]? = some x) : (ivs xs)[j]? = some (.int .i64 x) := by simp [ivs, iv, h]
theorem AllI.nil (w : World) (B : Nat) : AllI w B (.slice none 0 0) [] := .inl ⟨rfl, rfl⟩
theorem AllI.slice {w : World} {B : Nat} {v : Value} {xs : List Int} (h : AllI w B v xs) : ∃ A c, v = .slice A xs.length c ∧ RdI w A xs ∧ xs.length ≤ c ∧ c ≤ maxLen := by
  rcases h with ⟨rfl, rfl⟩ | h
  · exact ⟨none, 0, rfl, .inl rfl, Nat.le_refl _, Nat.zero_le _⟩
  · obtain ⟨g, off, cap, e, _, _, h1, h2, hc⟩ := h.cells
    rw [ivs_length] at e h1
    refine ⟨_, _, e, .inr ⟨g, off, rfl, fun j u hu => hc j _ (ivs_at hu)⟩, h1, h2⟩
theorem AllI.lt {w : World} {B : Nat} {v : Value} {xs : List Int} (h : AllI w B v xs) {k : Nat} (hk : v.ownBlock = some k) : B ≤ k ∧ k < w.heap.size := by
  rcases h with ⟨rfl, rfl⟩ | h
  · cases hk
  · exact h.lt' hk
theorem AllI.kept {w w1 : World} {B : Nat} {v : Value} {xs : List Int} {S : Nat → Prop} (h : AllI w B v xs) (ht : Tch S w w1) (hs : ∀ k, v.ownBlock = some k → ¬ S k) : AllI w1 B v xs := by
  rcases h with h | h
  · exact .inl h
  · exact .inr (h.kept (fun k hk => ht.block k (h.lt' hk).2 (hs k hk)))
theorem AllI.below {w w1 : World} {B : Nat} {v : Value} {xs : List Int} (h : AllI w B v xs) (hb : Below w.heap.size w w1) : AllI w1 B v xs := h.kept (Tch.below (S := fun _ => False) hb) (fun _ _ q => q)
theorem AllI.ft {w : World} {g bo bc bd bg : Nat} {s : TS} (h : TableAt w g bo bc bd bg s) {B : Nat} {v : Value} {xs : List Int} (ho : AllI w B v xs) : ∀ k, v.ownBlock = some k → ¬ FT g bo bc bd bg k := by
  intro k hk hf
  rcases ho with ⟨rfl, rfl⟩ | ho
  · cases hk
  obtain ⟨cur, hc⟩ := ho.at_ hk
  have hm : ∀ {b : Nat} {M : Int → Option Int} {sz : Nat}, MI w b M sz → k ≠ b := fun hm e => by
    subst e
    obtain ⟨es, c, h2⟩ := hm.isMap
    rw [h2] at hc
    cases hc
  rcases hf with rfl | hf | hf | hf | hf
  · have h1 : w.heap[k]? = _ := h.obj
    rw [h1] at hc
    injection hc with hc
    injection hc with _ hc
    exact absurd hc (by decide)
  · exact hm h.mo hf
  · exact hm h.mc hf
  · exact hm h.md hf
  · exact hm h.mg hf
theorem AllI.own {w w1 : World} {g bo bc bd bg : Nat} {s : TS} {B : Nat} {v : Value} {xs : List Int} (h : AllI w B v xs) (ht : TableAt w g bo bc bd bg s) (hO : OwnT g bo bc bd bg w w1) : AllI w1 B v xs := by
  obtain ⟨S, hT, hS⟩ := hO
  exact h.kept hT (fun j hj hs => AllI.ft ht h j hj (hS j hs))
/-- What is left behind a cut in front. -/
theorem AllI.cut {w : World} {B c n : Nat} {A : Option Addr} {xs : List Int} (h : AllI w B (.slice A xs.length c) xs) (hx : 0 < xs.length) (hn : n ≤ xs.length) : ∃ g off, A = some ⟨g, off, none⟩ ∧ AllI w B (.slice (some ⟨g, off + n, none⟩) (xs.length - n) (c - n)) (xs.drop n) := by
  rcases h with ⟨rfl, h⟩ | h
  · simp at hx
  · obtain ⟨g, off, cap, e, _⟩ := h.cells
    injection e with e1 e2 e3
    subst e1; subst e3
    refine ⟨g, off, rfl, .inr ?_⟩
    have h2 : RowO w B 3 (.slice (some ⟨g, off, none⟩) (ivs xs).length c) (ivs xs) := by rw [ivs_length]; exact h
    have := h2.cut (n := n) (by rw [ivs_length]; exact hn)
    rw [ivs_length] at this
    have e : ivs (xs.drop n) = (ivs xs).drop n := by simp [ivs]
    rw [e]
    exact this
theorem own_all {w : World} {B : Nat} {v : Value} {xs : List Int} (h : OwnI w B v xs) (hx : 0 < xs.length) : AllI w B v xs := by
  rcases h.2 with ⟨_, h0⟩ | ⟨g, cap, cur, rfl, hB, hg, h1, h2, h3, h4⟩
  · omega
  · refine .inr ⟨g, 0, cap, cur, by rw [ivs_length], hB, hg, by rw [ivs_length]; exact h1, h2, by rw [Nat.mul_one] at h3; omega, ?_⟩
    rw [List.drop_zero, ivs_length]
    rw [Nat.mul_one] at h4
    exact h4
section
variable {P : Program} {ops : Array Oper} {rest : List Oper} {o : Oper} {a : Act} {Q : Exit → Act → World → Prop} {w : World}
theorem wpList_append_all (hgd : Region.wanted o (yielded ops a.tmps) = true) (s x : Operand) (t : TypeId)
    (ho : o.op = .call { callee := .builtin .append, args := #[s, x], argTypes := #[t, t] }) (base : Nat) (ht : P.underlying t = some (.slice 3)) (hinfo : (P.info? 3).map (fun i => (i.zero, i.size, i.bytes)) = some (some (.int .i64 0), 1, 8))
    (v : Value) (xs : List Int) (hs : a.eval s = v) (hown : AllI w base v xs) (g : Nat) (hx : a.eval x = .slice (some ⟨g, 0, none⟩) 1 1) (y : Int) (hg : w.cell? ⟨g, 0, none⟩ = some (.int .i64 y)) (hl : xs.length ≤ 1000000) (hbase : base ≤ w.heap.size)
    (h : ∀ v' w', AllI w' base v' (xs ++ [y]) → w.grownBy w' v.ownBlock → (∀ k, v'.ownBlock = some k → v.ownBlock = some k ∨ w.heap.size ≤ k) → wpList P ops Q rest (a.put o.dst v') w') : wpList P ops Q (o :: rest) a w := by
  rcases hown with ⟨rfl, rfl⟩ | hown
  · refine wpList_append_int hgd s x t ho w.heap.size ht hinfo _ [] hs (OwnI.nil _ _) g hx y hg (Nat.zero_le _) (Nat.le_refl _) ?_
    intro v' w' h1 h2
    have h3 := own_all h1 (by simp)
    refine h v' w' ?_ h2 (fun k hk => .inr (h3.lt hk).1)
    rcases h3 with ⟨h4, _⟩ | ⟨g', off, cap, cur, e, hB, r⟩
    · simp at h4
    · exact .inr ⟨g', off, cap, cur, e, Nat.le_trans hbase hB, r⟩
  · refine wpList_append_rowO hgd s x t 3 ho base ht hinfo rfl v (ivs xs) hs hown ⟨g, 0, none⟩ 1 1 hx [.int .i64 y] rfl (by decide) (fun j u hu => by
      match j, hu with
      | 0, hu => injection hu with hu; subst hu; rw [add_plain]; exact hg
      | (j + 1), hu => simp at hu) (by intro u hu; simp at hu; subst hu; rfl) (by rw [ivs_length]; simp only [maxLen]; omega) (by rw [ivs_length]; omega) hbase ?_
    intro v' w' h1 h2 h3 _
    have e : ivs (xs ++ [y]) = ivs xs ++ [.int .i64 y] := by simp [ivs, iv]
    refine h v' w' (.inr (by rw [e]; exact h1)) h2 (fun k hk => ?_)
    rcases h3 with ⟨g', off, cap, e1, e2⟩ | h3
    · left
      rw [e1]
      rw [e2] at hk
      exact hk
    · rw [h3] at hk
      injection hk with hk
      exact .inr (by omega)
end
/-! ### what all see, all go on seeing -/
/-- This number, and all see its writes. -/
structure All (s : TS) (x : Int) : Prop where
  lo : 1 ≤ x
  hi : x < s.next
  all : allP s x
theorem place_le {s : TS} (hc : ∀ x p, s.cm x = some p → p ≤ s.last) (h0 : 0 ≤ s.last) (x : Int) : placeN s x ≤ s.last := by
  unfold placeN
  cases h : s.cm x with
  | none => exact h0
  | some p => exact hc x p h
/-- One who is seen by all is not open. -/
theorem allP.closed {s : TS} {x : Int} (h : allP s x) (ho : ∀ k p, s.op k = some p → s.first ≤ k ∧ s.cm k = none) : s.op x = none := by
  cases e : s.op x with
  | none => rfl
  | some p =>
    obtain ⟨h1, h2⟩ := ho x p e
    have := placeB_new h2 h1
    rw [h.1] at this
    cases this
/-- What else a table keeps. -/
structure TX (s : TS) : Prop where
  cml : ∀ x p, s.cm x = some p → p ≤ s.last
  oc : ∀ k p, s.op k = some p → s.first ≤ k ∧ s.cm k = none
  cmn : ∀ x p, s.cm x = some p → x < s.next
  l0 : 0 ≤ s.last
theorem TX.new (n : Int) : TX (newS n) := ⟨fun x p e => (by cases e), fun x p e => (by cases e), fun x p e => (by cases e), Int.le_refl _⟩
theorem TX.begin {s : TS} (h : TX s) (ok : TOk s) : TX (begS s) := by
  refine ⟨h.cml, fun k p e => ?_, fun x p e => by have := h.cmn x p e; show x < s.next + 1; omega, h.l0⟩
  rcases updM_some (show updM s.op s.next _ k = some p from e) with ⟨e1, _⟩ | ⟨_, e2⟩
  · refine ⟨by have := ok.fn; show s.first ≤ k; omega, ?_⟩
    show s.cm k = none
    cases hc : s.cm k with
    | none => rfl
    | some q => have := h.cmn k q hc; omega
  · exact h.oc k p e2
theorem upd_none {M : Int → Option Int} {a k p : Int} (h : updM M a none k = some p) : k ≠ a ∧ M k = some p := by
  rcases updM_some h with ⟨_, e⟩ | h
  · cases e
  · exact h
theorem TX.commit {s : TS} (h : TX s) {tx q : Int} (ho : s.op tx = some q) (ok : TOk s) : TX (comS s tx) := by
  refine ⟨fun x p e => ?_, fun k p e => ?_, fun x p e => ?_, by have := h.l0; show 0 ≤ s.last + 1; omega⟩
  · show p ≤ s.last + 1
    rcases updM_some (show updM s.cm tx _ x = some p from e) with ⟨_, e2⟩ | ⟨_, e2⟩
    · injection e2 with e2; omega
    · have := h.cml x p e2; omega
  · obtain ⟨h1, h2⟩ := upd_none (show updM s.op tx none k = some p from e)
    obtain ⟨h3, h4⟩ := h.oc k p h2
    refine ⟨h3, ?_⟩
    show updM s.cm tx _ k = none
    unfold updM
    rw [if_neg h1]
    exact h4
  · show x < s.next
    rcases updM_some (show updM s.cm tx _ x = some p from e) with ⟨e1, _⟩ | ⟨_, e2⟩
    · have := (ok.opk tx q ho).2.1; omega
    · exact h.cmn x p e2
theorem TX.abort {s : TS} (h : TX s) (tx : Int) : TX (aboS s tx) := by
  refine ⟨h.cml, fun k p e => ?_, h.cmn, h.l0⟩
  obtain ⟨h1, h2⟩ := upd_none (show updM s.op tx none k = some p from e)
  exact h.oc k p h2
theorem All.begin {s : TS} {x : Int} (h : All s x) (ht : TX s) : All (begS s) x := by
  refine ⟨h.lo, by have := h.hi; show x < s.next + 1; omega, h.all.1, fun k p hk e => ?_⟩
  rcases updM_some (show updM s.op s.next _ k = some p from e) with ⟨_, e2⟩ | ⟨_, e2⟩
  · injection e2 with e2
    have := place_le ht.cml ht.l0 x
    show placeN s x ≤ p
    omega
  · exact h.all.2 k p hk e2
theorem All.ne {s : TS} {x : Int} (h : All s x) (ht : TX s) {tx q : Int} (ho : s.op tx = some q) : x ≠ tx := by
  intro e
  have := h.all.closed ht.oc
  rw [e, ho] at this
  cases this
theorem All.commit {s : TS} {x : Int} (h : All s x) (ht : TX s) {tx q : Int} (ho : s.op tx = some q) : All (comS s tx) x := by
  have hne := h.ne ht ho
  have e1 : (comS s tx).cm x = s.cm x := by show updM _ _ _ x = _; unfold updM; rw [if_neg hne]
  have e2 : placeB (comS s tx) x = placeB s x := by unfold placeB oldB; rw [e1]; rfl
  have e3 : placeN (comS s tx) x = placeN s x := by unfold placeN; rw [e1]
  refine ⟨h.lo, h.hi, by rw [e2]; exact h.all.1, fun k p hk e => ?_⟩
  rw [e3]
  exact h.all.2 k p hk (upd_none (show updM s.op tx none k = some p from e)).2
theorem All.abort {s : TS} {x : Int} (h : All s x) (ht : TX s) {tx q : Int} (ho : s.op tx = some q) : All (aboS s tx) x := by
  have hne := h.ne ht ho
  have e1 : (aboS s tx).gn x = s.gn x := by show updM _ _ _ x = _; unfold updM; rw [if_neg hne]
  have e2 : placeB (aboS s tx) x = placeB s x := by unfold placeB oldB; rw [e1]; rfl
  refine ⟨h.lo, h.hi, by rw [e2]; exact h.all.1, fun k p hk e => ?_⟩
  exact h.all.2 k p hk (upd_none (show updM s.op tx none k = some p from e)).2
/-- Each open one sees x, and is not x. -/
def Each (s : TS) (ss : List Int) (x : Int) : Prop := ∀ k ∈ ss, visB s k x = true ∧ k ≠ x
theorem allP.each {s : TS} {ss : List Int} {n : Nat} {x : Int} (h : allP s x) (ht : TX s) (hk : KeysOf s.op n ss) : Each s ss x := by
  intro k hm
  have hw := hk.wf k hm
  obtain ⟨p, hp⟩ := Option.isSome_iff_exists.1 ((hk.has k hw).1 hm)
  refine ⟨?_, fun e => ?_⟩
  · unfold visB
    rw [hp]
    dsimp only
    rw [h.1, decide_eq_true (h.2 k p hw hp)]
    simp
  · have := h.closed ht.oc
    rw [← e, hp] at this
    cases this
theorem Each.allP {s : TS} {ss : List Int} {n : Nat} {x : Int} (h : Each s ss x) (hk : KeysOf s.op n ss) (hn : 0 < n) : allP s x := by
  have one : ∀ k p, wf64 k → s.op k = some p → placeB s x = true ∧ placeN s x ≤ p := by
    intro k p hw hp
    obtain ⟨h1, h2⟩ := h k ((hk.has k hw).2 (by rw [hp]; rfl))
    unfold visB at h1
    rw [hp] at h1
    dsimp only at h1
    rw [beq_eq_false_iff_ne.2 h2.symm, Bool.false_or, Bool.and_eq_true, decide_eq_true_eq] at h1
    exact h1
  refine ⟨?_, fun k p hw hp => (one k p hw hp).2⟩
  have hl := hk.len
  match ss, hl, hk with
  | k :: t, _, hk =>
    have hw := hk.wf k (by simp)
    obtain ⟨p, hp⟩ := Option.isSome_iff_exists.1 ((hk.has k hw).1 (by simp))
    exact (one k p hw hp).1
  | [], hl, _ => simp at hl; omega
end Go.Proofs.Ytlfplcidgccgdaa.Y
