/-
  Rounds on a table: what they keep. The plain law of two at once: the first one wins.
-/
import Derived.Test.YtlfplcidgccgdaaNA
import Derived.Test.YtlfplcidgccgdaaNB
set_option linter.unusedVariables false
set_option linter.unusedSimpArgs false
namespace Go.Proofs.Ytlfplcidgccgdaa.Y
open Go.RowKit Go.Maps

theorem RdI.cell_at {w : World} {b o : Nat} {xs : List Int} (h : RdI w (some ⟨b, o, none⟩) xs) {j : Nat} {x : Int} (hj : xs[j]? = some x) : w.cell? ⟨b, o + j, none⟩ = some (.int .i64 x) := by
  rcases h with h | ⟨b', o', e, hc⟩
  · subst h; simp at hj
  · injection e with e
    injection e with e1 e2
    subst e1; subst e2
    exact hc j x hj
/-- Behind k calls on a table that began at base. -/
structure FST (w0 : World) (base : Int) (g bo bc bd bg : Nat) (k : Nat) (s : TS) (w : World) : Prop where
  tab : TableAt w g bo bc bd bg s
  cml : ∀ x p, s.cm x = some p → x < s.next
  sc : s.sc ≤ k
  sg : s.sg ≤ k
  nx : s.next ≤ base + k
  low : Below w0.heap.size w0 w
  own : ∀ j, FT g bo bc bd bg j → w0.heap.size ≤ j
section
variable {w0 w : World} {base : Int} {g bo bc bd bg k : Nat} {s : TS}
theorem FST.more (h : FST w0 base g bo bc bd bg k s w) : FST w0 base g bo bc bd bg (k + 1) s w := ⟨h.tab, h.cml, Nat.le_succ_of_le h.sc, Nat.le_succ_of_le h.sg, by have := h.nx; omega, h.low, h.own⟩
theorem FST.below {w1 : World} (h : FST w0 base g bo bc bd bg k s w) (hb : Below w.heap.size w w1) : FST w0 base g bo bc bd bg k s w1 := ⟨h.tab.below hb, h.cml, h.sc, h.sg, h.nx, bthen h.low hb, h.own⟩
theorem FST.next {w1 : World} {s1 : TS} {k1 : Nat} {S : Nat → Prop} (h : FST w0 base g bo bc bd bg k s w) (ht : TableAt w1 g bo bc bd bg s1) (hi : ∀ x p, s1.cm x = some p → x < s1.next) (hT : Tch S w w1) (hS : ∀ j, S j → FT g bo bc bd bg j) (h1 : s1.sc ≤ k1) (h2 : s1.sg ≤ k1) (h3 : s1.next ≤ base + k1) : FST w0 base g bo bc bd bg k1 s1 w1 :=
  ⟨ht, hi, h1, h2, h3, h.low.trans (hT.toBelow h.low.size (fun j hs => h.own j (hS j hs))), h.own⟩
/-- Only the table's own blocks have turned. -/
def OwnT (g bo bc bd bg : Nat) (w w1 : World) : Prop := ∃ S : Nat → Prop, Tch S w w1 ∧ ∀ j, S j → FT g bo bc bd bg j
theorem OwnI.own {w1 : World} {B : Nat} {v : Value} {xs : List Int} (h : OwnI w B v xs) (ht : TableAt w g bo bc bd bg s) (hO : OwnT g bo bc bd bg w w1) : OwnI w1 B v xs := by
  obtain ⟨S, hT, hS⟩ := hO
  exact h.kept hT (fun j hj hs => ft_rows ht h j hj (hS j hs))
theorem fs_begin (h : FST w0 base g bo bc bd bg k s w) (hs : s.so < 16) (hk : k ≤ 1000) (hN : base ≤ 1000) : Calls Try.prog 18 #[.pointer (some ⟨g, 0, none⟩)] w fun e w' => e = .returned (.tuple #[.int .i64 s.next, .int .i64 0]) ∧ FST w0 base g bo bc bd bg (k + 1) (begS s) w' ∧ OwnT g bo bc bd bg w w' := by
  have hnx := h.nx
  refine (begin_ok h.tab hs (by omega)).mono ?_
  rintro e w' ⟨rfl, ht, hT⟩
  have hS : ∀ j, (j = g ∨ j = bo) → FT g bo bc bd bg j := fun j hj => hj.elim .inl (fun e => .inr (.inl e))
  exact ⟨rfl, h.next ht (fun x p e => by have := h.cml x p e; show x < s.next + 1; omega) hT hS (Nat.le_succ_of_le h.sc) (Nat.le_succ_of_le h.sg) (by show s.next + 1 ≤ base + ((k + 1 : Nat) : Int); omega), _, hT, hS⟩
theorem fs_commit (h : FST w0 base g bo bc bd bg k s w) (hk : k ≤ 1000) (tx p : Int) (hx : wf64 tx) (ho : s.op tx = some p) : Calls Try.prog 19 #[.pointer (some ⟨g, 0, none⟩), .int .i64 tx] w fun e w' => e = .returned (.int .i64 0) ∧ FST w0 base g bo bc bd bg (k + 1) (comS s tx) w' ∧ OwnT g bo bc bd bg w w' := by
  have h1 := h.sc
  have h2 := h.sg
  have h3 := h.nx
  have h4 := (h.tab.ok.opk tx p ho).2.1
  refine (commit_ok h.tab tx p hx ho (by omega)).mono ?_
  rintro e w' ⟨rfl, ht, hT⟩
  have hS : ∀ j, (j = g ∨ j = bo ∨ j = bc) → FT g bo bc bd bg j := fun j hj => hj.elim .inl (fun e => e.elim (fun e => .inr (.inl e)) (fun e => .inr (.inr (.inl e))))
  refine ⟨rfl, h.next ht (fun x q e => ?_) hT hS (ite_le h1) (Nat.le_succ_of_le h2) (by show s.next ≤ base + ((k + 1 : Nat) : Int); omega), _, hT, hS⟩
  show x < s.next
  rcases updM_some (show updM s.cm tx _ x = some q from e) with ⟨e1, _⟩ | ⟨_, e2⟩
  · omega
  · exact h.cml x q e2
theorem fs_abort (h : FST w0 base g bo bc bd bg k s w) (hk : k ≤ 1000) (tx p : Int) (hx : wf64 tx) (ho : s.op tx = some p) : Calls Try.prog 20 #[.pointer (some ⟨g, 0, none⟩), .int .i64 tx] w fun e w' => e = .returned (.int .i64 0) ∧ FST w0 base g bo bc bd bg (k + 1) (aboS s tx) w' ∧ OwnT g bo bc bd bg w w' := by
  have h1 := h.sc
  have h2 := h.sg
  have h3 := h.nx
  refine (abort_ok h.tab tx p hx ho (by omega)).mono ?_
  rintro e w' ⟨rfl, ht, hT⟩
  have hS : ∀ j, (j = g ∨ j = bo ∨ j = bg) → FT g bo bc bd bg j := fun j hj => hj.elim .inl (fun e => e.elim (fun e => .inr (.inl e)) (fun e => .inr (.inr (.inr (.inr e)))))
  exact ⟨rfl, h.next ht (fun x q e => h.cml x q e) hT hS (Nat.le_succ_of_le h1) (ite_le h2) (by show s.next ≤ base + ((k + 1 : Nat) : Int); omega), _, hT, hS⟩
theorem FST.vis (h : FST w0 base g bo bc bd bg k s w) (hk : k ≤ 1000) (hN : base ≤ 1000) (tx x : Int) (h1 : 0 ≤ tx) (h2 : tx ≤ 3000) (h3 : 0 ≤ x) (h4 : x ≤ 3000) : Calls Try.prog 22 #[.pointer (some ⟨g, 0, none⟩), .int .i64 tx, .int .i64 x] w fun e w' => e = .returned (.bool (visB s tx x)) ∧ FST w0 base g bo bc bd bg k s w' := by
  refine (visible_any h.tab tx x ⟨by omega, by omega⟩ ⟨by omega, by omega⟩).mono ?_
  rintro e w' ⟨rfl, q, rfl⟩
  exact ⟨rfl, h.below (bdrewN (Below.refl _ _) q)⟩
theorem FST.con (h : FST w0 base g bo bc bd bg k s w) (hk : k ≤ 1000) (hN : base ≤ 1000) (tx x : Int) (h1 : 0 ≤ tx) (h2 : tx ≤ 3000) (h3 : 0 ≤ x) (h4 : x ≤ 3000) : Calls Try.prog 61 #[.pointer (some ⟨g, 0, none⟩), .int .i64 tx, .int .i64 x] w fun e w' => e = .returned (.int .i64 (conT s tx x)) ∧ FST w0 base g bo bc bd bg k s w' := by
  refine (conflict_any h.tab tx x ⟨by omega, by omega⟩ ⟨by omega, by omega⟩).mono ?_
  rintro e w' ⟨rfl, q, rfl⟩
  exact ⟨rfl, h.below (bdrewN (Below.refl _ _) q)⟩
theorem FST.all (h : FST w0 base g bo bc bd bg k s w) (x : Int) (h3 : 0 ≤ x) (h4 : x ≤ 3000) : Calls Try.prog 62 #[.pointer (some ⟨g, 0, none⟩), .int .i64 x] w fun e w' => ∃ r : Bool, e = .returned (.bool r) ∧ (r = true ↔ allP s x) ∧ FST w0 base g bo bc bd bg k s w' := by
  refine (toAll_any h.tab x ⟨by omega, by omega⟩).mono ?_
  rintro e w' ⟨r, rfl, hr, hb⟩
  exact ⟨r, rfl, hr, h.below hb⟩
end
/-! ### the plain law: two that are open at once, no one between -/
structure Two (s : TS) (a b : Int) : Prop where
  oa : s.op a = some s.last
  ob : s.op b = some s.last
  ca : s.cm a = none
  cb : s.cm b = none
  fa : s.first ≤ a
  fb : s.first ≤ b
  na : a < s.next
  nb : b < s.next
  ne : a ≠ b
theorem placeB_new {s : TS} {x : Int} (h1 : s.cm x = none) (h2 : s.first ≤ x) : placeB s x = false := by
  unfold placeB oldB
  rw [h1, decide_eq_false (show ¬ x < s.first by omega)]
  simp
theorem two_new {s : TS} (ok : TOk s) (cml : ∀ x p, s.cm x = some p → x < s.next) : Two (begS (begS s)) s.next (s.next + 1) := by
  have c1 : s.cm s.next = none := by
    cases h : s.cm s.next with
    | none => rfl
    | some p => have := cml _ _ h; omega
  have c2 : s.cm (s.next + 1) = none := by
    cases h : s.cm (s.next + 1) with
    | none => rfl
    | some p => have := cml _ _ h; omega
  refine ⟨?_, ?_, c1, c2, ok.fn, ?_, ?_, ?_, ?_⟩
  · show updM (updM s.op s.next _) (s.next + 1) _ s.next = _
    unfold updM
    rw [if_neg (by omega), if_pos rfl]
    rfl
  · show updM (updM s.op s.next _) (s.next + 1) _ (s.next + 1) = _
    unfold updM
    rw [if_pos rfl]
    rfl
  · have := ok.fn; show s.first ≤ s.next + 1; omega
  · show s.next < s.next + 1 + 1; omega
  · show s.next + 1 < s.next + 1 + 1; omega
  · omega
theorem Two.swap {s : TS} {a b : Int} (h : Two s a b) : Two s b a := ⟨h.ob, h.oa, h.cb, h.ca, h.fb, h.fa, h.nb, h.na, h.ne.symm⟩
section
variable {s : TS} {a b : Int}
theorem Two.vis (h : Two s a b) : visB s a b = false := by
  unfold visB
  rw [h.oa]
  dsimp only
  rw [beq_eq_false_iff_ne.2 h.ne.symm, placeB_new h.cb h.fb]
  rfl
theorem Two.con (h : Two s a b) : conT s a b = 7 := by
  unfold conT
  rw [h.oa, h.ob, beq_eq_false_iff_ne.2 h.ne.symm]
  rfl
theorem Two.self (h : Two s a b) : conT s a a = 0 := by
  unfold conT
  rw [h.oa, placeB_new h.ca h.fa, beq_self_eq_true]
  rfl
/-- The first one commits. -/
theorem com_a (s : TS) (a : Int) : (comS s a).op a = none := by show updM _ _ _ a = _; unfold updM; rw [if_pos rfl]
theorem com_b (h : Two s a b) : (comS s a).op b = some s.last := by show updM _ _ _ b = _; unfold updM; rw [if_neg h.ne.symm]; exact h.ob
theorem com_c (s : TS) (a : Int) : (comS s a).cm a = some (s.last + 1) := by show updM _ _ _ a = _; unfold updM; rw [if_pos rfl]
theorem com_d (h : Two s a b) : (comS s a).cm b = none := by show updM _ _ _ b = _; unfold updM; rw [if_neg h.ne.symm]; exact h.cb
theorem placeB_yes {s : TS} {x p : Int} (h : s.cm x = some p) : placeB s x = true := by unfold placeB; rw [h]; rfl
theorem placeN_yes {s : TS} {x p : Int} (h : s.cm x = some p) : placeN s x = p := by unfold placeN; rw [h]; rfl
theorem Two.vis3 (h : Two s a b) : visB (comS s a) b a = false := by
  unfold visB
  rw [com_b h]
  dsimp only
  rw [beq_eq_false_iff_ne.2 h.ne, placeB_yes (com_c s a), placeN_yes (com_c s a), decide_eq_false (by omega)]
  rfl
theorem Two.con3 (h : Two s a b) : conT (comS s a) b a = 8 := by
  unfold conT
  rw [h.vis3, com_b h, com_a, placeB_yes (com_c s a), beq_eq_false_iff_ne.2 h.ne]
  rfl
/-- A third one begins behind it. -/
theorem beg_a (h : Two s a b) : (begS (comS s a)).op a = none := by show updM _ _ _ a = _; unfold updM; rw [if_neg (by show a ≠ s.next; have := h.na; omega)]; exact com_a s a
theorem beg_b (h : Two s a b) : (begS (comS s a)).op b = some s.last := by show updM _ _ _ b = _; unfold updM; rw [if_neg (by show b ≠ s.next; have := h.nb; omega)]; exact com_b h
theorem beg_c (s : TS) (a : Int) : (begS (comS s a)).op s.next = some (s.last + 1) := by show updM _ s.next _ s.next = _; unfold updM; rw [if_pos rfl]; rfl
theorem Two.vis4 (h : Two s a b) : visB (begS (comS s a)) s.next a = true := by
  have e : (begS (comS s a)).cm a = some (s.last + 1) := com_c s a
  unfold visB
  rw [beg_c]
  dsimp only
  rw [placeB_yes e, placeN_yes e, decide_eq_true (by omega), beq_eq_false_iff_ne.2 (by have := h.na; omega)]
  rfl
theorem Two.con4 (h : Two s a b) : conT (begS (comS s a)) s.next a = 0 := by
  unfold conT
  rw [h.vis4, beg_c, beg_a h, beq_eq_false_iff_ne.2 (by have := h.na; omega)]
  simp
theorem Two.all4 (h : Two s a b) (hb : wf64 b) : ¬ allP (begS (comS s a)) a := by
  rintro ⟨_, h2⟩
  have e : (begS (comS s a)).cm a = some (s.last + 1) := com_c s a
  have := h2 b s.last hb (beg_b h)
  rw [placeN_yes e] at this
  omega
/-- The other one is gone. -/
theorem abo_b (s : TS) (b : Int) : (aboS s b).op b = none := by show updM _ _ _ b = _; unfold updM; rw [if_pos rfl]
theorem abo_c (h : Two s a b) : (aboS (begS (comS s a)) b).op s.next = some (s.last + 1) := by show updM _ _ _ s.next = _; unfold updM; rw [if_neg (by have := h.nb; omega)]; exact beg_c s a
theorem Two.pl5 (h : Two s a b) : placeB (aboS (begS (comS s a)) b) b = false := placeB_new (show (comS s a).cm b = none from com_d h) h.fb
theorem Two.con5 (h : Two s a b) : conT (aboS (begS (comS s a)) b) s.next b = 0 := by
  unfold conT
  rw [abo_c h, abo_b, h.pl5, beq_eq_false_iff_ne.2 (by have := h.nb; omega)]
  rfl
theorem Two.vis5 (h : Two s a b) : visB (aboS (begS (comS s a)) b) s.next b = false := by
  unfold visB
  rw [abo_c h]
  dsimp only
  rw [h.pl5, beq_eq_false_iff_ne.2 (by have := h.nb; omega)]
  rfl
end
/-- The keys' first four. -/
theorem four {xs : List Int} (h : 4 ≤ xs.length) : ∃ a b c d t, xs = a :: b :: c :: d :: t := by
  match xs, h with
  | a :: b :: c :: d :: t, _ => exact ⟨a, b, c, d, t, rfl⟩
theorem abo_other {s : TS} {a x : Int} (h : x ≠ a) : (aboS s a).op x = s.op x := by show updM _ _ _ x = _; unfold updM; rw [if_neg h]
end Go.Proofs.Ytlfplcidgccgdaa.Y
