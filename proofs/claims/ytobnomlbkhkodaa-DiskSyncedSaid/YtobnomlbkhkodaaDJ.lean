/-
  DiskSynced: what the loops' rounds do to the four rows.
-/
import Derived.Test.YtobnomlbkhkodaaDH
import Derived.Test.YtobnomlbkhkodaaDE
set_option linter.unusedVariables false
set_option linter.unusedSimpArgs false
namespace Go.Proofs.Ytobnomlbkhkodaa.Y
open Go.RowKit

theorem RdT.below {w w1 : World} {A : Option Addr} {l : List Bool} (h : RdT w A l) (hb : Below w.heap.size w w1) : RdT w1 A l := by
  rcases h with h | ⟨b, o, e, hc⟩
  · exact .inl h
  · exact .inr ⟨b, o, e, fun j u hu => (hb.cell (World.block_lt_of_cell? w _ (hc j u hu))).trans (hc j u hu)⟩
theorem ob_foot {w : World} {B g gb : Nat} {ws : Value} {d : DS} (h : DiskAt w B g gb ws d) {t : TypeId} (he : t ≠ 97 ∧ t ≠ 23 ∧ t ≠ 106) {k : Nat} {cs : List Value} (ho : Ob w k t cs) : ¬ Foot g gb ws k := by
  intro hf
  have h3 : w.heap[k]? = some (.cells cs.toArray t (0, 0)) := ho
  rcases hf with rfl | rfl | hf
  · have h1 := h.obj
    unfold Ob at h1
    rw [h1] at h3
    injection h3 with h3
    injection h3 with _ h3
    exact he.1 h3.symm
  · obtain ⟨vals, hv, _⟩ := h.row
    unfold Ob at hv
    rw [hv] at h3
    injection h3 with h3
    injection h3 with _ h3
    exact he.2.1 h3.symm
  · obtain ⟨qs, h1, h2, _⟩ := h.wr
    obtain ⟨cur2, hc⟩ := row_at h2 hf
    rw [hc] at h3
    injection h3 with h3
    injection h3 with _ h3
    exact he.2.2 h3.symm
theorem BRow.form {w : World} {B : Nat} {v : Value} {L : List (List UInt8)} (h : BRow w B v L) : ∃ g off cap, v = .slice (some ⟨g, off, none⟩) L.length cap ∧ B ≤ g ∧ (∃ cur, w.heap[g]? = some (.cells cur 23 (0, 0))) ∧ L.length ≤ cap ∧ cap ≤ maxLen := by
  obtain ⟨vals, ⟨g, off, cap, cur, rfl, hb, hg, h1, h2, h3, h4⟩, hl, _⟩ := h
  rw [hl] at h1 ⊢
  exact ⟨g, off, cap, rfl, hb, ⟨cur, hg⟩, h1, h2⟩
theorem BRow.formN {w : World} {B : Nat} {v : Value} {L : List (List UInt8)} (h : BRow w B v L) : ∃ g off n cap, v = .slice (some ⟨g, off, none⟩) n cap ∧ n = L.length ∧ n ≤ cap ∧ cap ≤ maxLen := by
  obtain ⟨g, off, cap, e, _, _, h1, h2⟩ := h.form
  exact ⟨g, off, _, cap, e, rfl, h1, h2⟩
theorem BRow.at_ {w : World} {B : Nat} {v : Value} {L : List (List UInt8)} (h : BRow w B v L) {k : Nat} (hk : v.ownBlock = some k) : B ≤ k ∧ k < w.heap.size ∧ ∃ cur, w.heap[k]? = some (.cells cur 23 (0, 0)) := by
  obtain ⟨g, off, cap, rfl, hb, ⟨cur, hc⟩, _⟩ := h.form
  simp [Value.ownBlock] at hk
  subst hk
  exact ⟨hb, (Array.getElem?_eq_some_iff.1 hc).1, cur, hc⟩
theorem BRow.below {w w1 : World} {B : Nat} {v : Value} {L : List (List UInt8)} (h : BRow w B v L) (hb : Below w.heap.size w w1) : BRow w1 B v L := BRow.kept (Tch.below (S := fun _ => False) hb) h (fun _ _ q => q) (fun _ _ _ q => q)
theorem BRow.elem {w : World} {B g off n cap : Nat} {L : List (List UInt8)} (h : BRow w B (.slice (some ⟨g, off, none⟩) n cap) L) {j : Nat} {xs : List UInt8} (hj : L[j]? = some xs) :
    ∃ x, w.cell? ⟨g, off + j, none⟩ = some x ∧ Own w B x xs ∧ xs.length = 4096 := by
  obtain ⟨vals, h1, hl, h3⟩ := h
  have hlt : j < vals.length := by rw [hl]; exact (List.getElem?_eq_some_iff.1 hj).1
  have hx := List.getElem?_eq_getElem hlt
  obtain ⟨g', off', cap', e, _, _, _, _, hc⟩ := h1.cells
  injection e with e1 _ _
  injection e1 with e1
  injection e1 with e1 e4
  subst e1; subst e4
  exact ⟨_, hc j _ hx, h3 j _ _ hx hj⟩
theorem BRow.cutLast {w : World} {B g off n cap : Nat} {A : List (List UInt8)} {x : List UInt8} (h : BRow w B (.slice (some ⟨g, off, none⟩) n cap) (A ++ [x])) : n = A.length + 1 ∧ BRow w B (.slice (some ⟨g, off + A.length, none⟩) 1 (cap - A.length)) [x] := by
  obtain ⟨vals, h1, hl, h3⟩ := h
  have hn : n = vals.length := by
    obtain ⟨g', off', cap', e, _⟩ := h1.cells
    injection e
  subst hn
  have hl' : vals.length = A.length + 1 := by simpa using hl
  refine ⟨hl', vals.drop A.length, ?_, by simp [hl'], fun j y ys hy hys => ?_⟩
  · have := h1.cut (n := A.length) (by omega)
    rw [show vals.length - A.length = 1 by omega] at this
    exact this
  · match j, hys with
    | 0, hys =>
      injection hys with hys
      subst hys
      rw [List.getElem?_drop] at hy
      exact h3 _ _ _ hy (by simp)
    | (j + 1), hys => simp at hys
/-- What is not the disk's: the four rows. -/
theorem brow_foot {w : World} {Bd g gb B : Nat} {ws : Value} {d : DS} (hD : DiskAt w Bd g gb ws d) (hg : g < B) (hgb : gb < B) {v : Value} {L : List (List UInt8)} (h : BRow w B v L) : ∀ k, v.ownBlock = some k → ¬ Foot g gb ws k := by
  intro k hk hf
  obtain ⟨h1, h2, cur, h3⟩ := h.at_ hk
  rcases hf with rfl | rfl | hf
  · omega
  · omega
  · obtain ⟨qs, _, q2, _⟩ := hD.wr
    obtain ⟨cur2, hc⟩ := row_at q2 hf
    rw [hc] at h3
    injection h3 with h3
    injection h3 with _ h3
    exact absurd h3 (by decide)
theorem BRow.foot {w w1 : World} {Bd g gb B : Nat} {ws : Value} {d : DS} (hD : DiskAt w Bd g gb ws d) (hg : g < B) (hgb : gb < B) (ht : Tch (Foot g gb ws) w w1) {v : Value} {L : List (List UInt8)} (h : BRow w B v L) : BRow w1 B v L :=
  h.kept ht (brow_foot hD hg hgb h) (fun ho => own_foot hD ho)
theorem MRows.foot {w w1 : World} {Bd g gb B k : Nat} {ws : Value} {d : DS} {vs : List Value} {M : Nat → List (List UInt8)} (hD : DiskAt w Bd g gb ws d) (hg : g < B) (hgb : gb < B) (ht : Tch (Foot g gb ws) w w1) (h : MRows w B vs k M) : MRows w1 B vs k M :=
  ⟨fun b v hb hv => (h.row b v hb hv).foot hD hg hgb ht, h.apart⟩
theorem MRows.congr {w : World} {B k : Nat} {vs : List Value} {M M' : Nat → List (List UInt8)} (h : MRows w B vs k M) (he : ∀ b, b < k → M b = M' b) : MRows w B vs k M' :=
  ⟨fun b v hb hv => by rw [← he b hb]; exact h.row b v hb hv, h.apart⟩
theorem brow_other {w w1 : World} {B mA : Nat} (ht : Tch (fun j => j = mA) w w1) (hm : mA < B) {v : Value} {L : List (List UInt8)} (h : BRow w B v L) : BRow w1 B v L :=
  h.kept ht (fun k hk e => by have := (h.at_ hk).1; omega) (fun ho j hj e => by have := (World.ownsRow.lt ho j hj).1; omega)
/-- What stands while the rows are cut (behind a sync), or grow, or rest. -/
structure SR (g gb mA cb : Nat) (box : List Value) (Bd : Nat) (w : World) (D : DS) (ws : Value) (M : Nat → List (List UInt8)) (vs : List Value) : Prop where
  at_ : DiskAt w Bd g gb ws D
  arr : Ob w mA 61 vs
  vl : vs.length = 4
  rows : MRows w (mA + 1) vs 4 M
  crash : Ob w cb 56 box
  lg : g < mA
  lgb : gb < mA
  ne : cb ≠ mA
section
variable {g gb mA cb : Nat} {box : List Value} {Bd : Nat} {w : World} {D : DS} {ws : Value} {M : Nat → List (List UInt8)} {vs : List Value}
theorem SR.below {w1 : World} (h : SR g gb mA cb box Bd w D ws M vs) (hb : Below w.heap.size w w1) : SR g gb mA cb box Bd w1 D ws M vs :=
  ⟨h.at_.below hb, h.arr.below hb, h.vl, h.rows.below hb, h.crash.below hb, h.lg, h.lgb, h.ne⟩
theorem SR.foot {w1 : World} {D1 : DS} {ws1 : Value} (h : SR g gb mA cb box Bd w D ws M vs) (hd : DiskAt w1 Bd g gb ws1 D1) (ht : Tch (Foot g gb ws) w w1) : SR g gb mA cb box Bd w1 D1 ws1 M vs :=
  ⟨hd, ht.ob h.arr (ob_foot h.at_ (by decide) h.arr), h.vl, h.rows.foot h.at_ (by have := h.lg; omega) (by have := h.lgb; omega) ht, ht.ob h.crash (ob_foot h.at_ (by decide) h.crash), h.lg, h.lgb, h.ne⟩
theorem SR.at4 (h : SR g gb mA cb box Bd w D ws M vs) {b : Nat} (hb : b < 4) : ∃ v, vs[b]? = some v ∧ BRow w (mA + 1) v (M b) := by
  have hlt : b < vs.length := by rw [h.vl]; exact hb
  exact ⟨_, List.getElem?_eq_getElem hlt, h.rows.row b _ hb (List.getElem?_eq_getElem hlt)⟩
theorem SR.congr {M' : Nat → List (List UInt8)} (h : SR g gb mA cb box Bd w D ws M vs) (he : ∀ b, b < 4 → M b = M' b) : SR g gb mA cb box Bd w D ws M' vs :=
  ⟨h.at_, h.arr, h.vl, h.rows.congr he, h.crash, h.lg, h.lgb, h.ne⟩
/-- One of the array's values is set. -/
theorem SR.put {b : Nat} {x : Value} {M' : Nat → List (List UInt8)} (h : SR g gb mA cb box Bd w D ws M vs) (hb : b < 4) (hx : BRow w (mA + 1) x (M' b)) (hM : ∀ c, c ≠ b → M' c = M c)
    (ha : ∀ (c : Nat) v, c < 4 → c ≠ b → vs[c]? = some v → x.ownBlock ≠ v.ownBlock) : SR g gb mA cb box Bd (w.setCell ⟨mA, b, none⟩ x) D ws M' (vs.set b x) := by
  have ht : Tch (fun j => j = mA) w (w.setCell ⟨mA, b, none⟩ x) := (Tch.refl _ _).grown (set_grown _ _ _ _) (fun j e => .inl (by injection e with e; exact e.symm))
  have hr := h.rows.set (k' := 4) hx (fun c hc => .inr hc) hM ha
  refine ⟨h.at_.keep ht (fun k hf e => ob_foot h.at_ (by decide) h.arr (e ▸ hf)) (fun ho k hk e => ?_), h.arr.set b x, by rw [List.length_set]; exact h.vl, ⟨fun c v hc hv => brow_other ht (by omega) (hr.row c v hc hv), hr.apart⟩, ht.ob h.crash h.ne, h.lg, h.lgb, h.ne⟩
  obtain ⟨cur, hc⟩ := row_at ho hk
  have h3 : w.heap[mA]? = some (.cells vs.toArray 61 (0, 0)) := h.arr
  rw [e, h3] at hc
  injection hc with hc
  injection hc with _ hc
  exact absurd hc (by decide)
/-- Behind a sync: a row is cut to its last one. -/
def cutM (D : DS) (M : Nat → List (List UInt8)) (b c : Nat) : List (List UInt8) := if c < b then [readV D c] else M c
theorem SR.cut {D0 : DS} {b : Nat} (h : SR g gb mA cb box Bd w D ws (cutM D0 M b) vs) (hb : b < 4) (hl : ∃ A, M b = A ++ [readV D0 b]) :
    ∃ g9 off n cap, vs[b]? = some (.slice (some ⟨g9, off, none⟩) (n + 1) cap) ∧ n + 1 = (M b).length ∧ n + 1 ≤ cap ∧ cap ≤ maxLen ∧ SR g gb mA cb box Bd (w.setCell ⟨mA, b, none⟩ (.slice (some ⟨g9, off + n, none⟩) 1 (cap - n))) D ws (cutM D0 M (b + 1)) (vs.set b (.slice (some ⟨g9, off + n, none⟩) 1 (cap - n))) := by
  obtain ⟨v, hv, hr⟩ := h.at4 hb
  obtain ⟨A, hA⟩ := hl
  have e : cutM D0 M b b = A ++ [readV D0 b] := by unfold cutM; rw [if_neg (by omega), hA]
  rw [e] at hr
  obtain ⟨g9, off, cap, rfl, hB, hcur, hn, hm⟩ := hr.form
  obtain ⟨hn2, hc⟩ := hr.cutLast
  have hlen : (A ++ [readV D0 b]).length = A.length + 1 := by simp
  rw [hlen] at hv hn
  refine ⟨g9, off, A.length, cap, hv, by rw [hA]; exact hlen.symm, hn, hm, h.put hb ?_ (fun c hc => ?_) (fun c u hc hne hu => ?_)⟩
  · show BRow _ _ _ (cutM D0 M (b + 1) b)
    unfold cutM
    rw [if_pos (by omega)]
    exact hc
  · unfold cutM
    by_cases h1 : c < b
    · rw [if_pos (by omega), if_pos h1]
    · rw [if_neg (by omega), if_neg h1]
  · have := h.rows.apart b c _ _ hb hc (Ne.symm hne) hv hu
    exact this
/-- Bytes do not lie in a row of slices. -/
theorem own_brow {w : World} {B B' : Nat} {v u : Value} {L : List (List UInt8)} {xs : List UInt8} (h : BRow w B v L) (ho : Own w B' u xs) : ∀ k, u.ownBlock = some k → ¬ v.ownBlock = some k := by
  intro k hk hv
  obtain ⟨_, _, cur, h3⟩ := h.at_ hv
  obtain ⟨cur2, h4⟩ := row_at ho hk
  rw [h3] at h4
  injection h4 with h4
  injection h4 with _ h4
  exact absurd h4 (by decide)
/-- How a grown row stands to an elder one that it began as. -/
def Lk (v0 : Value) (n0 : Nat) (v : Value) : Prop := (∃ g off cap n, v0 = .slice (some ⟨g, off, none⟩) n0 cap ∧ v = .slice (some ⟨g, off, none⟩) n cap ∧ n0 ≤ n) ∨ v0.ownBlock ≠ v.ownBlock
/-- A row of the four grows by one. -/
theorem SR.grown {b : Nat} {v v' x : Value} {vals : List Value} {xs : List UInt8} {w' : World} (h : SR g gb mA cb box Bd w D ws M vs) (hb : b < 4) (hv : vs[b]? = some v) (hrow : RowO w (mA + 1) 23 v vals) (hvl : vals.length = (M b).length)
    (hel : ∀ (j : Nat) x xs, vals[j]? = some x → (M b)[j]? = some xs → Own w (mA + 1) x xs ∧ xs.length = 4096) (hx : Own w (mA + 1) x xs) (hxl : xs.length = 4096)
    (hr' : RowO w' (mA + 1) 23 v' (vals ++ [x])) (hg : w.grownBy w' v.ownBlock) (hf : (∃ g off cap, v = .slice (some ⟨g, off, none⟩) vals.length cap ∧ v' = .slice (some ⟨g, off, none⟩) (vals.length + 1) cap) ∨ v'.ownBlock = some w.heap.size)
    (hp : ∀ g off cap n, v = .slice (some ⟨g, off, none⟩) vals.length cap → n ≤ vals.length → RowO w' (mA + 1) 23 (.slice (some ⟨g, off, none⟩) n cap) (vals.take n)) :
    SR g gb mA cb box Bd w' D ws M vs ∧ BRow w' (mA + 1) v' (M b ++ [xs]) ∧ (∀ (c : Nat) u, c < 4 → c ≠ b → vs[c]? = some u → v'.ownBlock ≠ u.ownBlock) ∧ Tch (fun j => v.ownBlock = some j) w w' ∧
      ∀ (v0 : Value) (L0 : List (List UInt8)) (T : List (List UInt8)), M b = L0 ++ T → BRow w (mA + 1) v0 L0 → Lk v0 L0.length v → BRow w' (mA + 1) v0 L0 ∧ Lk v0 L0.length v' ∧ ∀ (g off cap j : Nat) u, v0 = .slice (some ⟨g, off, none⟩) L0.length cap → j < L0.length → w.cell? ⟨g, off + j, none⟩ = some u → w'.cell? ⟨g, off + j, none⟩ = some u := by
  have hbr : BRow w (mA + 1) v (M b) := ⟨vals, hrow, hvl, hel⟩
  have ht : Tch (fun j => v.ownBlock = some j) w w' := (Tch.refl _ _).grown hg (fun j e => .inl e)
  have lg := h.lg
  have lgb := h.lgb
  have hfoot := brow_foot h.at_ (show g < mA + 1 by omega) (show gb < mA + 1 by omega) hbr
  have hown : ∀ {B' : Nat} {u : Value} {ys : List UInt8}, Own w B' u ys → ∀ k, u.ownBlock = some k → ¬ v.ownBlock = some k := fun ho => own_brow hbr ho
  have hlow : ∀ k, v.ownBlock = some k → mA + 1 ≤ k ∧ k < w.heap.size := fun k hk => ⟨(hbr.at_ hk).1, (hbr.at_ hk).2.1⟩
  have hcb : ¬ v.ownBlock = some cb := by
    intro e
    obtain ⟨_, _, cur, h3⟩ := hbr.at_ e
    have h4 : w.heap[cb]? = some (.cells box.toArray 56 (0, 0)) := h.crash
    rw [h3] at h4
    injection h4 with h4
    injection h4 with _ h4
    exact absurd h4 (by decide)
  have hself : BRow w' (mA + 1) v (M b) := by
    obtain ⟨g9, off, cap, e, _⟩ := hrow.cells
    have := hp g9 off cap vals.length e (Nat.le_refl _)
    rw [List.take_length] at this
    refine ⟨vals, by rw [e]; exact this, hvl, fun j y ys hy hys => ?_⟩
    obtain ⟨q1, q2⟩ := hel j y ys hy hys
    exact ⟨ht.own q1 (hown q1), q2⟩
  refine ⟨⟨h.at_.keep ht (fun k hf hS => hfoot k hS hf) hown, ht.ob h.arr (fun e => by have := (hlow _ e).1; omega), h.vl, ⟨fun c u hc hu => ?_, h.rows.apart⟩, ht.ob h.crash hcb, h.lg, h.lgb, h.ne⟩, ⟨vals ++ [x], hr', by simp [hvl], fun j y ys hy hys => ?_⟩, fun c u hc hne hu => ?_, ht, fun v0 L0 T hM h0 hl => ?_⟩
  · by_cases hcb : c = b
    · subst hcb
      rw [hv] at hu
      injection hu with hu
      subst hu
      exact hself
    · exact (h.rows.row c u hc hu).kept ht (fun k hk e => h.rows.apart c b u v hc hb hcb hu hv (hk.trans e.symm)) hown
  · rw [List.getElem?_append] at hy hys
    rw [hvl] at hy
    split at hys
    · rename_i hlt
      rw [if_pos hlt] at hy
      obtain ⟨q1, q2⟩ := hel j y ys hy hys
      exact ⟨ht.own q1 (hown q1), q2⟩
    · rename_i hlt
      rw [if_neg hlt] at hy
      have : j - (M b).length = 0 := by have := (List.getElem?_eq_some_iff.1 hy).1; simp at this; omega
      rw [this] at hy hys
      injection hy with hy
      injection hys with hys
      subst hy; subst hys
      exact ⟨ht.own hx (hown hx), hxl⟩
  · have ha := h.rows.apart b c v u hb hc (Ne.symm hne) hv hu
    rcases hf with ⟨g9, off, cap, e1, e2⟩ | hf
    · rw [e2]
      rw [e1] at ha
      exact ha
    · rw [hf]
      intro e
      have := (h.rows.row c u hc hu).at_ e.symm
      omega
  · rcases hl with ⟨g9, off, cap, n, e0, e1, hn⟩ | hne
    · subst e0
      have hn2 : n = vals.length := by
        obtain ⟨g', off', cap', e, _⟩ := hrow.cells
        rw [e1] at e
        injection e
      subst hn2
      have hp' := hp g9 off cap L0.length e1 hn
      refine ⟨⟨vals.take L0.length, hp', by rw [List.length_take]; omega, fun j y ys hy hys => ?_⟩, ?_⟩
      · rw [List.getElem?_take_of_lt (List.getElem?_eq_some_iff.1 hys).1] at hy
        obtain ⟨q1, q2⟩ := hel j y ys hy (by rw [hM, List.getElem?_append_left (List.getElem?_eq_some_iff.1 hys).1]; exact hys)
        exact ⟨ht.own q1 (hown q1), q2⟩
      · refine ⟨?_, fun g7 off7 cap7 j u e7 hj hu => ?_⟩
        rotate_left
        · injection e7 with e7 _ _
          injection e7 with e7
          injection e7 with e7 e8
          subst e7; subst e8
          obtain ⟨g6, off6, cap6, e6, _, _, _, _, hc6⟩ := hrow.cells
          rw [e1] at e6
          injection e6 with e6 _ _
          injection e6 with e6
          injection e6 with e6 e5
          subst e6; subst e5
          obtain ⟨g6, off6, cap6, e6, _, _, _, _, hc7⟩ := hp'.cells
          injection e6 with e6 _ _
          injection e6 with e6
          injection e6 with e6 e5
          subst e6; subst e5
          have hx6 := List.getElem?_eq_getElem (l := vals) (i := j) (by omega)
          have h6 := hc6 j _ hx6
          rw [hu] at h6
          injection h6 with h6
          rw [h6]
          exact hc7 j _ (by rw [List.getElem?_take_of_lt hj]; exact hx6)
        rcases hf with ⟨g8, off8, cap8, e3, e4⟩ | hf
        · rw [e1] at e3
          injection e3 with e3 _ e5
          injection e3 with e3
          injection e3 with e3 e6
          subst e3; subst e5; subst e6
          exact .inl ⟨g9, off, cap, _, rfl, e4, by omega⟩
        · refine .inr ?_
          rw [hf]
          intro e
          have := (h0.at_ e).2.1
          omega
    · refine ⟨h0.kept ht (fun k hk e => hne (hk.trans e.symm)) (fun ho => own_brow hbr ho), .inr ?_, fun g7 off7 cap7 j u e7 hj hu => (cell_block (ht.block g7 (World.block_lt_of_cell? w _ hu) (fun e => hne (by rw [e7]; exact e.symm))) _).trans hu⟩
      rcases hf with ⟨g8, off8, cap8, e3, e4⟩ | hf
      · rw [e4]
        rw [e3] at hne
        exact hne
      · rw [hf]
        intro e
        have := (h0.at_ e).2.1
        omega
theorem SI.sr {keep : List Bool} {torn : Int} {ct k : Nat} {nv : Value} (h : SI keep torn ct Bd g gb mA cb k box nv w D ws M vs) (lg : g < mA) (lgb : gb < mA) (ne : cb ≠ mA) : SR g gb mA cb box Bd w D ws M vs :=
  ⟨h.at_, h.arr, h.vl, h.rows, h.crash, lg, lgb, ne⟩
theorem SR.si {keep : List Bool} {torn : Int} {ct k : Nat} {nv : Value} (h : SR g gb mA cb box Bd w D ws M vs) (hc : Calm D) (h4 : D.blocks.length = 4) (hn : nv = .int .i64 D.writes.length) (hf : D.writes.length ≤ k) (hm : SModel keep torn ct D M) (hl : ∀ b, b < 4 → (M b).length < 2 ^ (k + 1)) : SI keep torn ct Bd g gb mA cb k box nv w D ws M vs :=
  ⟨h.at_, hc, h4, hn, hf, hm, h.arr, h.vl, h.rows, hl, h.crash⟩
/-- The row of block b while the torn ones are laid behind it. -/
def tornM (M : Nat → List (List UInt8)) (b : Nat) (L : List UInt8) (ct k c : Nat) : List (List UInt8) := if c = b then M b ++ ((M b).take k).map (fun old => tornL old L ct) else M c
theorem tornM_zero (M : Nat → List (List UInt8)) (b : Nat) (L : List UInt8) (ct c : Nat) : tornM M b L ct 0 c = M c := by
  unfold tornM
  split
  · rename_i h; subst h; simp
  · rfl
theorem tornM_self (M : Nat → List (List UInt8)) (b : Nat) (L : List UInt8) (ct k : Nat) : tornM M b L ct k b = M b ++ ((M b).take k).map (fun old => tornL old L ct) := by
  unfold tornM
  rw [if_pos rfl]
theorem tornM_succ {M : Nat → List (List UInt8)} {b : Nat} {L : List UInt8} {ct k : Nat} {old : List UInt8} (h : (M b)[k]? = some old) : tornM M b L ct (k + 1) b = tornM M b L ct k b ++ [tornL old L ct] := by
  rw [tornM_self, tornM_self, List.take_add_one, h]
  simp
theorem tornM_other {M : Nat → List (List UInt8)} {b : Nat} {L : List UInt8} {ct k c : Nat} (h : c ≠ b) : tornM M b L ct k c = M c := by
  unfold tornM
  rw [if_neg h]
theorem growM_len {torn : Int} {ct n k b0 : Nat} {M : Nat → List (List UInt8)} {w : List UInt8} (h : ∀ b, b < 4 → (M b).length < 2 ^ (k + 1)) : ∀ b, b < 4 → (growM torn ct n M b0 w b).length < 2 ^ (k + 1 + 1) := by
  intro b hb
  have h1 := h b hb
  rw [Nat.pow_succ 2 (k + 1)]
  unfold growM
  split
  · split <;> simp <;> omega
  · omega
theorem growM_other {torn : Int} {ct n b0 c : Nat} {M : Nat → List (List UInt8)} {w : List UInt8} (h : c ≠ b0) : growM torn ct n M b0 w c = M c := by
  unfold growM
  rw [if_neg h]
theorem growM_plain {torn : Int} {ct n b0 : Nat} {M : Nat → List (List UInt8)} {w : List UInt8} (h : ¬ (n : Int) = torn) : growM torn ct n M b0 w b0 = M b0 ++ [w] := by
  unfold growM
  rw [if_pos rfl, if_neg h, List.nil_append]
theorem growM_torn {torn : Int} {ct n b0 n0 : Nat} {M : Nat → List (List UInt8)} {w : List UInt8} (h : (n : Int) = torn) (h0 : n0 = (M b0).length) : growM torn ct n M b0 w b0 = tornM M b0 w ct n0 b0 ++ [w] := by
  unfold growM
  rw [if_pos rfl, if_pos h, tornM_self, List.take_of_length_le (by omega), List.append_assoc]
/-- Is one of the first j ones this one? -/
def fndB (xs : List UInt8) (L : List (List UInt8)) (j : Nat) : Bool := (L.take j).any (fun y => eqB xs y)
theorem fndB_succ {xs ys : List UInt8} {L : List (List UInt8)} {j : Nat} (h : L[j]? = some ys) : fndB xs L (j + 1) = (fndB xs L j || eqB xs ys) := by
  unfold fndB
  rw [List.take_add_one, h]
  simp
theorem fndB_all {xs : List UInt8} {L : List (List UInt8)} {j : Nat} (h : xs ∈ L) (hj : L.length ≤ j) : fndB xs L j = true := by
  unfold fndB
  rw [List.take_of_length_le hj, List.any_eq_true]
  exact ⟨xs, h, eqB_self xs⟩
end
end Go.Proofs.Ytobnomlbkhkodaa.Y
