/-
  Lists of bytes on blocks of their own: written, grown, read (for chancerylow.ApartBytes).
-/
import Derived.Test.YtobnomlbkhkodaaYT
import Derived.Test.YtobnomlbkhkodaaYW
import Derived.Test.YtobnomlbkhkodaaD1
set_option linter.unusedVariables false
set_option linter.unusedSimpArgs false
namespace Go.Proofs.Ytobnomlbkhkodaa.Y
open Go.RowKit

theorem RowO.stored {w : World} {B g off n cap : Nat} {e : TypeId} {xs : List Value} (h : RowO w B e (.slice (some ⟨g, off, none⟩) n cap) xs) (j : Nat) (x : Value) : RowO (w.setCell ⟨g, off + j, none⟩ x) B e (.slice (some ⟨g, off, none⟩) n cap) (xs.set j x) := by
  obtain ⟨g', off', cap', cur, e1, hb, hg, h1, h2, h3, h4⟩ := h
  injection e1 with e1 e2 e3
  injection e1 with e1
  injection e1 with e1 e4
  subst e1; subst e4; subst e3
  refine ⟨g, off, cap, cur.setIfInBounds (off + j) x, by rw [List.length_set, e2], hb, ?_, by rw [List.length_set]; exact h1, h2, by simpa using h3, ?_⟩
  · simp only [World.setCell, Array.getElem?_modify]
    simp [hg]
  · rw [List.length_set, Array.toList_setIfInBounds, List.drop_set, if_neg (by omega), Nat.add_sub_cancel_left, List.take_set, h4]
theorem RowO.ofOwn {w : World} {B : Nat} {v : Value} {xs : List UInt8} (h : Own w B v xs) (hn : v ≠ .slice none 0 0) : RowO w B 5 v (bvs xs) := by
  rcases h.2 with ⟨e, _⟩ | ⟨g, cap, cur, e, hb, hg, h1, h2, h3, h4⟩
  · exact absurd e hn
  · refine ⟨g, 0, cap, cur, by rw [bvs_length]; exact e, hb, hg, by rw [bvs_length]; exact h1, h2, ?_, ?_⟩
    · simpa using h3.symm
    · simpa [bvs_length] using h4
theorem RowO.rd {w : World} {B g off n cap : Nat} {xs : List UInt8} (h : RowO w B 5 (.slice (some ⟨g, off, none⟩) n cap) (bvs xs)) : Rd w (some ⟨g, off, none⟩) xs ∧ xs.length = n ∧ n ≤ cap ∧ cap ≤ maxLen := by
  obtain ⟨g', off', cap', e1, _, _, h1, h2, hc⟩ := h.cells
  rw [bvs_length] at h1
  injection e1 with e1 e2 e3
  injection e1 with e1
  injection e1 with e1 e4
  subst e1; subst e4; subst e3
  rw [bvs_length] at e2
  subst e2
  exact ⟨.inr ⟨g, off, rfl, fun j u hu => hc j _ (by rw [bvs_get, hu]; rfl)⟩, rfl, h1, h2⟩
theorem RowO.frozen {w : World} {B g off n cap : Nat} {e : TypeId} {xs : List Value} (h : RowO w B e (.slice (some ⟨g, off, none⟩) n cap) xs) (j : Nat) : w.frozen? ⟨g, j, none⟩ = false := by
  obtain ⟨cur, hc⟩ := h.at_ (g := g) rfl
  simp [World.frozen?, hc]
theorem RowO.lt {w : World} {B : Nat} {e : TypeId} {v : Value} {xs : List Value} (h : RowO w B e v xs) {k : Nat} (hk : v.ownBlock = some k) : B ≤ k ∧ k < w.heap.size := by
  obtain ⟨g, off, cap, rfl, hb, hl, _⟩ := h.cells
  simp [Value.ownBlock] at hk
  subst hk
  exact ⟨hb, hl⟩
theorem RowO.form {w : World} {B : Nat} {v : Value} {xs : List UInt8} (h : RowO w B 5 v (bvs xs)) : ∃ g off cap, v = .slice (some ⟨g, off, none⟩) xs.length cap ∧ B ≤ g ∧ g < w.heap.size ∧ xs.length ≤ cap ∧ cap ≤ maxLen := by
  obtain ⟨g, off, cap, e, h1, h2, h3, h4, _⟩ := h.cells
  rw [bvs_length] at e h3
  exact ⟨g, off, cap, e, h1, h2, h3, h4⟩
/-- What the j-th list, and what was grown out of it, lie in. -/
def fam (vs gv : List Value) (j b : Nat) : Prop := (∃ v, vs[j]? = some v ∧ v.ownBlock = some b) ∨ ∃ v, gv[j]? = some v ∧ v.ownBlock = some b
/-- Lists on blocks of their own, and the first k of them grown. -/
structure AG (w : World) (B m k : Nat) (vs gv : List Value) (X Y : Nat → List UInt8) : Prop where
  nv : vs.length = m
  ng : gv.length = m
  row : ∀ (j : Nat) v, vs[j]? = some v → RowO w B 5 v (bvs (X j))
  grow : ∀ (j : Nat) v, j < k → gv[j]? = some v → RowO w B 5 v (bvs (Y j))
  rest : ∀ (j : Nat) v, k ≤ j → gv[j]? = some v → v.ownBlock = none
  apart : ∀ (i j b : Nat), i ≠ j → fam vs gv i b → ¬ fam vs gv j b
section
variable {w : World} {B m k : Nat} {vs gv : List Value} {X Y : Nat → List UInt8}
theorem AG.congr {X' Y' : Nat → List UInt8} (h : AG w B m k vs gv X Y) (hX : ∀ j, j < m → X j = X' j) (hY : ∀ j, j < k → j < m → Y j = Y' j) : AG w B m k vs gv X' Y' :=
  ⟨h.nv, h.ng, fun j v hv => by rw [← hX j (by rw [← h.nv]; exact (List.getElem?_eq_some_iff.1 hv).1)]; exact h.row j v hv, fun j v hj hv => by rw [← hY j hj (by rw [← h.ng]; exact (List.getElem?_eq_some_iff.1 hv).1)]; exact h.grow j v hj hv, h.rest, h.apart⟩
theorem AG.tch {w1 : World} {S : Nat → Prop} (h : AG w B m k vs gv X Y) (ht : Tch S w w1) (hs : ∀ j b, fam vs gv j b → ¬ S b) : AG w1 B m k vs gv X Y :=
  ⟨h.nv, h.ng, fun j v hv => (h.row j v hv).kept (fun b hb => ht.block b ((h.row j v hv).lt hb).2 (hs j b (.inl ⟨v, hv, hb⟩))),
    fun j v hj hv => (h.grow j v hj hv).kept (fun b hb => ht.block b ((h.grow j v hj hv).lt hb).2 (hs j b (.inr ⟨v, hv, hb⟩))), h.rest, h.apart⟩
theorem AG.below {w1 : World} (h : AG w B m k vs gv X Y) (hb : Below w.heap.size w w1) : AG w1 B m k vs gv X Y := h.tch (Tch.below (S := fun _ => False) hb) (fun _ _ _ q => q)
theorem AG.lt (h : AG w B m k vs gv X Y) {j b : Nat} (hf : fam vs gv j b) : B ≤ b ∧ b < w.heap.size := by
  rcases hf with ⟨v, hv, hb⟩ | ⟨v, hv, hb⟩
  · exact (h.row j v hv).lt hb
  · by_cases hj : j < k
    · exact (h.grow j v hj hv).lt hb
    · rw [h.rest j v (by omega) hv] at hb
      cases hb
/-- A byte of list i is set (nothing is grown yet). -/
theorem AG.store (h : AG w B m 0 vs gv X Y) {i g off n cap : Nat} (hv : vs[i]? = some (.slice (some ⟨g, off, none⟩) n cap)) (j : Nat) (x : UInt8) :
    AG (w.setCell ⟨g, off + j, none⟩ (bv x)) B m 0 vs gv (fun c => if c = i then (X i).set j x else X c) Y := by
  have ht : Tch (fun b => b = g) w (w.setCell ⟨g, off + j, none⟩ (bv x)) := (Tch.refl _ _).grown (set_grown _ _ _ _) (fun j e => .inl (by injection e with e; exact e.symm))
  refine ⟨h.nv, h.ng, fun c v hc => ?_, fun c v hc => absurd hc (Nat.not_lt_zero _), h.rest, h.apart⟩
  by_cases hci : c = i
  · subst hci
    rw [hv] at hc
    injection hc with hc
    subst hc
    rw [if_pos rfl]
    have := (h.row c _ hv).stored j (bv x)
    rwa [show bvs ((X c).set j x) = (bvs (X c)).set j (bv x) from by simp [bvs, List.map_set]]
  · rw [if_neg hci]
    refine (h.row c v hc).kept (fun b hb => ht.block b ((h.row c v hc).lt hb).2 (fun e => ?_))
    exact h.apart c i b hci (.inl ⟨v, hc, hb⟩) (.inl ⟨_, hv, by rw [e]; rfl⟩)
end
/-- While list k grows: what it has become. -/
structure AK (w : World) (B m k : Nat) (vs gv : List Value) (X Y : Nat → List UInt8) (u : Value) (Z : List UInt8) : Prop extends AG w B m k vs gv X Y where
  cur : RowO w B 5 u (bvs Z)
  off : ∀ (j b : Nat), j ≠ k → fam vs gv j b → u.ownBlock ≠ some b
  pre : ∀ v, vs[k]? = some v → (∃ g o c, v = .slice (some ⟨g, o, none⟩) (X k).length c ∧ u = .slice (some ⟨g, o, none⟩) Z.length c ∧ ∃ T, Z = X k ++ T) ∨ v.ownBlock ≠ u.ownBlock
section
variable {w : World} {B m k : Nat} {vs gv : List Value} {X Y : Nat → List UInt8} {u : Value} {Z : List UInt8}
theorem AG.begin (h : AG w B m k vs gv X Y) {v : Value} (hv : vs[k]? = some v) : AK w B m k vs gv X Y v (X k) := by
  refine ⟨h, h.row k v hv, fun j b hj hf e => h.apart j k b hj hf (.inl ⟨v, hv, e⟩), fun v' hv' => ?_⟩
  rw [hv] at hv'
  injection hv' with hv'
  subst hv'
  obtain ⟨g, o, c, e, _⟩ := (h.row k v hv).form
  exact .inl ⟨g, o, c, e, e, [], by simp⟩
theorem AK.below {w1 : World} (h : AK w B m k vs gv X Y u Z) (hb : Below w.heap.size w w1) : AK w1 B m k vs gv X Y u Z :=
  ⟨h.toAG.below hb, h.cur.kept (fun b hk => hb.block b (h.cur.lt hk).2), h.off, h.pre⟩
theorem AK.tch {w1 : World} {S : Nat → Prop} (h : AK w B m k vs gv X Y u Z) (ht : Tch S w w1) (hs : ∀ b, B ≤ b → ¬ S b) : AK w1 B m k vs gv X Y u Z :=
  ⟨h.toAG.tch ht (fun j b hf => hs b (h.toAG.lt hf).1), h.cur.kept (fun b hk => ht.block b (h.cur.lt hk).2 (hs b (h.cur.lt hk).1)), h.off, h.pre⟩
/-- One byte more. -/
theorem AK.step (h : AK w B m k vs gv X Y u Z) {w' : World} {u' : Value} (x : UInt8) (hr' : RowO w' B 5 u' (bvs Z ++ [bv x])) (hg : w.grownBy w' u.ownBlock)
    (hf : (∃ g off cap, u = .slice (some ⟨g, off, none⟩) (bvs Z).length cap ∧ u' = .slice (some ⟨g, off, none⟩) ((bvs Z).length + 1) cap) ∨ u'.ownBlock = some w.heap.size)
    (hp : ∀ g off cap n, u = .slice (some ⟨g, off, none⟩) (bvs Z).length cap → n ≤ (bvs Z).length → RowO w' B 5 (.slice (some ⟨g, off, none⟩) n cap) ((bvs Z).take n)) :
    AK w' B m k vs gv X Y u' (Z ++ [x]) ∧ Tch (fun b => u.ownBlock = some b) w w' := by
  have ht : Tch (fun b => u.ownBlock = some b) w w' := (Tch.refl _ _).grown hg (fun j e => .inl e)
  have hnew : ∀ j b, fam vs gv j b → u'.ownBlock = some w.heap.size → u'.ownBlock ≠ some b := fun j b hf e e2 => by
    rw [e] at e2
    injection e2 with e2
    have := (h.toAG.lt hf).2
    omega
  refine ⟨⟨⟨h.nv, h.ng, fun j v hv => ?_, fun j v hj hv => (h.grow j v hj hv).kept (fun b hb => ht.block b ((h.grow j v hj hv).lt hb).2 (fun e => h.off j b (by omega) (.inr ⟨v, hv, hb⟩) e)), h.rest, h.apart⟩, by rw [bvs_append]; exact hr', fun j b hj hfm => ?_, fun v hv => ?_⟩, ht⟩
  · by_cases hj : j = k
    · subst hj
      rcases h.pre v hv with ⟨g, o, c, e1, e2, T, hT⟩ | hne
      · have := hp g o c (X j).length (by rw [bvs_length]; exact e2) (by rw [bvs_length, hT]; simp)
        rw [e1]
        rw [show (bvs Z).take (X j).length = bvs (X j) from by rw [hT, bvs_append, List.take_append_of_le_length (by rw [bvs_length]; exact Nat.le_refl _), List.take_of_length_le (by rw [bvs_length]; exact Nat.le_refl _)]] at this
        exact this
      · exact (h.row j v hv).kept (fun b hb => ht.block b ((h.row j v hv).lt hb).2 (fun e => hne (hb.trans e.symm)))
    · exact (h.row j v hv).kept (fun b hb => ht.block b ((h.row j v hv).lt hb).2 (fun e => h.off j b hj (.inl ⟨v, hv, hb⟩) e))
  · rcases hf with ⟨g, o, c, e1, e2⟩ | hf
    · have := h.off j b hj hfm
      rw [e1] at this
      rw [e2]
      exact this
    · exact hnew j b hfm hf
  · rcases hf with ⟨g, o, c, e1, e2⟩ | hf
    · rcases h.pre v hv with ⟨g', o', c', q1, q2, T, hT⟩ | hne
      · rw [e1] at q2
        injection q2 with q2 _ q3
        injection q2 with q2
        injection q2 with q2 q4
        subst q2; subst q3; subst q4
        exact .inl ⟨g, o, c, q1, by rw [e2, bvs_length]; simp, T ++ [x], by rw [hT, List.append_assoc]⟩
      · refine .inr ?_
        rw [e2]
        rw [e1] at hne
        exact hne
    · refine .inr (fun e => ?_)
      exact hnew k w.heap.size (.inl ⟨v, hv, e.trans hf⟩) hf hf
/-- List k is through. -/
theorem AK.done (h : AK w B m k vs gv X Y u Z) (hk : k < m) : AG w B m (k + 1) vs (gv.set k u) X (fun c => if c = k then Z else Y c) := by
  have hself : (gv.set k u)[k]? = some u := List.getElem?_set_self (by rw [h.ng]; exact hk)
  have hfam : ∀ j b, fam vs (gv.set k u) j b → fam vs gv j b ∨ (j = k ∧ u.ownBlock = some b) := by
    intro j b hf
    rcases hf with hf | ⟨v, hv, hb⟩
    · exact .inl (.inl hf)
    · by_cases hj : j = k
      · subst hj
        rw [hself] at hv
        injection hv with hv
        subst hv
        exact .inr ⟨rfl, hb⟩
      · rw [List.getElem?_set_ne (Ne.symm hj)] at hv
        exact .inl (.inr ⟨v, hv, hb⟩)
  refine ⟨h.nv, by rw [List.length_set]; exact h.ng, h.row, fun j v hj hv => ?_, fun j v hj hv => ?_, fun i j b hij h1 h2 => ?_⟩
  · by_cases hjk : j = k
    · subst hjk
      rw [hself] at hv
      injection hv with hv
      subst hv
      rw [if_pos rfl]
      exact h.cur
    · rw [if_neg hjk]
      rw [List.getElem?_set_ne (Ne.symm hjk)] at hv
      exact h.grow j v (by omega) hv
  · rw [List.getElem?_set_ne (by omega)] at hv
    exact h.rest j v (by omega) hv
  · rcases hfam i b h1 with q1 | ⟨e1, q1⟩
    · rcases hfam j b h2 with q2 | ⟨e2, q2⟩
      · exact h.apart i j b hij q1 q2
      · subst e2
        exact h.off i b hij q1 q2
    · subst e1
      rcases hfam j b h2 with q2 | ⟨e2, q2⟩
      · exact h.off j b (Ne.symm hij) q2 q1
      · exact hij e2.symm
end
end Go.Proofs.Ytobnomlbkhkodaa.Y
