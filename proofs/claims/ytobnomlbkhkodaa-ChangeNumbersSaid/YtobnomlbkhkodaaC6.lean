/-
  Pieces: the plain law (runs of unlike places).
-/
import Derived.Test.YtobnomlbkhkodaaC5
set_option linter.unusedVariables false
set_option linter.unusedSimpArgs false
namespace Go.Proofs.Ytobnomlbkhkodaa.Y
open Go.RowKit

abbrev GS := List (Nat × Nat) × Option (Nat × Nat)
/-- One place more. -/
def gstep (s : GS) (x : Nat) : GS :=
  match s.2 with
  | none => (s.1, some (x, x))
  | some (a, b) => if b + 8 < x then (s.1 ++ [(a, b)], some (x, x)) else (s.1, some (a, x))
def grp (U : List Nat) : GS := U.foldl gstep ([], none)
def gfin (s : GS) : List (Nat × Nat) := match s.2 with | none => s.1 | some p => s.1 ++ [p]
theorem grp_snoc (U : List Nat) (x : Nat) : grp (U ++ [x]) = gstep (grp U) x := by simp [grp]
def rngs (xs ys : List UInt8) (k : Nat) : List (Nat × Nat) := gfin (grp (unl xs ys k))
def cutP (ys : List UInt8) (r : Nat × Nat) : Int × List UInt8 := ((r.1 : Int), (ys.drop r.1).take (r.2 + 1 - r.1))
def diffL (xs ys : List UInt8) : List (Int × List UInt8) := (rngs xs ys 4080).map (cutP ys)

/-- What the runs of the first k places are. -/
structure Runs (u : Nat → Prop) (k : Nat) (rs : List (Nat × Nat)) : Prop where
  cover : ∀ j, j < k → u j → ∃ r ∈ rs, r.1 ≤ j ∧ j ≤ r.2
  each : ∀ r ∈ rs, r.1 ≤ r.2 ∧ r.2 < k ∧ u r.1 ∧ u r.2
  far : rs.Pairwise fun p q => p.2 + 8 < q.1
theorem Runs.skip {u : Nat → Prop} {k : Nat} {rs : List (Nat × Nat)} (h : Runs u k rs) (hk : ¬ u k) : Runs u (k + 1) rs := by
  refine ⟨fun j hj hu => ?_, fun r hr => ?_, h.far⟩
  · refine h.cover j ?_ hu
    rcases Nat.lt_or_ge j k with h' | h'
    · exact h'
    · obtain rfl : j = k := by omega
      exact absurd hu hk
  · obtain ⟨h1, h2, h3⟩ := h.each r hr
    exact ⟨h1, by omega, h3⟩
theorem Runs.new {u : Nat → Prop} {k : Nat} {rs : List (Nat × Nat)} (h : Runs u k rs) (hk : u k) (hf : ∀ r ∈ rs, r.2 + 8 < k) : Runs u (k + 1) (rs ++ [(k, k)]) := by
  refine ⟨fun j hj hu => ?_, fun r hr => ?_, ?_⟩
  · rcases Nat.lt_or_ge j k with h' | h'
    · obtain ⟨r, hr, h1⟩ := h.cover j h' hu
      exact ⟨r, by simp [hr], h1⟩
    · exact ⟨(k, k), by simp, by simp; omega, by simp; omega⟩
  · rcases List.mem_append.1 hr with hr | hr
    · obtain ⟨h1, h2, h3⟩ := h.each r hr
      exact ⟨h1, by omega, h3⟩
    · simp at hr; subst hr
      exact ⟨Nat.le_refl _, by simp, hk, hk⟩
  · rw [List.pairwise_append]
    exact ⟨h.far, by simp, fun p hp q hq => by simp at hq; subst hq; exact hf p hp⟩
theorem Runs.wide {u : Nat → Prop} {k : Nat} {c : List (Nat × Nat)} {a b : Nat} (h : Runs u k (c ++ [(a, b)])) (hk : u k) : Runs u (k + 1) (c ++ [(a, k)]) := by
  have hab := h.each (a, b) (by simp)
  have hfar := List.pairwise_append.1 h.far
  refine ⟨fun j hj hu => ?_, fun r hr => ?_, ?_⟩
  · rcases Nat.lt_or_ge j k with h' | h'
    · obtain ⟨r, hr, h1⟩ := h.cover j h' hu
      rcases List.mem_append.1 hr with hr | hr
      · exact ⟨r, by simp [hr], h1⟩
      · simp at hr; subst hr
        exact ⟨(a, k), by simp, by simp at h1 ⊢; omega, by simp; omega⟩
    · exact ⟨(a, k), by simp, by simp at hab ⊢; omega, by simp; omega⟩
  · rcases List.mem_append.1 hr with hr | hr
    · obtain ⟨h1, h2, h3⟩ := h.each r (by simp [hr])
      exact ⟨h1, by omega, h3⟩
    · simp at hr; subst hr
      exact ⟨by simp at hab ⊢; omega, by simp, hab.2.2.1, hk⟩
  · rw [List.pairwise_append]
    exact ⟨hfar.1, by simp, fun p hp q hq => by simp at hq; subst hq; exact hfar.2.2 p hp (a, b) (by simp)⟩
/-- The state behind the first k places. -/
structure GInv (u : Nat → Prop) (k : Nat) (s : GS) : Prop where
  runs : Runs u k (gfin s)
  cur : ∀ a b, s.2 = some (a, b) → a ≤ b ∧ b < k
  empty : s.2 = Option.none → s.1 = []
  len : s.1.length ≤ k
theorem GInv.nil (u : Nat → Prop) : GInv u 0 ([], none) := ⟨⟨fun j hj => absurd hj (by omega), fun r hr => by simp [gfin] at hr, by simp [gfin]⟩, fun a b h => by simp at h, fun _ => rfl, by simp⟩
theorem GInv.skip {u : Nat → Prop} {k : Nat} {s : GS} (h : GInv u k s) (hk : ¬ u k) : GInv u (k + 1) s :=
  ⟨h.runs.skip hk, fun a b e => by have := h.cur a b e; omega, h.empty, Nat.le_succ_of_le h.len⟩
theorem GInv.step {u : Nat → Prop} {k : Nat} {s : GS} (h : GInv u k s) (hk : u k) : GInv u (k + 1) (gstep s k) := by
  obtain ⟨c, o⟩ := s
  cases o with
  | none =>
    obtain rfl : c = [] := h.empty rfl
    have := h.runs.new hk (by simp [gfin])
    refine ⟨by simpa [gfin, gstep] using this, fun a b e => ?_, fun e => by simp [gstep] at e, by simp [gstep]⟩
    simp [gstep] at e; omega
  | some p =>
    obtain ⟨a, b⟩ := p
    have hc := h.cur a b rfl
    have hl := h.len
    have hr : Runs u k (c ++ [(a, b)]) := by simpa [gfin] using h.runs
    by_cases hb : b + 8 < k
    · have hg : gstep (c, some (a, b)) k = (c ++ [(a, b)], some (k, k)) := by simp [gstep, hb]
      rw [hg]
      refine ⟨?_, fun a' b' e => by simp at e; omega, fun e => by simp at e, by simp at hl ⊢; omega⟩
      have hf := List.pairwise_append.1 hr.far
      have := hr.new hk (fun r hrr => by
        rcases List.mem_append.1 hrr with h1 | h1
        · have := hf.2.2 r h1 (a, b) (by simp)
          simp at this
          omega
        · simp at h1; subst h1; exact hb)
      simpa [gfin] using this
    · have hg : gstep (c, some (a, b)) k = (c, some (a, k)) := by simp [gstep, hb]
      rw [hg]
      exact ⟨by simpa [gfin] using hr.wide hk, fun a' b' e => by simp at e; omega, fun e => by simp at e, by simp at hl ⊢; omega⟩
def Unl (xs ys : List UInt8) (j : Nat) : Prop := xs[j]? ≠ ys[j]?
theorem grp_inv (xs ys : List UInt8) (k : Nat) : GInv (Unl xs ys) k (grp (unl xs ys k)) := by
  induction k with
  | zero => exact GInv.nil _
  | succ k ih =>
    rw [unl_succ]
    split
    · rename_i h
      exact ih.skip (fun q => q h)
    · rename_i h
      rw [grp_snoc]
      exact ih.step h
theorem rngs_runs (xs ys : List UInt8) (k : Nat) : Runs (Unl xs ys) k (rngs xs ys k) := (grp_inv xs ys k).runs
theorem rngs_length (xs ys : List UInt8) (k : Nat) : (rngs xs ys k).length ≤ k + 1 := by
  have := (grp_inv xs ys k).len
  unfold rngs gfin
  split
  · omega
  · simp; omega

/-- Pieces laid upon a page. -/
def layL (p : List UInt8) (L : List (Int × List UInt8)) : List UInt8 := L.foldl (fun p q => splice p q.1.toNat q.2) p
theorem splice_get (p q : List UInt8) (o j : Nat) (h : o + q.length ≤ p.length) : (splice p o q)[j]? = if o ≤ j ∧ j < o + q.length then q[j - o]? else p[j]? := by
  unfold splice
  rw [List.getElem?_append, List.length_take, Nat.min_eq_left (by omega)]
  by_cases h1 : j < o
  · rw [if_pos h1, if_neg (by omega), List.getElem?_take, if_pos h1]
  · rw [if_neg h1, List.getElem?_append]
    by_cases h2 : j < o + q.length
    · rw [if_pos (by omega), if_pos (by omega)]
    · rw [if_neg (by omega), if_neg (by omega), List.getElem?_drop]
      congr 1
      omega
theorem cutP_length (ys : List UInt8) (r : Nat × Nat) (h : r.2 < ys.length) (h1 : r.1 ≤ r.2) : (cutP ys r).2.length = r.2 + 1 - r.1 := by
  simp [cutP]; omega
theorem lay_cut (ys : List UInt8) (rs : List (Nat × Nat)) : ∀ (p : List UInt8), p.length = ys.length → (∀ r ∈ rs, r.1 ≤ r.2 ∧ r.2 < ys.length) →
    (layL p (rs.map (cutP ys))).length = ys.length ∧ ∀ j, (layL p (rs.map (cutP ys)))[j]? = if (∃ r ∈ rs, r.1 ≤ j ∧ j ≤ r.2) then ys[j]? else p[j]? := by
  induction rs with
  | nil => intro p hp _; exact ⟨hp, fun j => by simp [layL]⟩
  | cons r rs ih =>
    intro p hp hr
    obtain ⟨h1, h2⟩ := hr r (by simp)
    have hl := cutP_length ys r h2 h1
    have hf : r.1 + (cutP ys r).2.length ≤ p.length := by omega
    have hs : (splice p r.1 (cutP ys r).2).length = ys.length := by rw [length_splice _ _ _ hf, hp]
    obtain ⟨e1, e2⟩ := ih (splice p r.1 (cutP ys r).2) hs (fun q hq => hr q (by simp [hq]))
    have hd : layL p ((r :: rs).map (cutP ys)) = layL (splice p r.1 (cutP ys r).2) (rs.map (cutP ys)) := by simp [layL, cutP]
    rw [hd]
    refine ⟨e1, fun j => ?_⟩
    rw [e2 j, splice_get _ _ _ _ hf, hl]
    by_cases c1 : ∃ q ∈ rs, q.1 ≤ j ∧ j ≤ q.2
    · rw [if_pos c1]
      obtain ⟨q, hq, hj⟩ := c1
      rw [if_pos ⟨q, by simp [hq], hj⟩]
    · rw [if_neg c1]
      by_cases c2 : r.1 ≤ j ∧ j ≤ r.2
      · rw [if_pos (by omega), if_pos ⟨r, by simp, c2⟩]
        unfold cutP
        simp only []
        rw [List.getElem?_take, if_pos (by omega), List.getElem?_drop]
        congr 1
        omega
      · rw [if_neg (by omega), if_neg]
        rintro ⟨q, hq, hj⟩
        rcases List.mem_cons.1 hq with rfl | hq
        · exact c2 hj
        · exact c1 ⟨q, hq, hj⟩
theorem lay_diff (xs ys : List UInt8) (hx : xs.length = 4080) (hy : ys.length = 4080) : layL xs (diffL xs ys) = ys := by
  have hr := rngs_runs xs ys 4080
  obtain ⟨h1, h2⟩ := lay_cut ys (rngs xs ys 4080) xs (by omega) (fun r h => by have := hr.each r h; omega)
  apply List.ext_getElem?
  intro j
  unfold diffL
  rw [h2 j]
  split
  · rfl
  · rename_i hn
    by_cases hj : j < 4080
    · by_cases hu : xs[j]? = ys[j]?
      · exact hu
      · exact absurd (hr.cover j hj hu) hn
    · rw [List.getElem?_eq_none (by omega), List.getElem?_eq_none (by omega)]
theorem unl_symm (xs ys : List UInt8) (k : Nat) : unl ys xs k = unl xs ys k := by
  unfold unl
  apply List.filter_congr
  intro j _
  rw [Bool.eq_iff_iff]
  simp only [bne_iff_ne]
  exact ⟨fun h e => h e.symm, fun h e => h e.symm⟩
theorem rngs_symm (xs ys : List UInt8) (k : Nat) : rngs ys xs k = rngs xs ys k := by unfold rngs; rw [unl_symm]
/-- The size of pieces. -/
def sizeL (L : List (Int × List UInt8)) : Nat := (L.map fun p => 4 + p.2.length).sum
theorem sizeL_cut (ys : List UInt8) (rs : List (Nat × Nat)) (h : ∀ r ∈ rs, r.1 ≤ r.2 ∧ r.2 < ys.length) : sizeL (rs.map (cutP ys)) = (rs.map fun r => 4 + (r.2 + 1 - r.1)).sum := by
  unfold sizeL
  rw [List.map_map]
  congr 1
  apply List.map_congr_left
  intro r hr
  simp only [Function.comp]
  rw [cutP_length ys r (h r hr).2 (h r hr).1]
theorem sizeL_diff (xs ys : List UInt8) (hx : xs.length = 4080) (hy : ys.length = 4080) : sizeL (diffL ys xs) = sizeL (diffL xs ys) := by
  have h := (rngs_runs xs ys 4080).each
  unfold diffL
  rw [rngs_symm, sizeL_cut xs _ (fun r hr => ?_), sizeL_cut ys _ (fun r hr => ?_)]
  · obtain ⟨h1, h2, _⟩ := h r hr
    rw [hy]
    exact ⟨h1, h2⟩
  · obtain ⟨h1, h2, _⟩ := h r hr
    rw [hx]
    exact ⟨h1, h2⟩
end Go.Proofs.Ytobnomlbkhkodaa.Y
