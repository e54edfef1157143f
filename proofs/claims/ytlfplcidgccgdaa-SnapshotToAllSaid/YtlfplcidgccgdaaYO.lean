/-
  A rule for a region that draws its order: an invariant over the set of the operations that are through.
-/
import Derived.Test.YtlfplcidgccgdaaYC
import Derived.Deep.RegionLaw
set_option linter.unusedVariables false
set_option linter.unusedSimpArgs false
namespace Go.Proofs.Ytlfplcidgccgdaa.Y
open Go.RowKit

section
variable {P : Program} {ops : Array Oper} {Q : Exit → Act → World → Prop} {md : Region.Mode}
theorem ready_iff {listed : Array Bool} {i : Nat} : i ∈ Region.ready md ops listed ↔ i < ops.size ∧ listed.getD i true = false ∧ ∃ o, ops[i]? = some o ∧ ∀ e ∈ o.after, Region.binds md e = true → listed.getD e.on false = true := by
  unfold Region.ready
  rw [List.mem_filter, List.mem_range]
  constructor
  · rintro ⟨h1, h2⟩
    simp only [Bool.and_eq_true, Bool.not_eq_true'] at h2
    refine ⟨h1, h2.1, ?_⟩
    cases ho : ops[i]? with
    | none => rw [ho] at h2; simp at h2
    | some o =>
      rw [ho] at h2
      refine ⟨o, rfl, fun e he hb => ?_⟩
      have := h2.2
      simp only [Option.map_some, Option.getD_some, Array.all_eq_true_iff_forall_mem] at this
      have := this e he
      rw [hb] at this
      simpa using this
  · rintro ⟨h1, h2, o, ho, h3⟩
    refine ⟨h1, ?_⟩
    simp only [Bool.and_eq_true, Bool.not_eq_true', ho, Option.map_some, Option.getD_some, Array.all_eq_true_iff_forall_mem]
    refine ⟨h2, fun e he => ?_⟩
    cases hb : Region.binds md e with
    | false => rfl
    | true => rw [h3 e he hb]; rfl
def still (listed : Array Bool) : Nat := listed.toList.count false
theorem still_set {listed : Array Bool} {i : Nat} (h : listed.getD i true = false) : still (listed.setIfInBounds i true) + 1 = still listed := by
  unfold still
  have hi : i < listed.size := by
    rcases Nat.lt_or_ge i listed.size with h' | h'
    · exact h'
    · rw [Array.getD_eq_getD_getElem?, Array.getElem?_eq_none h'] at h; simp at h
  have hv : listed.toList[i]'(by simpa using hi) = false := by
    rw [Array.getD_eq_getD_getElem?, Array.getElem?_eq_getElem hi] at h; simpa using h
  rw [Array.toList_setIfInBounds, List.count_set (by simpa using hi), hv]
  have : 0 < List.count false listed.toList := List.count_pos_iff.2 (by rw [← hv]; exact List.getElem_mem _)
  rw [if_pos (by rfl), if_neg (by decide)]
  omega
theorem wpAny_inv (I : Array Bool → Act → World → Prop)
    (hstep : ∀ listed a w, I listed a w → ∀ i, i < ops.size → listed.getD i true = false → (∀ o, ops[i]? = some o → ∀ e ∈ o.after, Region.binds md e = true → listed.getD e.on false = true) →
      wpOp P ops Q i (fun a' w' => I (listed.setIfInBounds i true) a' w') a w)
    (hdone : ∀ listed a w, I listed a w → Region.ready md ops listed = [] → Q .normal a w) :
    ∀ fuel listed a w, still listed ≤ fuel → I listed a w → wpAny P md ops Q fuel listed a w := by
  intro fuel
  induction fuel with
  | zero =>
    intro listed a w hs hI
    have h0 : Region.ready md ops listed = [] := by
      rw [List.eq_nil_iff_forall_not_mem]
      intro i hi
      have := still_set (ready_iff.1 hi).2.1
      omega
    exact ⟨h0, hdone _ _ _ hI h0⟩
  | succ fuel ih =>
    intro listed a w hs hI
    refine ⟨hdone _ _ _ hI, fun i hi => ?_⟩
    obtain ⟨h1, h2, o, ho, h3⟩ := ready_iff.1 hi
    have hset := still_set h2
    refine wpOp_mono ?_ (hstep listed a w hI i h1 h2 (fun o' ho' => by rw [ho] at ho'; injection ho' with ho'; subst ho'; exact h3))
    intro a' w' hI'
    exact ih _ _ _ (by omega) hI'
end
/-- A frame that is another one but for the slots from lo to hi. -/
structure Fr (a0 a : Act) (lo hi : Nat) (v : Nat → Value) : Prop where
  defers : a.defers = a0.defers
  size : a.tmps.size = a0.tmps.size
  get : ∀ t, a.tmps.getD t undef = if lo ≤ t ∧ t ≤ hi then v t else a0.tmps.getD t undef
theorem Fr.refl (a0 : Act) (lo hi : Nat) : Fr a0 a0 lo hi (fun t => a0.tmps.getD t undef) := ⟨rfl, rfl, fun t => by simp⟩
theorem getD_put (a : Act) (d : Nat) (u : Value) (h : d < a.tmps.size) (t : Nat) : (a.put (some d) u).tmps.getD t undef = if t = d then u else a.tmps.getD t undef := by
  simp only [Act.put, Array.getD_eq_getD_getElem?, Array.getElem?_setIfInBounds]
  by_cases e : t = d
  · subst e; simp [h]
  · rw [if_neg e, if_neg (fun q => e q.symm)]
theorem Fr.put {a0 a : Act} {lo hi : Nat} {v : Nat → Value} (h : Fr a0 a lo hi v) {d : Nat} (u : Value) (h1 : lo ≤ d) (h2 : d ≤ hi) (hs : hi < a0.tmps.size) :
    Fr a0 (a.put (some d) u) lo hi (fun t => if t = d then u else v t) := by
  refine ⟨h.defers, by simp [Act.put, h.size], fun t => ?_⟩
  rw [getD_put a d u (by rw [h.size]; omega)]
  by_cases e : t = d
  · subst e; rw [if_pos rfl, if_pos ⟨h1, h2⟩, if_pos rfl]
  · rw [if_neg e, h.get, if_neg e]
theorem Fr.eval {a0 a : Act} {lo hi : Nat} {v : Nat → Value} (h : Fr a0 a lo hi v) (t : Nat) (h1 : lo ≤ t) (h2 : t ≤ hi) : a.eval (.tmp t) = v t := by
  show a.tmps.getD t undef = _
  rw [h.get, if_pos ⟨h1, h2⟩]
def puts (a : Act) (v : Nat → Value) (lo n : Nat) : Act := (List.range' lo n).foldl (fun b t => b.put (some t) (v t)) a
theorem puts_fr (a0 : Act) (v : Nat → Value) (lo n : Nat) (hs : lo + n ≤ a0.tmps.size) : (puts a0 v lo n).defers = a0.defers ∧ (puts a0 v lo n).tmps.size = a0.tmps.size ∧ ∀ t, (puts a0 v lo n).tmps.getD t undef = if lo ≤ t ∧ t < lo + n then v t else a0.tmps.getD t undef := by
  induction n with
  | zero => exact ⟨rfl, rfl, fun t => by rw [if_neg (by omega)]; rfl⟩
  | succ n ih =>
    obtain ⟨h1, h2, h3⟩ := ih (by omega)
    have e : puts a0 v lo (n + 1) = (puts a0 v lo n).put (some (lo + n)) (v (lo + n)) := by
      unfold puts
      rw [List.range'_concat, List.foldl_append]
      simp
    rw [e]
    refine ⟨h1, by simp [Act.put, h2], fun t => ?_⟩
    rw [getD_put _ _ _ (by rw [h2]; omega), h3]
    by_cases e : t = lo + n
    · subst e; rw [if_pos rfl, if_pos (by omega)]
    · rw [if_neg e]
      by_cases q : lo ≤ t ∧ t < lo + n
      · rw [if_pos q, if_pos (by omega)]
      · rw [if_neg q, if_neg (by omega)]
theorem Fr.eq {a0 a : Act} {lo hi : Nat} {v : Nat → Value} (h : Fr a0 a lo hi v) (n : Nat) (hn : lo + n = hi + 1) (hs : hi < a0.tmps.size) : a = puts a0 v lo n := by
  obtain ⟨h1, h2, h3⟩ := puts_fr a0 v lo n (by omega)
  have ht : a.tmps = (puts a0 v lo n).tmps := by
    apply Array.ext
    · rw [h.size, h2]
    · intro i hi1 hi2
      have g1 := h.get i
      have g2 := h3 i
      rw [Array.getD_eq_getD_getElem?, Array.getElem?_eq_getElem hi1] at g1
      rw [Array.getD_eq_getD_getElem?, Array.getElem?_eq_getElem hi2] at g2
      simp only [Option.getD_some] at g1 g2
      rw [g1, g2]
      by_cases q : lo ≤ i ∧ i ≤ hi
      · rw [if_pos q, if_pos (by omega)]
      · rw [if_neg q, if_neg (by omega)]
  have hd : a.defers = (puts a0 v lo n).defers := by rw [h.defers, h1]
  cases a
  revert ht hd
  generalize puts a0 v lo n = b
  cases b
  intro ht hd
  simp only at ht hd
  rw [ht, hd]
section
variable {P : Program} {ops : Array Oper} {Q : Exit → Act → World → Prop}
theorem wpOp_value {i : Nat} {o : Oper} (ho : ops[i]? = some o) (hg : o.guard = none) {a : Act} {w w1 : World} {u : Value} (hrun : (execOp a.eval o).run P w = .ok (.value u) w1) {K : Act → World → Prop} (hK : K (a.put o.dst u) w1) : wpOp P ops Q i K a w := by
  unfold wpOp
  rw [ho]
  simp only []
  rw [if_pos (by simp [Region.wanted, hg])]
  left
  unfold Oper.wp
  rw [hrun]
  exact hK
/-- The rule with the frame kept apart: only the slots from lo to hi are written. -/
theorem wpAny_slots {md : Region.Mode} (lo hi : Nat) (a0 : Act) (w0 : World) (J : Array Bool → (Nat → Value) → World → Prop)
    (h0 : J (Array.replicate ops.size false) (fun t => a0.tmps.getD t undef) w0)
    (hstep : ∀ listed a v w, Fr a0 a lo hi v → J listed v w → ∀ i, i < ops.size → listed.getD i true = false → (∀ o, ops[i]? = some o → ∀ e ∈ o.after, Region.binds md e = true → listed.getD e.on false = true) →
      wpOp P ops Q i (fun a' w' => ∃ v', Fr a0 a' lo hi v' ∧ J (listed.setIfInBounds i true) v' w') a w)
    (hdone : ∀ listed a v w, Fr a0 a lo hi v → J listed v w → Region.ready md ops listed = [] → Q .normal a w) :
    wpAny P md ops Q ops.size (Array.replicate ops.size false) a0 w0 :=
  wpAny_inv (fun listed a w => ∃ v, Fr a0 a lo hi v ∧ J listed v w) (fun listed a w ⟨v, hf, hJ⟩ i h1 h2 h3 => hstep listed a v w hf hJ i h1 h2 h3)
    (fun listed a w ⟨v, hf, hJ⟩ hr => hdone listed a v w hf hJ hr) _ _ _ _ (by unfold still; simp) ⟨_, Fr.refl a0 lo hi, h0⟩
end
end Go.Proofs.Ytlfplcidgccgdaa.Y
