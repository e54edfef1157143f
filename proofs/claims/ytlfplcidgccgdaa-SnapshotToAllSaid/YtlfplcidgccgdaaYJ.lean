/-
  A region that draws its order, every operation of which leaves a value of which a fact is known that no later making of memory harms: whatever the order, behind it all facts hold.
-/
import Derived.Test.YtlfplcidgccgdaaYP
set_option linter.unusedVariables false
set_option linter.unusedSimpArgs false
namespace Go.Proofs.Ytlfplcidgccgdaa.Y
open Go.RowKit

theorem getD_listed' {listed : Array Bool} {i : Nat} (h : listed.getD i true = false) (j : Nat) : (listed.setIfInBounds i true).getD j false = if j = i then true else listed.getD j false := by
  have hi : i < listed.size := by
    rcases Nat.lt_or_ge i listed.size with h' | h'
    · exact h'
    · rw [Array.getD_eq_getD_getElem?, Array.getElem?_eq_none h'] at h; simp at h
  simp only [Array.getD_eq_getD_getElem?, Array.getElem?_setIfInBounds]
  by_cases e : j = i
  · subst e; simp [hi]
  · rw [if_neg e, if_neg (fun q => e q.symm)]
theorem all_ready {md : Region.Mode} {ops : Array Oper} {listed : Array Bool} (hs : listed.size = ops.size) (hac : ∀ (i : Nat) o, ops[i]? = some o → ∀ e ∈ o.after, Region.binds md e = true → e.on < i) (hr : Region.ready md ops listed = []) : ∀ j, j < ops.size → listed.getD j false = true := by
  intro j
  induction j using Nat.strongRecOn with
  | _ j ih =>
    intro hj
    cases hl : listed.getD j false with
    | true => rfl
    | false =>
      exfalso
      have : j ∈ Region.ready md ops listed := ready_iff.2 ⟨hj, (by
        rw [Array.getD_eq_getD_getElem?, Array.getElem?_eq_getElem (by omega)] at hl ⊢; exact hl), ops[j], Array.getElem?_eq_getElem hj, fun e he hb => by
        have h1 := hac j _ (Array.getElem?_eq_getElem hj) e he hb
        exact ih _ h1 (by omega)⟩
      rw [hr] at this
      cases this
/-- A frame that is another one but for the slots d 0, .., d (n - 1). -/
structure FrD (a0 a : Act) (n : Nat) (d : Nat → Nat) : Prop where
  defers : a.defers = a0.defers
  size : a.tmps.size = a0.tmps.size
  other : ∀ t, (∀ i, i < n → d i ≠ t) → a.tmps.getD t undef = a0.tmps.getD t undef
theorem FrD.put {a0 a : Act} {n : Nat} {d : Nat → Nat} (h : FrD a0 a n d) {i : Nat} (hi : i < n) (u : Value) : FrD a0 (a.put (some (d i)) u) n d := by
  refine ⟨h.defers, by simp [Act.put, h.size], fun t ht => ?_⟩
  rw [← h.other t ht]
  simp only [Act.put, Array.getD_eq_getD_getElem?, Array.getElem?_setIfInBounds]
  rw [if_neg (ht i hi)]
def putsD (a : Act) (v : Nat → Value) (d : Nat → Nat) (n : Nat) : Act := (List.range n).foldl (fun b i => b.put (some (d i)) (v i)) a
theorem putsD_succ (a : Act) (v : Nat → Value) (d : Nat → Nat) (n : Nat) : putsD a v d (n + 1) = (putsD a v d n).put (some (d n)) (v n) := by
  unfold putsD
  rw [List.range_succ, List.foldl_append]
  rfl
theorem putsD_size (a : Act) (v : Nat → Value) (d : Nat → Nat) (n : Nat) : (putsD a v d n).tmps.size = a.tmps.size ∧ (putsD a v d n).defers = a.defers := by
  induction n with
  | zero => exact ⟨rfl, rfl⟩
  | succ n ih => rw [putsD_succ]; simp [Act.put, ih]
theorem putsD_other (a : Act) (v : Nat → Value) (d : Nat → Nat) (n t : Nat) (h : ∀ i, i < n → d i ≠ t) : (putsD a v d n).tmps.getD t undef = a.tmps.getD t undef := by
  induction n with
  | zero => rfl
  | succ n ih =>
    rw [putsD_succ, ← ih (fun i hi => h i (by omega))]
    simp only [Act.put, Array.getD_eq_getD_getElem?, Array.getElem?_setIfInBounds]
    rw [if_neg (h n (by omega))]
theorem putsD_self (a : Act) (v : Nat → Value) (d : Nat → Nat) (n : Nat) (hs : ∀ i, i < n → d i < a.tmps.size) (hj : ∀ i j, i < n → j < n → d i = d j → i = j) : ∀ i, i < n → (putsD a v d n).tmps.getD (d i) undef = v i := by
  induction n with
  | zero => intro i hi; omega
  | succ n ih =>
    intro i hi
    rw [putsD_succ]
    by_cases e : i = n
    · subst e
      simp only [Act.put, Array.getD_eq_getD_getElem?]
      rw [Array.getElem?_setIfInBounds_self_of_lt (by rw [(putsD_size _ _ _ _).1]; exact hs i hi)]
      rfl
    · rw [← ih (fun i hi => hs i (by omega)) (fun i j h1 h2 => hj i j (by omega) (by omega)) i (by omega)]
      simp only [Act.put, Array.getD_eq_getD_getElem?, Array.getElem?_setIfInBounds]
      rw [if_neg (fun q => e (hj i n hi (by omega) q.symm))]
theorem FrD.eq {a0 a : Act} {n : Nat} {d : Nat → Nat} (h : FrD a0 a n d) (hs : ∀ i, i < n → d i < a0.tmps.size) (hj : ∀ i j, i < n → j < n → d i = d j → i = j) : a = putsD a0 (fun i => a.tmps.getD (d i) undef) d n := by
  have hp := putsD_size a0 (fun i => a.tmps.getD (d i) undef) d n
  have key : ∀ t, a.tmps.getD t undef = (putsD a0 (fun i => a.tmps.getD (d i) undef) d n).tmps.getD t undef := by
    intro t
    by_cases ht : ∃ i, i < n ∧ d i = t
    · obtain ⟨i, hi, rfl⟩ := ht
      rw [putsD_self _ _ _ _ hs hj i hi]
    · have ht' : ∀ i, i < n → d i ≠ t := fun i hi e => ht ⟨i, hi, e⟩
      rw [putsD_other _ _ _ _ _ ht', h.other t ht']
  have hd : a.defers = (putsD a0 (fun i => a.tmps.getD (d i) undef) d n).defers := h.defers.trans hp.2.symm
  have ht : a.tmps = (putsD a0 (fun i => a.tmps.getD (d i) undef) d n).tmps := by
    apply Array.ext
    · rw [hp.1, h.size]
    · intro t h1 h2
      have := key t
      rw [Array.getD_eq_getD_getElem?, Array.getD_eq_getD_getElem?, Array.getElem?_eq_getElem h1, Array.getElem?_eq_getElem h2] at this
      exact this
  cases a
  revert ht hd
  generalize putsD a0 _ d n = b
  cases b
  intro hd ht
  simp only at ht hd
  rw [ht, hd]
section
variable {P : Program} {ops : Array Oper} {Q : Exit → Act → World → Prop}
theorem wpOp_at {i : Nat} {o : Oper} (ho : ops[i]? = some o) (hg : o.guard = none) {a : Act} {w : World} {K : Act → World → Prop} (h : Oper.wp P o a w K Q) : wpOp P ops Q i K a w := by
  unfold wpOp
  rw [ho]
  simp only []
  rw [if_pos (by simp [Region.wanted, hg])]
  exact .inl h
/-- What an operation must bring: a value in its slot, of which its fact holds; nothing old is changed. -/
def Brings (we : World) (d : Nat → Nat) (F : Nat → Value → World → Prop) (i : Nat) (a : Act) (w : World) (a' : Act) (w' : World) : Prop := ∃ u, a' = a.put (some (d i)) u ∧ Below w.heap.size w w' ∧ F i u w'
theorem region_facts {id : Nat} {ops : Array Oper} {a0 : Act} {we : World} (n : Nat) (d : Nat → Nat) (F : Nat → Value → World → Prop) (hm : P.follows .mixedOrders = true) (hn : ops.size = n) (hac : ∀ (i : Nat) o, ops[i]? = some o → ∀ e ∈ o.after, Region.binds .any e = true → e.on < i)
    (hs : ∀ i, i < n → d i < a0.tmps.size) (hj : ∀ i j, i < n → j < n → d i = d j → i = j) (hst : ∀ i u w w', i < n → F i u w → Below w.heap.size w w' → F i u w')
    (hstep : ∀ i, i < n → ∀ a w, Below we.heap.size we w → FrD a0 a n d → (∀ j, j < n → (∃ o, ops[i]? = some o ∧ ∃ e ∈ o.after, e.on = j ∧ Region.binds .any e = true) → F j (a.tmps[d j]?.getD undef) w) → wpOp P ops Q i (Brings we d F i a w) a w)
    (hdone : ∀ (v : Nat → Value) w, Below we.heap.size we w → (∀ i, i < n → F i (v i) w) → Q .normal (putsD a0 v d n) w) : (Code.region id ops true).wp P Q a0 we := by
  refine wp_region_any hm ?_
  rw [hn]
  have key := wpAny_inv (P := P) (Q := Q) (ops := ops) (md := .any) (fun listed a w => listed.size = n ∧ Below we.heap.size we w ∧ FrD a0 a n d ∧ ∀ i, i < n → listed.getD i false = true → F i (a.tmps[d i]?.getD undef) w)
    (fun listed a w ⟨h1, h2, h3, h4⟩ i hi hl hdep => ?_) (fun listed a w ⟨h1, h2, h3, h4⟩ hr => ?_) n (Array.replicate n false) a0 we.drew (by unfold still; simp) ⟨by simp, bdrew (Below.refl _ _), ⟨rfl, rfl, fun _ _ => rfl⟩, fun i _ h => by
      rw [Array.getD_eq_getD_getElem?, Array.getElem?_replicate] at h
      split at h <;> cases h⟩
  · exact key
  · have hin : i < n := by omega
    refine wpOp_mono ?_ (hstep i hin a w h2 h3 (fun j hjn hex => ?_))
    · rintro a' w' ⟨u, rfl, hb, hF⟩
      refine ⟨by simp [h1], bthen h2 hb, h3.put hin u, fun j hjn hlj => ?_⟩
      have hg : (a.put (some (d i)) u).tmps[d j]?.getD undef = if d j = d i then u else a.tmps[d j]?.getD undef := by
        simp only [Act.put, Array.getElem?_setIfInBounds]
        by_cases e : d j = d i
        · rw [if_pos e.symm, if_pos e, if_pos (by rw [h3.size]; exact hs i hin)]
          rfl
        · rw [if_neg (fun q => e q.symm), if_neg e]
      rw [hg]
      by_cases e : j = i
      · subst e
        rw [if_pos rfl]
        exact hF
      · rw [if_neg (fun q => e (hj j i hjn hin q))]
        rw [getD_listed' hl, if_neg e] at hlj
        exact hst j _ w w' hjn (h4 j hjn hlj) hb
    · obtain ⟨o, ho, e, he, rfl, hbind⟩ := hex
      exact h4 e.on hjn (hdep o ho e he hbind)
  · have hall := all_ready (by rw [h1, hn]) hac hr
    have := hdone (fun i => a.tmps.getD (d i) undef) w h2 (fun i hi => by
      have := h4 i hi (hall i (by omega))
      rwa [← Array.getD_eq_getD_getElem?] at this)
    rw [← h3.eq hs hj] at this
    exact this
/-- The slots' values, one behind the other. -/
def putsL (a : Act) (v : Nat → Value) : Nat → List Nat → Act
  | _, [] => a
  | k, d :: ds => putsL (a.put (some d) (v k)) v (k + 1) ds
theorem putsL_eq (v : Nat → Value) : ∀ (ds : List Nat) (k : Nat) (a : Act), putsL a v k ds = (List.range ds.length).foldl (fun b i => b.put (some (ds.getD i 0)) (v (k + i))) a := by
  intro ds
  induction ds with
  | nil => intro k a; rfl
  | cons d ds ih =>
    intro k a
    rw [putsL, ih, List.length_cons, List.range_succ_eq_map, List.foldl_cons, List.foldl_map]
    simp only [List.getD_cons_zero, List.getD_cons_succ, Nat.add_zero, Nat.succ_eq_add_one]
    congr 1
    funext b i
    rw [Nat.add_assoc, Nat.add_comm 1 i]
theorem putsD_list (a : Act) (v : Nat → Value) (ds : List Nat) : putsD a v (fun i => ds.getD i 0) ds.length = putsL a v 0 ds := by
  rw [putsL_eq]
  unfold putsD
  simp only [Nat.zero_add]
def Stab (f : Value → World → Prop) : Prop := ∀ u w w', f u w → Below w.heap.size w w' → f u w'
def acB (ops : Array Oper) : Bool := (List.range ops.size).all fun i => match ops[i]? with | some o => o.after.all fun e => !Region.binds .any e || decide (e.on < i) | none => true
theorem ac_of {ops : Array Oper} (h : acB ops = true) : ∀ (i : Nat) o, ops[i]? = some o → ∀ e ∈ o.after, Region.binds .any e = true → e.on < i := by
  intro i o ho e he hb
  unfold acB at h
  rw [List.all_eq_true] at h
  have := h i (List.mem_range.2 (Array.getElem?_eq_some_iff.1 ho).1)
  rw [ho] at this
  simp only [Array.all_eq_true_iff_forall_mem] at this
  have := this e he
  rw [hb] at this
  simpa using this
def injB (ds : List Nat) : Bool := (List.range ds.length).all fun i => (List.range i).all fun j => decide (ds.getD i 0 ≠ ds.getD j 0)
theorem inj_of {ds : List Nat} (h : injB ds = true) : ∀ i j, i < ds.length → j < ds.length → ds.getD i 0 = ds.getD j 0 → i = j := by
  have key : ∀ i j, i < ds.length → j < i → ds.getD i 0 ≠ ds.getD j 0 := by
    intro i j hi hj
    unfold injB at h
    rw [List.all_eq_true] at h
    have := h i (List.mem_range.2 hi)
    rw [List.all_eq_true] at this
    simpa using this j (List.mem_range.2 hj)
  intro i j hi hj e
  rcases Nat.lt_trichotomy i j with q | q | q
  · exact absurd e.symm (key j i hj q)
  · exact q
  · exact absurd e (key i j hi q)
theorem getD_mem {α : Type} (l : List α) (i : Nat) (d : α) (h : i < l.length) : l.getD i d ∈ l := by
  have : l.getD i d = l[i] := by simp [List.getD, h]
  rw [this]
  exact List.getElem_mem h
theorem region_factsL {P : Program} {Q : Exit → Act → World → Prop} {id : Nat} {ops : Array Oper} {a0 : Act} {we : World} (ds : List Nat) (N : Nat) (Fs : List (Value → World → Prop)) (hm : P.follows .mixedOrders = true) (hn : ops.size = ds.length) (hac : acB ops = true)
    (hN : a0.tmps.size = N) (hs : ds.all (fun d => decide (d < N)) = true) (hj : injB ds = true) (hst : ∀ f ∈ Fs, Stab f)
    (hstep : ∀ i, i < ds.length → ∀ a w, Below we.heap.size we w → FrD a0 a ds.length (fun i => ds.getD i 0) → (∀ j, j < ds.length → (∃ o, ops[i]? = some o ∧ ∃ e ∈ o.after, e.on = j ∧ Region.binds .any e = true) → (Fs.getD j (fun _ _ => True)) (a.tmps[ds.getD j 0]?.getD undef) w) →
      wpOp P ops Q i (Brings we (fun i => ds.getD i 0) (fun i => Fs.getD i (fun _ _ => True)) i a w) a w)
    (hdone : ∀ (v : Nat → Value) w, Below we.heap.size we w → (∀ i, i < ds.length → (Fs.getD i (fun _ _ => True)) (v i) w) → Q .normal (putsL a0 v 0 ds) w) : (Code.region id ops true).wp P Q a0 we := by
  refine region_facts ds.length (fun i => ds.getD i 0) (fun i => Fs.getD i (fun _ _ => True)) hm hn (ac_of hac) (fun i hi => ?_) (fun i j hi hj2 e => ?_) (fun i u w w' hi hF hb => ?_) hstep (fun v w hb hF => ?_)
  · rw [hN]
    rw [List.all_eq_true] at hs
    have := hs (ds.getD i 0) (getD_mem ds i 0 hi)
    simpa using this
  · exact inj_of hj i j hi hj2 e
  · by_cases hl : i < Fs.length
    · exact hst _ (getD_mem Fs i (fun _ _ => True) hl) u w w' hF hb
    · have e : Fs.getD i (fun _ _ => True) = fun _ _ => True := by simp [List.getD, hl]
      show (Fs.getD i (fun _ _ => True)) u w'
      rw [e]
      trivial
  · rw [putsD_list]
    exact hdone v w hb hF
/-- A slice that reads so. -/
def FS (n : Nat) (L : List UInt8) (u : Value) (w : World) : Prop := ∃ A c, u = .slice A n c ∧ n ≤ c ∧ Rd w A L
theorem FS.stab (n : Nat) (L : List UInt8) : Stab (FS n L) := by
  rintro u w w' ⟨A, c, e, hc, hr⟩ hb
  exact ⟨A, c, e, hc, hr.below hb⟩
theorem FS.new (w : World) (L : List UInt8) (cs : Array Value) (n : Nat) (h : cs = (bvs L).toArray) (hn : n = L.length) : FS n L (.slice (some ⟨w.heap.size, 0, none⟩) n n) (w.alloc (.cells cs 5)) :=
  ⟨_, _, rfl, Nat.le_refl _, by
    subst h
    have := (Blk.new w L).rd 0 L.length
    simpa using this⟩
/-- A value that is known. -/
def FV (v : Value) (u : Value) (w : World) : Prop := u = v
theorem FV.stab (v : Value) : Stab (FV v) := fun u w w' h _ => h
end
end Go.Proofs.Ytlfplcidgccgdaa.Y
