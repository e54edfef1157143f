/-
  A region that draws its order and whose last operation waits for all others: the last one is carried out behind them.
-/
import Derived.Test.YtlfplcidgccgdaaYO
import Derived.Deep.RegionHeld3
import Derived.Deep.DrawnRows
import Derived.StillTail
set_option linter.unusedVariables false
set_option linter.unusedSimpArgs false
namespace Go.Proofs.Ytlfplcidgccgdaa.Y
open Go.RowKit

/-- What is asked behind all operations but the last. -/
def Popped (P : Program) (ops : Array Oper) (o : Oper) (Q : Exit → Act → World → Prop) : Exit → Act → World → Prop
  | .normal, a, w => wpList P ops Q [o] a w
  | .ret, a, w => Q .ret a w
  | .exit id, a, w => Q (.exit id) a w
  | .goto t, a, w => Q (.goto t) a w
  | .panic c, a, w => Q (.panic c) a w
  | .outgrown, a, w => Q .outgrown a w
section
variable {P : Program} {Q : Exit → Act → World → Prop}
/-- No guards; each operation waits only for earlier ones. -/
def plainB (l : List Oper) : Bool := l.all (fun x => x.guard.isNone) && (List.range l.length).all fun i => match l[i]? with | some x => x.after.all fun e => decide (e.on < i) | none => true
theorem plain_guard {l : List Oper} (h : plainB l = true) {i : Nat} {x : Oper} (hx : l[i]? = some x) : x.guard = none := by
  simp only [plainB, Bool.and_eq_true, List.all_eq_true] at h
  have := h.1 x (List.mem_of_getElem? hx)
  simpa using this
theorem plain_after {l : List Oper} (h : plainB l = true) {i : Nat} {x : Oper} (hx : l[i]? = some x) : ∀ e ∈ x.after, e.on < i := by
  simp only [plainB, Bool.and_eq_true, List.all_eq_true] at h
  have hi : i < l.length := (List.getElem?_eq_some_iff.1 hx).1
  have := h.2 i (List.mem_range.2 hi)
  rw [hx] at this
  simp only [Array.all_eq_true_iff_forall_mem, decide_eq_true_eq] at this
  exact this
theorem oper_pop {o x : Oper} {ops : Array Oper} {a : Act} {w : World} {K K' : Act → World → Prop} (hK : ∀ a w, K a w → K' a w) (h : x.wp P a w K (Popped P ops o Q)) : x.wp P a w K' Q := by
  unfold Oper.wp at *
  generalize (execOp a.eval x).run P w = r at *
  cases r with
  | ok n w' =>
    cases n <;> simp only [Oper.upon] at h ⊢ <;>
      first
        | exact hK _ _ h
        | exact Calls.mono h (fun e w'' he => by cases e <;> first | exact hK _ _ he | exact he)
        | exact Rows.mono h (fun _ _ he => hK _ _ he)
  | halt y w' => cases y <;> simp only [Oper.upon] at h ⊢ <;> exact h
theorem wanted_plain {x : Oper} (h : x.guard = none) (t : Nat → Option Value) : True := trivial
theorem ready_pop {l : List Oper} {o : Oper} {md : Region.Mode} {A B : Array Bool} (hAB : ∀ j, j < l.length → B.getD j true = A.getD j true ∧ B.getD j false = A.getD j false) (hp : plainB l = true) {i : Nat} (hi : i < l.length) :
    i ∈ Region.ready md (l ++ [o]).toArray B ↔ i ∈ Region.ready md l.toArray A := by
  rw [mem_ready, mem_ready]
  have e : (l ++ [o]).toArray[i]? = l.toArray[i]? := by simp [List.getElem?_append_left hi]
  rw [e, (hAB i hi).1]
  constructor
  · rintro ⟨h1, x, hx, h2⟩
    refine ⟨h1, x, hx, fun e he hb => ?_⟩
    have := plain_after hp (by simpa using hx) e he
    rw [← (hAB _ (by omega)).2]
    exact h2 e he hb
  · rintro ⟨h1, x, hx, h2⟩
    refine ⟨h1, x, hx, fun e he hb => ?_⟩
    have := plain_after hp (by simpa using hx) e he
    rw [(hAB _ (by omega)).2]
    exact h2 e he hb
/-- Nothing is ready: all have come up. -/
theorem all_listed {l : List Oper} {md : Region.Mode} {A : Array Bool} (hs : A.size = l.length) (hp : plainB l = true) (h : Region.ready md l.toArray A = []) : ∀ j, j < l.length → A.getD j false = true := by
  intro j
  induction j using Nat.strongRecOn with
  | _ j ih =>
    intro hj
    cases hl : A.getD j false with
    | true => rfl
    | false =>
      have : j ∈ Region.ready md l.toArray A := by
        rw [mem_ready]
        refine ⟨getD_in (by omega) hl, l[j], by simp [hj], fun e he _ => ?_⟩
        have := plain_after hp (List.getElem?_eq_getElem hj) e he
        exact ih _ this (by omega)
      rw [h] at this
      cases this
theorem wpAny_last {l : List Oper} {o : Oper} {md : Region.Mode} (hp : plainB l = true) (ho : o.guard = none) (fuel : Nat) {A B : Array Bool} {a : Act} {w : World} (hAs : A.size = l.length) (hBs : B.size = l.length + 1)
    (hAB : ∀ j, j < l.length → B.getD j true = A.getD j true ∧ B.getD j false = A.getD j false) (hoa : ∀ e ∈ o.after, e.on < l.length) (hB : B.getD l.length true = false) (hr : Region.ready md l.toArray A = []) (h : wpList P (l ++ [o]).toArray Q [o] a w) :
    wpAny P md (l ++ [o]).toArray Q (fuel + 1) B a w := by
  have hall := all_listed hAs hp hr
  have hmem : l.length ∈ Region.ready md (l ++ [o]).toArray B := by
    rw [mem_ready]
    refine ⟨hB, o, by simp, fun e he _ => ?_⟩
    rw [(hAB _ (hoa e he)).2]
    exact hall _ (hoa e he)
  have hempty : Region.ready md (l ++ [o]).toArray (B.setIfInBounds l.length true) = [] := by
    rw [List.eq_nil_iff_forall_not_mem]
    intro i hi
    obtain ⟨h1, x, hx, _⟩ := mem_ready.1 hi
    have hil : i < l.length + 1 := by simpa using (Array.getElem?_eq_some_iff.1 hx).1
    by_cases hin : i = l.length
    · subst hin
      rw [Array.getD_eq_getD_getElem?, Array.getElem?_setIfInBounds_self_of_lt (by omega)] at h1
      simp at h1
    · rw [getD_set_ne true (Ne.symm hin), (hAB i (by omega)).1] at h1
      have := hall i (by omega)
      rw [getD_both h1] at this
      cases this
  refine ⟨fun e => (by rw [e] at hmem; cases hmem), fun i hi => ?_⟩
  have hin : i = l.length := by
    obtain ⟨h1, x, hx, _⟩ := mem_ready.1 hi
    have hil : i < l.length + 1 := by simpa using (Array.getElem?_eq_some_iff.1 hx).1
    by_cases hin : i = l.length
    · exact hin
    · have h3 := hall i (by omega)
      rw [(hAB i (by omega)).1] at h1
      rw [getD_both h1] at h3
      cases h3
  subst hin
  unfold wpOp
  have e : (l ++ [o]).toArray[l.length]? = some o := by simp
  rw [e]
  simp only []
  unfold wpList at h
  split
  · rename_i hw
    rw [if_pos hw] at h
    refine h.imp (Oper.wp_mono fun a w hq => ?_) id
    have hq' : Q .normal a w := hq
    cases fuel with
    | zero => exact ⟨hempty, hq'⟩
    | succ f => exact ⟨fun _ => hq', by rw [hempty]; simp⟩
  · rename_i hw
    rw [if_neg hw] at h
    have hq' : Q .normal (a.put o.dst undef) w := h
    cases fuel with
    | zero => exact ⟨hempty, hq'⟩
    | succ f => exact ⟨fun _ => hq', by rw [hempty]; simp⟩
theorem wpAny_pop {l : List Oper} {o : Oper} {md : Region.Mode} (hp : plainB l = true) (ho : o.guard = none) (hoa : ∀ e ∈ o.after, e.on < l.length) (hs : Region.sinkB md (l ++ [o]).toArray l.length = true) :
    ∀ (fuel : Nat) (A B : Array Bool) (a : Act) (w : World), A.size = l.length → (∀ j, j < l.length → B.getD j true = A.getD j true ∧ B.getD j false = A.getD j false) → HeadInv md (l ++ [o]).toArray l.length B →
      wpAny P md l.toArray (Popped P (l ++ [o]).toArray o Q) fuel A a w → wpAny P md (l ++ [o]).toArray Q (fuel + 1) B a w := by
  have hlast : ∀ B, HeadInv md (l ++ [o]).toArray l.length B → B.size = l.length + 1 ∧ B.getD l.length true = false := fun B hi => ⟨by rw [hi.size]; simp, hi.tail _ (Nat.le_refl _) (by simp)⟩
  have hchain : Region.chainB md (l ++ [o]).toArray l.length = true := by
    unfold Region.chainB
    rw [List.all_eq_true]
    intro t ht
    have := List.mem_range.1 ht
    simp at this
    simp only [Bool.or_eq_true, decide_eq_true_eq]
    left; omega
  intro fuel
  induction fuel with
  | zero =>
    intro A B a w hA hAB hi h
    obtain ⟨k1, k2⟩ := hlast B hi
    exact wpAny_last hp ho 0 hA k1 hAB hoa k2 h.1 h.2
  | succ fuel ih =>
    intro A B a w hA hAB hi h
    obtain ⟨k1, k2⟩ := hlast B hi
    by_cases hr : Region.ready md l.toArray A = []
    · exact wpAny_last hp ho _ hA k1 hAB hoa k2 hr (h.1 hr)
    · obtain ⟨i0, hi0⟩ := List.exists_mem_of_ne_nil _ hr
      have hl0 : i0 < l.length := by
        obtain ⟨_, x, hx, _⟩ := mem_ready.1 hi0
        simpa using (Array.getElem?_eq_some_iff.1 hx).1
      have hno := tail_waits hs hchain (by simp) hi _ i0 rfl hl0 (by rw [(hAB i0 hl0).1]; exact (mem_ready.1 hi0).1)
      refine ⟨fun e => ?_, fun i hir => ?_⟩
      · have := (ready_pop (o := o) hAB hp hl0).2 hi0
        rw [e] at this
        cases this
      · have hil : i < l.length := by
          rcases Nat.lt_or_ge i l.length with h' | h'
          · exact h'
          · exact absurd hir (hno i h')
        have hia := (ready_pop (o := o) hAB hp hil).1 hir
        have hop := h.2 i hia
        unfold wpOp at hop ⊢
        have e1 : (l ++ [o]).toArray[i]? = some l[i] := by simp [List.getElem?_append_left hil, hil]
        have e2 : l.toArray[i]? = some l[i] := by simp [hil]
        have hg := plain_guard hp (List.getElem?_eq_getElem hil)
        rw [e2] at hop
        rw [e1]
        simp only [] at hop ⊢
        rw [if_pos (by simp [Region.wanted, hg])] at hop
        rw [if_pos (by simp [Region.wanted, hg])]
        refine hop.imp (fun h1 => oper_pop (fun a' w' hk => ?_) h1) (fun h1 => ⟨h1.1, h1.2⟩)
        refine ih _ _ a' w' (by simp [hA]) (fun j hj => ?_) (hi.set hir hil) hk
        by_cases hji : i = j
        · subst hji
          rw [Array.getD_eq_getD_getElem?, Array.getD_eq_getD_getElem?, Array.getD_eq_getD_getElem?, Array.getD_eq_getD_getElem?, Array.getElem?_setIfInBounds_self_of_lt (by omega), Array.getElem?_setIfInBounds_self_of_lt (by omega)]
          simp
        · rw [getD_set_ne true hji, getD_set_ne false hji, getD_set_ne true hji, getD_set_ne false hji]
          exact hAB j hj
theorem region_pop {id : Nat} {l : List Oper} {o : Oper} {a : Act} {w : World} {S : World → Prop} (hm : P.follows .mixedOrders = true) (hp : plainB l = true) (ho : o.guard = none) (hoa : (o.after.all fun e => decide (e.on < l.length)) = true)
    (hs : Region.sinkB .any (l ++ [o]).toArray l.length = true) (hS : S w.drew)
    (h : S w.drew → wpAnyH P .any l.toArray (Popped P (l ++ [o]).toArray o Q) S l.length (Array.replicate l.length false) a w.drew) : (Code.region id (l ++ [o]).toArray true).wp P Q a w := by
  refine wp_region_any hm ?_
  have hk := wpAny_of_held _ _ _ _ (h hS)
  rw [show (l ++ [o]).toArray.size = l.length + 1 from by simp]
  refine wpAny_pop hp ho (by simp only [Array.all_eq_true_iff_forall_mem, decide_eq_true_eq] at hoa; exact hoa) hs _ _ _ _ _ (by simp) (fun j hj => ?_) ⟨by simp, fun j oj _ hl => (by rw [getD_replicate_false] at hl; cases hl), fun t _ ht => getD_in (by simpa using ht) (getD_replicate_false _ _)⟩ hk
  constructor
  · rw [getD_in (by simp; omega) (getD_replicate_false _ _), getD_in (by simp; omega) (getD_replicate_false _ _)]
  · rw [getD_replicate_false, getD_replicate_false]
theorem region_popN {id : Nat} {ops : List Oper} (n : Nat) {l : List Oper} {o : Oper} {a : Act} {w : World} {S : World → Prop} (hl : ops.take n = l) (hd : ops.drop n = [o]) (hm : P.follows .mixedOrders = true) (hp : plainB l = true) (ho : o.guard = none) (hoa : (o.after.all fun e => decide (e.on < l.length)) = true)
    (hs : Region.sinkB .any (l ++ [o]).toArray l.length = true) (hS : S w.drew)
    (h : S w.drew → wpAnyH P .any l.toArray (Popped P (l ++ [o]).toArray o Q) S l.length (Array.replicate l.length false) a w.drew) : (Code.region id ops.toArray true).wp P Q a w := by
  have e : ops = l ++ [o] := by rw [← hl, ← hd, List.take_append_drop]
  rw [e]
  exact region_pop hm hp ho hoa hs hS h
/-- Operation i is taken first; its slot is d. -/
theorem take_op {ops : Array Oper} {md : Region.Mode} {S : World → Prop} {i : Nat} {oi : Oper} (d : Tmp) {v : Value} {fuel : Nat} {listed : Array Bool} {a : Act} {w : World} (hi : ops[i]? = some oi) (hd : oi.dst = some d)
    (hs : Region.noSelect ops = true) (hf : Region.free md ops listed i = true) (hr : (Region.ready md ops listed).contains i = true)
    (hQ : ∀ c a w, Q (.panic c) (a.put oi.dst v) w → Q (.panic c) a w) (hy : YieldsIf P ops S oi v a) (hS : S w)
    (h : wpAnyH P md ops Q S fuel (listed.setIfInBounds i true) { tmps := a.tmps.setIfInBounds d v, defers := a.defers } w) : wpAnyH P md ops Q S (fuel + 1) listed a w := by
  refine wpAnyH_take hi hs hf hr hQ hy hS ?_
  rw [hd]
  exact h
/-- Operation i has no slot (what is asked of it is nothing). -/
theorem ready_one {ops : Array Oper} {md : Region.Mode} {S : World → Prop} (i : Nat) {o : Oper} {fuel : Nat} {listed : Array Bool} {a : Act} {w : World} (hr : Region.ready md ops listed = [i]) (ho : ops[i]? = some o)
    (h : ∀ K' : Act → World → Prop, Shut (∀ a w, S w → (S w → wpAnyH P md ops Q S fuel (listed.setIfInBounds i true) a w) → K' a w) → if Region.wanted o (yielded ops a.tmps) = true then Oper.wp P o a w K' Q else K' (a.put o.dst undef) w) :
    wpAnyH P md ops Q S (fuel + 1) listed a w :=
  wpAnyH_ready hr (by simp) (AllReadyH.cons ho h AllReadyH.nil)
/-- An operation of a plain region that leaves a value in slot d. -/
theorem list_op {ops : Array Oper} {rest : List Oper} {o : Oper} (d : Tmp) {v : Value} {a : Act} {w w1 : World} (hg : o.guard = none) (hd : o.dst = some d) (hr : (execOp a.eval o).run P w = .ok (.value v) w1)
    (h : wpList P ops Q rest { tmps := a.tmps.setIfInBounds d v, defers := a.defers } w1) : wpList P ops Q (o :: rest) a w := by
  unfold wpList
  rw [if_pos (by simp [Region.wanted, hg])]
  left
  unfold Oper.wp
  rw [hr, Oper.upon_value, hd]
  exact h
end
end Go.Proofs.Ytlfplcidgccgdaa.Y
