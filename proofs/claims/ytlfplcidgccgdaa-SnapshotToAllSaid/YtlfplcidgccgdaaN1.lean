/-
  Maps from int to int that the program makes.
-/
import Derived.Test.YtlfplcidgccgdaaD1
import Derived.Test.YtlfplcidgccgdaaYJ
import Derived.Maps.OwnSet
import Derived.Maps.OwnOps
set_option linter.unusedVariables false
set_option linter.unusedSimpArgs false
namespace Go.Proofs.Ytlfplcidgccgdaa.Y
open Go.RowKit Go.Maps

theorem law_int : Keyed Try.prog 3 := int_keyed Try.underlying3
theorem zero_int (w : World) : (zeroValue 3).run Try.prog w = .ok (.int .i64 0) w := by kernel_rfl
def wf64 (k : Int) : Prop := -9223372036854775808 ≤ k ∧ k ≤ 9223372036854775807
theorem wf64.wf {k : Int} (h : wf64 k) : (Lit.int .i64 k).wf = true := by
  obtain ⟨h1, h2⟩ := h
  simp [Lit.wf, IntKind.min, IntKind.max, IntKind.signed, IntKind.bits]
  omega
def updM (M : Int → Option Int) (k : Int) (v : Option Int) (j : Int) : Option Int := if j = k then v else M j
/-- Block b is a map: these entries, so many. -/
def MI (w : World) (b : Nat) (M : Int → Option Int) (sz : Nat) : Prop :=
  ∃ D : DataW Unit, w.ownsMap Try.prog 3 (plainElem Try.prog 3) b sz D ∧ Maps.size D = sz ∧ ∀ k, wf64 k → Maps.has D (.int .i64 k) = (M k).isSome ∧ D.atKey (.int .i64 k) (.lit (.int .i64 0)) = .lit (.int .i64 ((M k).getD 0))
theorem own_tight {w : World} {R : Value → Option (DataW Unit × List MemPlace)} {t : TypeId} {b n : Nat} {D : DataW Unit} (h : w.ownsMap Try.prog t R b n D) : w.ownsMap Try.prog t R b (Maps.size D) D := by
  obtain ⟨es, clock, hb, F, hs, rfl⟩ := h
  exact ⟨es, clock, hb, F, by simp [Maps.size, length_sorted], rfl⟩
section
variable {w : World} {b sz : Nat} {M : Int → Option Int}
theorem MI.lt (h : MI w b M sz) : b < w.heap.size := by obtain ⟨D, h, _⟩ := h; exact h.lt
theorem MI.isMap (h : MI w b M sz) : ∃ es c, w.heap[b]? = some (.map es c) := by obtain ⟨D, ⟨es, c, h, _⟩, _⟩ := h; exact ⟨es, c, h⟩
theorem MI.kept {w1 : World} (h : MI w b M sz) (hb : w1.heap[b]? = w.heap[b]?) : MI w1 b M sz := by
  obtain ⟨D, ⟨es, c, h1, h2⟩, r⟩ := h
  exact ⟨D, ⟨es, c, hb.trans h1, h2⟩, r⟩
theorem MI.below {w1 : World} (h : MI w b M sz) (hb : Below w.heap.size w w1) : MI w1 b M sz := h.kept (hb.block b h.lt)
theorem MI.made (w : World) : MI (w.alloc (.map #[] 0)) w.heap.size (fun _ => none) 0 := ⟨_, World.ownsMap_made _ _ _ _, rfl, fun k _ => ⟨rfl, rfl⟩⟩
set_option maxRecDepth 100000 in
theorem MI.look1 (h : MI w b M sz) {k : Int} (hk : wf64 k) : (Instr.lookup 100 (.map (some b)) (.int .i64 k) false).run Try.prog w = .ok (.int .i64 ((M k).getD 0)) w := by
  obtain ⟨D, ho, _, hD⟩ := h
  obtain ⟨c, hr, hc, _⟩ := ho.lookup_int law_int Try.underlying100 Try.underlying3 (zero_int w) (keyOf_int_mk Try.underlying3 hk.wf)
  rw [(hD k hk).2] at hc
  injection hc with hc
  injection hc with _ hc
  rw [hr, ← hc]
set_option maxRecDepth 100000 in
theorem MI.look2 (h : MI w b M sz) {k : Int} (hk : wf64 k) : (Instr.lookup 100 (.map (some b)) (.int .i64 k) true).run Try.prog w = .ok (.tuple #[.int .i64 ((M k).getD 0), .bool (M k).isSome]) w := by
  obtain ⟨D, ho, _, hD⟩ := h
  obtain ⟨v, ps, hr, hv⟩ := ho.look_ok law_int Try.underlying100 (zero_int w) (plainElem_int Try.underlying3 (by decide)) (keyOf_int_mk Try.underlying3 hk.wf)
  obtain ⟨c, rfl, hc, _⟩ := plainElem_int_inv Try.underlying3 hv
  have hc1 := congrArg Prod.fst hc
  dsimp only at hc1
  rw [(hD k hk).2] at hc1
  injection hc1 with hc1
  injection hc1 with _ hc1
  rw [hr, ← hc1, (hD k hk).1]
theorem MI.len (h : MI w b M sz) (ty : TypeId) : (Builtin.len_ #[100] ty #[.map (some b)]).run Try.prog w = .ok (.int .i64 sz) w := by
  obtain ⟨D, ho, hs, _⟩ := h
  rw [ho.len Try.underlying100 ty, hs]
theorem turned_tch {w w1 : World} {b : Nat} (h : w.mapTurned w1 b) : Tch (fun k => k = b) w w1 := (Tch.refl _ _).grown h.grown (fun j e => .inl (by injection e with e; exact e.symm))
theorem MI.put (h : MI w b M sz) {k v : Int} (hk : wf64 k) (hv : wf64 v) (hs : sz < maxLen) : ∃ w1, (Instr.mapUpdate 100 (.map (some b)) (.int .i64 k) (.int .i64 v)).run Try.prog w = .ok () w1 ∧ MI w1 b (updM M k (some v)) (if (M k).isSome then sz else sz + 1) ∧ Tch (fun j => j = b) w w1 := by
  obtain ⟨D, ho, hsz, hD⟩ := h
  obtain ⟨w1, hr, h1, h2⟩ := ho.store law_int Try.underlying100 hs (keyOf_int_mk Try.underlying3 hk.wf) (plainElem_int Try.underlying3 hv.wf)
  have hkl : WideAt.IsKeyLit (.int .i64 k) := law_int.key (keyOf_int_mk Try.underlying3 hk.wf)
  have e : Maps.size (D.put (.int .i64 k) (.lit (.int .i64 v))) = if (M k).isSome then sz else sz + 1 := by
    rw [size_put (ho.tidy law_int), (hD k hk).1, hsz]
  refine ⟨w1, hr, ⟨_, ?_, e, fun j hj => ?_⟩, turned_tch h2⟩
  · rw [← e]; exact own_tight h1
  · unfold updM
    by_cases q : j = k
    · subst q
      rw [if_pos rfl, has_put_same ho.isMap hkl, atKey_put_same ho.isMap hkl]
      exact ⟨rfl, rfl⟩
    · have hne : Lit.int .i64 j ≠ Lit.int .i64 k := fun e => by injection e with _ e; exact q e
      rw [if_neg q, has_put_other hne, atKey_put_other hne]
      exact hD j hj
theorem MI.del (h : MI w b M sz) {k : Int} (hk : wf64 k) (ty : TypeId) : ∃ w1, (Builtin.delete_ #[100, 3] ty #[.map (some b), .int .i64 k]).run Try.prog w = .ok (.tuple #[]) w1 ∧ MI w1 b (updM M k none) (if (M k).isSome then sz - 1 else sz) ∧ Tch (fun j => j = b) w w1 := by
  obtain ⟨D, ho, hsz, hD⟩ := h
  obtain ⟨w1, hr, h1, h2⟩ := ho.drop law_int Try.underlying100 (keyOf_int_mk Try.underlying3 hk.wf) ty
  have e : Maps.size (D.del (.int .i64 k)) = if (M k).isSome then sz - 1 else sz := by
    have := size_del (k := .int .i64 k) (ho.tidy law_int)
    rw [(hD k hk).1, hsz] at this
    cases hM : (M k).isSome <;> rw [hM] at this <;> simp at this ⊢ <;> omega
  refine ⟨w1, hr, ⟨_, ?_, e, fun j hj => ?_⟩, turned_tch h2⟩
  · rw [← e]; exact own_tight h1
  · unfold updM
    by_cases q : j = k
    · subst q
      rw [if_pos rfl, has_del_same, atKey_del_same]
      exact ⟨rfl, rfl⟩
    · have hne : Lit.int .i64 j ≠ Lit.int .i64 k := fun e => by injection e with _ e; exact q e
      rw [if_neg q, has_del_other hne, atKey_del_other hne]
      exact hD j hj
end
end Go.Proofs.Ytlfplcidgccgdaa.Y
