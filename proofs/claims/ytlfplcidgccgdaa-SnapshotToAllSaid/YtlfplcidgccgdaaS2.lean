/-
  append(v, make([]byte, k)...) onto a row of the call's own; the reference's Seal.
-/
import Derived.Test.YtlfplcidgccgdaaS1
import Derived.Lib.AppendZeros
import Derived.Lib.AppendZerosOnto
set_option linter.unusedVariables false
set_option linter.unusedSimpArgs false
namespace Go.Proofs.Ytlfplcidgccgdaa.Y
open Go.RowKit

theorem zeroCells_bvs (k : Nat) : Builtin.zeroCells (Value.int IntKind.u8 0).cells k = (bvs (zeros k)).toArray := by
  apply Array.ext
  · simp [Builtin.zeroCells, bvs, zeros, Value.cells]
  · intro i h1 h2
    simp [Builtin.zeroCells, bvs, bv, zeros, Value.cells, Nat.mod_one]

section
variable {P : Program} {w : World}
theorem append_zeros_run (base : Nat) (t tn ty : TypeId) (ht : P.underlying t = some (.slice 5)) (htn : P.underlying tn = some (.int .i64)) (hinfo : (P.info? 5).map (fun i => (i.zero, i.size, i.bytes)) = some (some (.int .u8 0), 1, 1))
    (v : Value) (xs : List UInt8) (hown : Own w base v xs) (k : Nat) (hbytes : xs.length + k ≤ 140737488355328) (hbase : base ≤ w.heap.size) :
    ∃ v' w', (Builtin.append_ #[t, tn] ty #[v, .int .i64 k]).run P w = .ok v' w' ∧ Own w' base v' (xs ++ zeros k) ∧ w.grownBy w' v.ownBlock := by
  obtain ⟨i0, hi, hzz⟩ := Option.map_eq_some_iff.1 hinfo
  simp only [Prod.mk.injEq] at hzz
  obtain ⟨hz0, hz1, hz2⟩ := hzz
  have hzv : (zeroValue 5).run P w = .ok (.int .u8 0) w := by simp [zeroValue, typeInfo, hi, hz0]
  have hw : IntKind.i64.wrap (k : Int) = k := by rw [IntKind.wrap_i64]; omega
  have hlk : (zeros k).length = k := zeros_length k
  have hw0 : IntKind.i64.wrap 0 = 0 := by rw [IntKind.wrap_i64]; rfl
  have hkn : ¬ (k : Int) < 0 := by omega
  have hai : ∀ (z : Int) (w : World), (asInt (.int .i64 z)).run P w = .ok z w := fun _ _ => rfl
  rcases Nat.eq_zero_or_pos k with rfl | hk
  · refine ⟨v, w, ?_, by simpa [zeros] using hown, grown_refl _ _⟩
    rcases hown.2 with ⟨rfl, h0⟩ | ⟨g, cap, cur, rfl, _, _, hnc, _⟩
    · simp [Builtin.append_, run_underlying ht, run_underlying htn, sizeOf, typeInfo, hi, hai, hw0, hz1, hz2]
    · have h48 : ¬ ((281474976710656 : Int) < 0) := by decide
      simp [Builtin.append_, run_underlying ht, run_underlying htn, sizeOf, typeInfo, hi, hai, hw0, hz1, hz2, hnc, storeCells]
  rcases hown.2 with ⟨rfl, h0⟩ | ⟨g, cap, cur, rfl, hbg, hg, hnc, hcm, hcs, htake⟩
  · obtain rfl : xs = [] := List.eq_nil_of_length_eq_zero h0
    have hr := Lib.run_append_nil_zeros (P := P) w t tn ty 5 i0 (.int .u8 0) .i64 .i64 ht htn hi hz0 k hk (by omega) (by omega) (by rw [hz2]; simp at hbytes; omega)
    refine ⟨_, _, hr, ?_, ⟨rfl, rfl, rfl, by simp, fun j hj _ => _root_.Go.heap_alloc_old w.drew _ hj⟩⟩
    have hge := grownCap_ge w k 0 5
    have hcm : grownCap w k 0 5 ≤ maxLen := grownCap_le_maxLen w k 0 5 (by simp only [maxLen]; simp at hbytes; omega)
    rw [zeroCells_bvs, zeroCells_bvs]
    refine ⟨by simp [bvs], .inr ⟨w.heap.size, _, _, by simp, hbase, heap_alloc_new w.drew _, by simp; exact hge, hcm, ?_, ?_⟩⟩
    · simp [bvs]; omega
    · simp [bvs]
  · by_cases hroom : xs.length + k ≤ cap
    · have hst := run_storeCells_at P g xs.length 5 (bvs (zeros k)) 0 cur w hg (by simp [bvs, hlk]; omega) (bvs_one _)
      simp only [Nat.add_zero] at hst
      have h48 : ¬ ((281474976710656 : Int) < (k : Int)) := by omega
      have hr : (Builtin.append_ #[t, tn] ty #[.slice (some ⟨g, 0, none⟩) xs.length cap, .int .i64 k]).run P w = .ok (.slice (some ⟨g, 0, none⟩) (xs.length + k) cap) (w.setRow g (cur.toList.take xs.length ++ bvs (zeros k) ++ cur.toList.drop (xs.length + (bvs (zeros k)).length)).toArray) := by
        have hk0 : k ≠ 0 := by omega
        simp [Builtin.append_, run_underlying ht, run_underlying htn, sizeOf, typeInfo, hi, hz1, hz2, hai, hw, h48, hkn, hroom, hk0, hzv, zeroCells_bvs, Addr.add_lit, hst]
      refine ⟨_, _, hr, ⟨by simp [bvs], .inr ⟨g, cap, _, by simp, hbg, setRow_heap w g cur _ _ _ hg, by simp; exact hroom, hcm, ?_, ?_⟩⟩, ⟨rfl, rfl, rfl, by simp, fun k _ hk => setRow_other w g k _ (fun e => hk (by simp [Value.ownBlock, e]))⟩⟩
      · simp [bvs]; omega
      · rw [show cur.toList.take xs.length = bvs xs from by simpa using htake]
        have e : ((xs ++ zeros k).length * 1) = (bvs xs ++ bvs (zeros k)).length := by simp [bvs]
        rw [e, bvs_append]
        exact List.take_left
    · have hold : (Builtin.firstCells i0.size xs.length (.slice (some ⟨g, 0, none⟩) xs.length cap)).run P w.drew = .ok (bvs xs).toArray w.drew := by
        have := run_firstCells_some (P := P) w.drew i0.size xs.length ⟨g, 0, none⟩ xs.length cap (bvs xs) (by rw [hz1]; simp [bvs]) (fun j u hu => World.ownsRow.cells hown (g := g) rfl j u hu)
        exact this
      have hr := Lib.run_append_grow_zeros (P := P) w t tn ty 5 i0 (.int .u8 0) .i64 .i64 ht htn hi hz0 (some ⟨g, 0, none⟩) xs.length cap (bvs xs) hold k hk (by omega) (by omega) (by omega) (by rw [hz2]; omega) (by rw [hz2]; exact growslice_fits (by omega) (by omega))
      refine ⟨_, _, hr, ?_, ⟨rfl, rfl, rfl, by simp, fun j hj _ => _root_.Go.heap_alloc_old w.drew _ hj⟩⟩
      have hge := grownCap_ge w (xs.length + k) cap 5
      have hcm : grownCap w (xs.length + k) cap 5 ≤ maxLen := grownCap_le_maxLen w (xs.length + k) cap 5 (by simp only [maxLen]; omega)
      rw [zeroCells_bvs, zeroCells_bvs]
      refine ⟨by simp [bvs], .inr ⟨w.heap.size, _, _, by simp, hbase, heap_alloc_new w.drew _, by simp; exact hge, hcm, ?_, ?_⟩⟩
      · simp [bvs]; omega
      · have e : ((xs ++ zeros k).length * 1) = (bvs xs ++ bvs (zeros k)).length := by simp [bvs]
        rw [e, bvs_append]
        simp only [Array.toList_append]
        exact List.take_left
end
section
variable {P : Program} {ops : Array Oper} {rest : List Oper} {o : Oper} {a : Act} {Q : Exit → Act → World → Prop} {w : World}
theorem wpList_append_zeros (hgd : Region.wanted o (yielded ops a.tmps) = true) (s x : Operand) (t tn : TypeId)
    (ho : o.op = .call { callee := .builtin .append, args := #[s, x], argTypes := #[t, tn] })
    (base : Nat) (ht : P.underlying t = some (.slice 5)) (htn : P.underlying tn = some (.int .i64)) (hinfo : (P.info? 5).map (fun i => (i.zero, i.size, i.bytes)) = some (some (.int .u8 0), 1, 1))
    (v : Value) (xs : List UInt8) (hs : a.eval s = v) (hown : Own w base v xs) (z : Int) (k : Nat) (hz : z = k) (hx : a.eval x = .int .i64 z)
    (hbytes : xs.length + k ≤ 140737488355328) (hbase : base ≤ w.heap.size)
    (h : ∀ v' w', Own w' base v' (xs ++ zeros k) → w.grownBy w' v.ownBlock → wpList P ops Q rest (a.put o.dst v') w') :
    wpList P ops Q (o :: rest) a w := by
  subst hz
  refine wpList_step fun K hK => ?_
  rw [if_pos hgd]
  obtain ⟨v', w', hr, h2, h3⟩ := append_zeros_run (P := P) (w := w) base t tn o.type ht htn hinfo v xs hown k hbytes hbase
  unfold Oper.wp execOp
  simp only [ho, resolve, invoke, builtin, Sem.run_bind, Sem.run_pure, Result.andThen_ok, List.map_toArray, List.map_cons, List.map_nil, hs, hx, hr]
  exact hK _ _ (h v' w' h2 h3)
end

end Go.Proofs.Ytlfplcidgccgdaa.Y
