/-
  Rows at an offset (what is left of a row behind a cut in front), of cells of one: append.
-/
import Derived.Test.YtlfplcidgccgdaaYA
import Derived.Test.YtlfplcidgccgdaaYB
set_option linter.unusedVariables false
set_option linter.unusedSimpArgs false
namespace Go.Proofs.Ytlfplcidgccgdaa.Y
open Go.RowKit

/-- A part of a row of the call's own: these values, from an offset on. -/
def RowO (w : World) (B : Nat) (e : TypeId) (v : Value) (xs : List Value) : Prop :=
  ∃ g off cap cur, v = .slice (some ⟨g, off, none⟩) xs.length cap ∧ B ≤ g ∧ w.heap[g]? = some (.cells cur e (0, 0)) ∧ xs.length ≤ cap ∧ cap ≤ maxLen ∧ off + cap = cur.size ∧ (cur.toList.drop off).take xs.length = xs
theorem RowO.cells {w : World} {B : Nat} {e : TypeId} {v : Value} {xs : List Value} (h : RowO w B e v xs) : ∃ g off cap, v = .slice (some ⟨g, off, none⟩) xs.length cap ∧ B ≤ g ∧ g < w.heap.size ∧ xs.length ≤ cap ∧ cap ≤ maxLen ∧ ∀ (j : Nat) u, xs[j]? = some u → w.cell? ⟨g, off + j, none⟩ = some u := by
  obtain ⟨g, off, cap, cur, rfl, hb, hg, h1, h2, h3, h4⟩ := h
  refine ⟨g, off, cap, rfl, hb, (Array.getElem?_eq_some_iff.1 hg).1, h1, h2, fun j u hu => ?_⟩
  have hj := (List.getElem?_eq_some_iff.1 hu).1
  rw [cell_of_row _ _ _ _ _ _ hg]
  have : ((cur.toList.drop off).take xs.length)[j]? = some u := by rw [h4]; exact hu
  rw [List.getElem?_take_of_lt hj, List.getElem?_drop] at this
  simpa using this
theorem RowO.kept {w w1 : World} {B : Nat} {e : TypeId} {v : Value} {xs : List Value} (h : RowO w B e v xs) (hk : ∀ k, v.ownBlock = some k → w1.heap[k]? = w.heap[k]?) : RowO w1 B e v xs := by
  obtain ⟨g, off, cap, cur, rfl, hb, hg, r⟩ := h
  exact ⟨g, off, cap, cur, rfl, hb, (hk g rfl).trans hg, r⟩
theorem RowO.at_ {w : World} {B : Nat} {e : TypeId} {v : Value} {xs : List Value} (h : RowO w B e v xs) {g : Nat} (hg : v.ownBlock = some g) : ∃ cur, w.heap[g]? = some (.cells cur e (0, 0)) := by
  obtain ⟨g', off, cap, cur, rfl, hb, hh, _⟩ := h
  simp [Value.ownBlock] at hg
  subst hg
  exact ⟨cur, hh⟩
/-- A literal of one row. -/
theorem RowO.new (w : World) {B : Nat} (e : TypeId) (xs : List Value) (hB : B ≤ w.heap.size) (hm : xs.length ≤ maxLen) : RowO (w.alloc (.cells xs.toArray e)) B e (.slice (some ⟨w.heap.size, 0, none⟩) xs.length xs.length) xs :=
  ⟨w.heap.size, 0, xs.length, xs.toArray, rfl, hB, heap_alloc_new w _, Nat.le_refl _, hm, by simp, by simp⟩
/-- What is left behind a cut in front. -/
theorem RowO.cut {w : World} {B g off cap n : Nat} {e : TypeId} {xs : List Value} (h : RowO w B e (.slice (some ⟨g, off, none⟩) xs.length cap) xs) (hn : n ≤ xs.length) : RowO w B e (.slice (some ⟨g, off + n, none⟩) (xs.length - n) (cap - n)) (xs.drop n) := by
  obtain ⟨g', off', cap', cur, e1, hb, hg, h1, h2, h3, h4⟩ := h
  injection e1 with e1 e2 e3
  injection e1 with e1
  injection e1 with e1 e4
  subst e1; subst e4; subst e3
  refine ⟨g, off + n, cap - n, cur, by simp, hb, hg, by simp; omega, by omega, by omega, ?_⟩
  rw [List.length_drop, ← List.drop_drop, ← List.drop_take, h4]
theorem RowO.lt' {w : World} {B : Nat} {e : TypeId} {v : Value} {xs : List Value} (h : RowO w B e v xs) {k : Nat} (hk : v.ownBlock = some k) : B ≤ k ∧ k < w.heap.size := by
  obtain ⟨g, off, cap, rfl, hb, hl, _⟩ := h.cells
  simp [Value.ownBlock] at hk
  subst hk
  exact ⟨hb, hl⟩
theorem one_cell (w : World) (t : TypeId) (u : Value) : ∀ (j : Nat) x, [u][j]? = some x → (w.alloc (.cells #[u] t)).cell? ((⟨w.heap.size, 0, none⟩ : Addr).add j) = some x := fun j x hx => by
  match j, hx with
  | 0, hx =>
    injection hx with hx
    subst hx
    rw [add_plain, cell_of_row _ _ _ _ _ _ (heap_alloc_new w _)]
    rfl
  | (k + 1), hx => simp at hx
theorem one_one {u : Value} (h : u.oneCell' = true) : ∀ x ∈ [u], x.oneCell' = true := fun x hx => by
  simp at hx
  subst hx
  exact h
section
variable {P : Program} {w : World}
theorem run_append_roomO (t ty e : TypeId) (i : TypeInfo) (ht : P.underlying t = some (.slice e)) (hi : P.info? e = some i) (hi1 : i.size = 1)
    (g off sLen sCap : Nat) (cur : Array Value) (hg : w.heap[g]? = some (.cells cur e (0, 0)))
    (a : Addr) (m c : Nat) (news : List Value) (hl : news.length = m) (hnews : ∀ j u, news[j]? = some u → w.cell? (a.add j) = some u) (h1 : ∀ u ∈ news, u.oneCell' = true)
    (hroom : sLen + m ≤ sCap) (hfit : off + sLen + news.length ≤ cur.size) :
    (Builtin.append_ #[t, t] ty #[.slice (some ⟨g, off, none⟩) sLen sCap, .slice (some a) m c]).run P w =
      .ok (.slice (some ⟨g, off, none⟩) (sLen + m) sCap) (w.setRow g (cur.toList.take (off + sLen) ++ news ++ cur.toList.drop (off + sLen + news.length)).toArray) := by
  have hf := run_firstCells_some (P := P) w i.size m a m c news (by rw [hi1]; omega) hnews
  have hst := run_storeCells_at P g (off + sLen) e news 0 cur w hg (by simpa using hfit) h1
  simp only [Nat.add_zero] at hst
  rw [hi1] at hf
  simp [Builtin.append_, run_underlying ht, sizeOf, typeInfo, hi, hi1, Builtin.lenOf, hroom, hf, Addr.add_lit, hst]
theorem append_runO (base : Nat) (t ty e : TypeId) (i : TypeInfo) (z : Value) (bytes : Nat) (ht : P.underlying t = some (.slice e)) (hi : P.info? e = some i) (hz : i.zero = some z)
    (hsize : i.size = 1) (hby : i.bytes = bytes) (hzs : z.cells.size = 1) (v : Value) (xs : List Value) (hown : RowO w base e v xs)
    (a : Addr) (m c : Nat) (news : List Value) (hl : news.length = m) (hnews : ∀ j u, news[j]? = some u → w.cell? (a.add j) = some u) (h1 : ∀ u ∈ news, u.oneCell' = true) (hm : 0 < m)
    (h63 : xs.length + m ≤ maxLen) (hbytes : ((xs.length + m) + (xs.length + m + 768) / 4 + 256) * bytes ≤ 281474976710656) (hbase : base ≤ w.heap.size) :
    ∃ v' w', (Builtin.append_ #[t, t] ty #[v, .slice (some a) m c]).run P w = .ok v' w' ∧ RowO w' base e v' (xs ++ news) ∧ w.grownBy w' v.ownBlock ∧ ((∃ g off cap, v = .slice (some ⟨g, off, none⟩) xs.length cap ∧ v' = .slice (some ⟨g, off, none⟩) (xs.length + m) cap) ∨ v'.ownBlock = some w.heap.size) ∧
      (∀ g off cap n, v = .slice (some ⟨g, off, none⟩) xs.length cap → n ≤ xs.length → RowO w' base e (.slice (some ⟨g, off, none⟩) n cap) (xs.take n)) := by
  subst hby
  have hlen : (xs ++ news).length = xs.length + m := by rw [List.length_append, hl]
  have h63' : ((xs.length + m : Nat) : Int) ≤ 9223372036854775807 := by simp only [maxLen] at h63; omega
  obtain ⟨g, off, cap, hv, hbg, hgl, hnc, hcm, hcells⟩ := hown.cells
  obtain ⟨g', off', cap', cur, hv', _, hg, _, _, hcs, htake⟩ := hown
  rw [hv] at hv'
  injection hv' with e1 _ e3
  injection e1 with e1
  injection e1 with e1 e4
  subst e1; subst e4; subst e3
  subst hv
  have hoff : off ≤ cur.toList.length := by rw [Array.length_toList]; omega
  by_cases hroom : xs.length + m ≤ cap
  · have hr := run_append_roomO (P := P) (w := w) t ty e i ht hi hsize g off xs.length cap cur hg a m c news hl hnews h1 hroom (by omega)
    refine ⟨_, _, hr, ⟨g, off, cap, _, by rw [hlen], hbg, setRow_heap w g cur _ e _ hg, by rw [hlen]; exact hroom, hcm, ?_, ?_⟩, ⟨rfl, rfl, rfl, by simp, fun k _ hk => setRow_other w g k _ (fun e => hk (by simp [Value.ownBlock, e]))⟩, .inl ⟨g, off, cap, rfl, rfl⟩, fun g2 off2 cap2 n hv2 hn => ?_⟩
    · simp only [List.size_toArray, List.length_append, List.length_take, List.length_drop, Array.length_toList]
      omega
    · rw [List.append_assoc, List.drop_append, List.drop_take, Nat.add_sub_cancel_left, htake, List.length_take, show off - min (off + xs.length) cur.toList.length = 0 from Nat.sub_eq_zero_of_le (Nat.le_min.2 ⟨Nat.le_add_right _ _, hoff⟩), List.drop_zero, ← List.append_assoc]
      exact List.take_left
    · injection hv2 with e1 _ e3
      injection e1 with e1
      injection e1 with e1 e4
      subst e1; subst e4; subst e3
      have hnl : (xs.take n).length = n := by rw [List.length_take]; omega
      refine ⟨g, off, cap, _, by rw [hnl], hbg, setRow_heap w g cur _ e _ hg, by omega, hcm, ?_, ?_⟩
      · simp only [List.size_toArray, List.length_append, List.length_take, List.length_drop, Array.length_toList]
        omega
      · rw [hnl, List.append_assoc, List.drop_append, List.drop_take, Nat.add_sub_cancel_left, htake, List.length_take, show off - min (off + xs.length) cur.toList.length = 0 from Nat.sub_eq_zero_of_le (Nat.le_min.2 ⟨Nat.le_add_right _ _, hoff⟩), List.drop_zero]
        exact List.take_append_of_le_length hn
  · have hr := run_append_grow (P := P) w t ty e i z ht hi hz ⟨g, off, none⟩ xs.length cap xs (by rw [hsize, Nat.mul_one]) (fun j u hu => by rw [add_plain]; exact hcells j u hu) a m c news (by rw [hsize, Nat.mul_one]; exact hl) hnews (by omega) h63'
      (Nat.le_trans (Nat.mul_le_mul_right _ (nextcap_le (by omega))) hbytes)
    have hge := grownCap_ge w (xs.length + m) cap e
    have hcm2 : grownCap w (xs.length + m) cap e ≤ maxLen := grownCap_le_maxLen w (xs.length + m) cap e h63
    refine ⟨_, _, hr, ⟨w.heap.size, 0, _, _, by rw [hlen], hbase, heap_alloc_new w.drew _, by rw [hlen]; exact hge, hcm2, ?_, ?_⟩, ⟨rfl, rfl, rfl, by simp, fun k hk _ => _root_.Go.heap_alloc_old w.drew _ hk⟩, .inr rfl, fun g2 off2 cap2 n hv2 hn => ?_⟩
    · simp only [Array.size_append, List.size_toArray, size_zeroCells, hzs, hl, Nat.mul_one, Nat.zero_add]
      omega
    · simp only [Array.toList_append, List.drop_zero]
      exact List.take_left
    · injection hv2 with e1 _ e3
      injection e1 with e1
      injection e1 with e1 e4
      subst e1; subst e4; subst e3
      have hnl : (xs.take n).length = n := by rw [List.length_take]; omega
      refine ⟨g, off, cap, cur, by rw [hnl], hbg, (_root_.Go.heap_alloc_old w.drew _ hgl).trans hg, by omega, hcm, hcs, ?_⟩
      rw [hnl]
      conv => rhs; rw [← htake]
      rw [List.take_take, Nat.min_eq_left hn]
theorem wpList_append_rowO {P : Program} {ops : Array Oper} {rest : List Oper} {o : Oper} {a : Act} {Q : Exit → Act → World → Prop} {w : World} (hgd : Region.wanted o (yielded ops a.tmps) = true) (s x : Operand) (t e : TypeId)
    (ho : o.op = .call { callee := .builtin .append, args := #[s, x], argTypes := #[t, t] })
    (base : Nat) {z : Value} {bytes : Nat} (ht : P.underlying t = some (.slice e)) (hinfo : (P.info? e).map (fun i => (i.zero, i.size, i.bytes)) = some (some z, 1, bytes)) (hzs : z.cells.size = 1)
    (v : Value) (xs : List Value) (hs : a.eval s = v) (hown : RowO w base e v xs) (A : Addr) (m c : Nat) (hx : a.eval x = .slice (some A) m c) (ys : List Value) (hm : ys.length = m) (hpos : 0 < m)
    (hA : ∀ j u, ys[j]? = some u → w.cell? (A.add j) = some u) (h1 : ∀ u ∈ ys, u.oneCell' = true) (h63 : xs.length + m ≤ maxLen) (hbytes : ((xs.length + m) + (xs.length + m + 768) / 4 + 256) * bytes ≤ 281474976710656) (hbase : base ≤ w.heap.size)
    (h : ∀ v' w', RowO w' base e v' (xs ++ ys) → w.grownBy w' v.ownBlock → ((∃ g off cap, v = .slice (some ⟨g, off, none⟩) xs.length cap ∧ v' = .slice (some ⟨g, off, none⟩) (xs.length + m) cap) ∨ v'.ownBlock = some w.heap.size) →
      (∀ g off cap n, v = .slice (some ⟨g, off, none⟩) xs.length cap → n ≤ xs.length → RowO w' base e (.slice (some ⟨g, off, none⟩) n cap) (xs.take n)) → wpList P ops Q rest (a.put o.dst v') w') :
    wpList P ops Q (o :: rest) a w := by
  obtain ⟨i0, hi, hzz⟩ := Option.map_eq_some_iff.1 hinfo
  simp only [Prod.mk.injEq] at hzz
  obtain ⟨hz0, hz1, hz2⟩ := hzz
  refine wpList_step fun K hK => ?_
  rw [if_pos hgd]
  obtain ⟨v', w', hr, h2, h3, h4, h5⟩ := append_runO (P := P) (w := w) base t o.type e i0 z bytes ht hi hz0 hz1 hz2 hzs v xs hown A m c ys hm hA h1 hpos h63 hbytes hbase
  unfold Oper.wp execOp
  simp only [ho, resolve, invoke, builtin, Sem.run_bind, Sem.run_pure, Result.andThen_ok, List.map_toArray, List.map_cons, List.map_nil, hs, hx, hr]
  exact hK _ _ (h v' w' h2 h3 h4 h5)
theorem step_append_rowO {P : Program} {o : Oper} {a : Act} {Q : Exit → Act → World → Prop} {w : World} {K : Act → World → Prop} {E : Prop} {yl : Nat → Option Bool} (hgd : o.guard = none) (s x : Operand) (t e : TypeId)
    (ho : o.op = .call { callee := .builtin .append, args := #[s, x], argTypes := #[t, t] })
    (base : Nat) {z : Value} {bytes : Nat} (ht : P.underlying t = some (.slice e)) (hinfo : (P.info? e).map (fun i => (i.zero, i.size, i.bytes)) = some (some z, 1, bytes)) (hzs : z.cells.size = 1)
    (v : Value) (xs : List Value) (hs : a.eval s = v) (hown : RowO w base e v xs) (A : Addr) (m c : Nat) (hx : a.eval x = .slice (some A) m c) (ys : List Value) (hm : ys.length = m) (hpos : 0 < m)
    (hA : ∀ j u, ys[j]? = some u → w.cell? (A.add j) = some u) (h1 : ∀ u ∈ ys, u.oneCell' = true) (h63 : xs.length + m ≤ maxLen) (hbytes : ((xs.length + m) + (xs.length + m + 768) / 4 + 256) * bytes ≤ 281474976710656) (hbase : base ≤ w.heap.size)
    (h : ∀ v' w', RowO w' base e v' (xs ++ ys) → w.grownBy w' v.ownBlock → ((∃ g off cap, v = .slice (some ⟨g, off, none⟩) xs.length cap ∧ v' = .slice (some ⟨g, off, none⟩) (xs.length + m) cap) ∨ v'.ownBlock = some w.heap.size) →
      (∀ g off cap n, v = .slice (some ⟨g, off, none⟩) xs.length cap → n ≤ xs.length → RowO w' base e (.slice (some ⟨g, off, none⟩) n cap) (xs.take n)) → K (a.put o.dst v') w') :
    if Region.wanted o yl = true then Oper.wp P o a w K Q else E := by
  rw [if_pos (by simp [Region.wanted, hgd])]
  obtain ⟨i0, hi, hzz⟩ := Option.map_eq_some_iff.1 hinfo
  simp only [Prod.mk.injEq] at hzz
  obtain ⟨hz0, hz1, hz2⟩ := hzz
  obtain ⟨v', w', hr, h2, h3, h4, h5⟩ := append_runO (P := P) (w := w) base t o.type e i0 z bytes ht hi hz0 hz1 hz2 hzs v xs hown A m c ys hm hA h1 hpos h63 hbytes hbase
  unfold Oper.wp execOp
  simp only [ho, resolve, invoke, builtin, Sem.run_bind, Sem.run_pure, Result.andThen_ok, List.map_toArray, List.map_cons, List.map_nil, hs, hx, hr]
  exact h v' w' h2 h3 h4 h5
theorem step_append_bytesY {P : Program} {o : Oper} {a : Act} {Q : Exit → Act → World → Prop} {w : World} {K : Act → World → Prop} {E : Prop} {yl : Nat → Option Bool} (hgd : o.guard = none) (s x : Operand) (t : TypeId)
    (ho : o.op = .call { callee := .builtin .append, args := #[s, x], argTypes := #[t, t] })
    (base : Nat) (ht : P.underlying t = some (.slice 5)) (hinfo : (P.info? 5).map (fun i => (i.zero, i.size, i.bytes)) = some (some (.int .u8 0), 1, 1))
    (v : Value) (xs ys : List UInt8) (hs : a.eval s = v) (hown : Own w base v xs) (A : Option Addr) (m c : Nat) (hx : a.eval x = .slice A m c) (hm : ys.length = m) (hr : Rd w A ys)
    (hbytes : xs.length + m ≤ 211106232532992) (hbase : base ≤ w.heap.size)
    (h : ∀ v' w', Own w' base v' (xs ++ ys) → w.grownBy w' v.ownBlock → K (a.put o.dst v') w') :
    if Region.wanted o yl = true then Oper.wp P o a w K Q else E := by
  rw [if_pos (by simp [Region.wanted, hgd])]
  obtain ⟨v', w', hr, h2, h3, h4, h5⟩ := append_bytes_run (P := P) (w := w) base t o.type ht hinfo v xs ys hown A m c hm hr hbytes hbase
  unfold Oper.wp execOp
  simp only [ho, resolve, invoke, builtin, Sem.run_bind, Sem.run_pure, Result.andThen_ok, List.map_toArray, List.map_cons, List.map_nil, hs, hx, hr]
  exact h v' w' h2 h3
end
end Go.Proofs.Ytlfplcidgccgdaa.Y
