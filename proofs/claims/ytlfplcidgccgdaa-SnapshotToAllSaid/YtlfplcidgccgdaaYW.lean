/-
  Writing into a row of bytes of the call's own: a store at an index, copy.
-/
import Derived.Test.YtlfplcidgccgdaaYP
import Derived.Laws.OwnMore
set_option linter.unusedVariables false
set_option linter.unusedSimpArgs false
namespace Go.Proofs.Ytlfplcidgccgdaa.Y
open Go.RowKit

theorem Own.form {w : World} {B : Nat} {v : Value} {xs : List UInt8} (h : Own w B v xs) (hn : 0 < xs.length) : ∃ g c, v = .slice (some ⟨g, 0, none⟩) xs.length c ∧ B ≤ g ∧ g < w.heap.size ∧ xs.length ≤ c ∧ c ≤ maxLen := by
  have h' := h
  rcases h.2 with ⟨_, h0⟩ | ⟨g, cap, cur, rfl, hb, hg, h1, h2, _⟩
  · omega
  · exact ⟨g, cap, rfl, hb, (Array.getElem?_eq_some_iff.1 hg).1, h1, h2⟩
theorem Own.formN {w : World} {B : Nat} {v : Value} {xs : List UInt8} (h : Own w B v xs) {n : Nat} (hn : xs.length = n) (hp : 0 < n) : ∃ g c, v = .slice (some ⟨g, 0, none⟩) n c ∧ B ≤ g ∧ g < w.heap.size ∧ n ≤ c ∧ c ≤ maxLen := by
  subst hn
  exact h.form hp
theorem Own.cellAt {w : World} {B g n c : Nat} {xs : List UInt8} (h : Own w B (.slice (some ⟨g, 0, none⟩) n c) xs) {j : Nat} (hj : j < xs.length) : w.cell? ⟨g, j, none⟩ = some (.int .u8 ((xs[j]'hj).toNat : Int)) := by
  obtain ⟨_, hl, _⟩ := h.rd
  subst hl
  have := World.ownsRow.cellAt (h : w.ownsRow B 5 1 _ _ _) j (by simpa using hj)
  rw [this, bvs_get, List.getElem?_eq_getElem hj]
  rfl
theorem Own.frozenAt {w : World} {B g n c : Nat} {xs : List UInt8} (h : Own w B (.slice (some ⟨g, 0, none⟩) n c) xs) (j : Nat) : w.frozen? ⟨g, j, none⟩ = false := by
  obtain ⟨_, hl, _⟩ := h.rd
  subst hl
  exact World.ownsRow.frozenAt (h : w.ownsRow B 5 1 _ _ _) j
theorem Own.stored {w : World} {B g n c : Nat} {xs : List UInt8} (h : Own w B (.slice (some ⟨g, 0, none⟩) n c) xs) (j : Nat) (x : UInt8) : Own (w.setCell ⟨g, j, none⟩ (bv x)) B (.slice (some ⟨g, 0, none⟩) n c) (xs.set j x) := by
  obtain ⟨_, hl, _⟩ := h.rd
  subst hl
  have := World.ownsRow.stored (h : w.ownsRow B 5 1 _ _ _) j (bv x)
  unfold Own
  have e : bvs (xs.set j x) = (bvs xs).set j (bv x) := by simp [bvs, List.map_set]
  rw [e, List.length_set]
  exact this.1
theorem take_splice {α : Type} (L cs : List α) (o n : Nat) (h : o + cs.length ≤ n) (hn : n ≤ L.length) : (splice L o cs).take n = splice (L.take n) o cs := by
  have e1 : (L.take n).take o = L.take o := by rw [List.take_take, Nat.min_eq_left (by omega)]
  have e2 : (L.take n).drop (o + cs.length) = (L.drop (o + cs.length)).take (n - (o + cs.length)) := by rw [List.drop_take]
  have e3 : (L.take o).length = o := by rw [List.length_take]; omega
  unfold splice
  rw [e1, e2, List.take_append, e3, List.take_of_length_le (l := L.take o) (by omega), List.take_append, List.take_of_length_le (l := cs) (by omega), Nat.sub_sub]
section
variable {P : Program} {w : World}
theorem copy_own_run (dT sT ty : TypeId) (hu : P.underlying dT = some (.slice 5)) (hinfo : (P.info? 5).map (fun i => (i.zero, i.size, i.bytes)) = some (some (.int .u8 0), 1, 1))
    {B g n c : Nat} {xs ys : List UInt8} (hown : Own w B (.slice (some ⟨g, 0, none⟩) n c) xs) (off dLen dCap sLen sCap : Nat) (dp sp : Option Addr) (hy : ys.length = sLen) (hr : Rd w sp ys) (hp : 0 < dLen → dp = some ⟨g, off, none⟩) (hfit : off + min sLen dLen ≤ n) :
    ∃ w', (Builtin.copy_ #[dT, sT] ty #[.slice dp dLen dCap, .slice sp sLen sCap]).run P w = .ok (goInt (ys.take dLen).length) w' ∧ Own w' B (.slice (some ⟨g, 0, none⟩) n c) (splice xs off (ys.take dLen)) ∧ w.grownBy w' (some g) := by
  have hsz : (P.info? 5).map (·.size) = some 1 := by
    obtain ⟨i0, hi, hzz⟩ := Option.map_eq_some_iff.1 hinfo
    simp only [Prod.mk.injEq] at hzz
    rw [hi]
    simp [hzz.2.1]
  have hk : (ys.take dLen).length = min sLen dLen := by rw [List.length_take, hy]; exact Nat.min_comm _ _
  obtain ⟨_, hl, _⟩ := hown.rd
  subst hl
  by_cases h0 : ys.take dLen = []
  · have hz : min sLen dLen = 0 := by rw [← hk, h0]; rfl
    refine ⟨w, ?_, ?_, grown_refl _ _⟩
    · have := run_copy_none (P := P) w dT sT ty 5 dp sp dLen dCap sLen sCap hu hsz hz
      rw [this, h0]
      rfl
    · rw [h0]
      simpa [splice] using hown
  · have hpos : 0 < min sLen dLen := by
      rw [← hk]
      exact List.length_pos_iff.2 h0
    obtain rfl := hp (by omega)
    have hne : ys ≠ [] := by intro e; subst e; simp at h0
    obtain ⟨b, o', rfl, hc⟩ := hr.at_ hne
    have hown' := hown
    obtain ⟨q1, q2⟩ := hown
    rcases q2 with ⟨e, _⟩ | ⟨g', cap, cur, e, hb, hg, h1, h2, h3, h4⟩
    · cases e
    injection e with e1 e2 e3
    injection e1 with e1
    injection e1 with e1
    subst e1; subst e3
    have hlen : (bvs (ys.take dLen)).length = (ys.take dLen).length := bvs_length _
    have hrun := run_copy_row (P := P) w dT sT ty 5 g off dLen dCap ⟨b, o', none⟩ sLen sCap cur 5 (bvs (ys.take dLen)) hu hsz hg (by rw [hlen, hk]) (by
      intro j u hu
      rw [bvs_get] at hu
      obtain ⟨x, hx, rfl⟩ := Option.map_eq_some_iff.1 hu
      rw [add_plain]
      refine hc j x ?_
      rw [List.getElem?_take] at hx
      split at hx
      · exact hx
      · cases hx) (by rw [hlen, hk, h3]; omega) (bvs_one _)
    rw [hlen] at hrun
    refine ⟨_, hrun, ⟨by simp [bvs, splice, hk]; omega, .inr ⟨g, c, _, by rw [length_splice _ _ _ (by omega)], hb, setRow_heap w g cur _ _ _ hg, by rw [length_splice _ _ _ (by omega)]; exact h1, h2, ?_, ?_⟩⟩, grown_setRow _ _ _⟩
    · simp [hk, bvs]; omega
    · have hq : splice cur.toList off (bvs (ys.take dLen)) = cur.toList.take off ++ bvs (ys.take dLen) ++ cur.toList.drop (off + (ys.take dLen).length) := by simp [splice, hlen]
      rw [← hq, length_splice _ _ _ (by omega), take_splice _ _ _ _ (by rw [hlen, hk]; omega) (by simp; omega), h4, splice_bvs]
end
section
variable {P : Program} {ops : Array Oper} {o : Oper} {a : Act} {Q : Exit → Act → World → Prop} {w : World}
theorem step_copy_own {K : Act → World → Prop} {E : Prop} (hgd : o.guard = none) (d s : Operand) (dT sT : TypeId)
    (ho : o.op = .call { callee := .builtin .copy, args := #[d, s], argTypes := #[dT, sT] }) (hu : P.underlying dT = some (.slice 5)) (hinfo : (P.info? 5).map (fun i => (i.zero, i.size, i.bytes)) = some (some (.int .u8 0), 1, 1))
    {B g n c : Nat} {xs ys : List UInt8} (hown : Own w B (.slice (some ⟨g, 0, none⟩) n c) xs) (off dLen dCap sLen sCap : Nat) (dp sp : Option Addr) (hd : a.eval d = .slice dp dLen dCap) (hs : a.eval s = .slice sp sLen sCap) (hy : ys.length = sLen) (hr : Rd w sp ys) (hp : 0 < dLen → dp = some ⟨g, off, none⟩) (hfit : off + min sLen dLen ≤ n)
    (hk : ∀ w', Own w' B (.slice (some ⟨g, 0, none⟩) n c) (splice xs off (ys.take dLen)) → w.grownBy w' (some g) → K (a.put o.dst (goInt (ys.take dLen).length)) w') :
    if Region.wanted o (yielded ops a.tmps) = true then Oper.wp P o a w K Q else E := by
  rw [if_pos (by simp [Region.wanted, hgd])]
  obtain ⟨w', hr, h2, h3⟩ := copy_own_run dT sT o.type hu hinfo hown off dLen dCap sLen sCap dp sp hy hr hp hfit
  unfold Oper.wp execOp
  simp only [ho, resolve, invoke, builtin, Sem.run_bind, Sem.run_pure, Result.andThen_ok, List.map_toArray, List.map_cons, List.map_nil, hd, hs, hr]
  exact hk w' h2 h3
end
end Go.Proofs.Ytlfplcidgccgdaa.Y
