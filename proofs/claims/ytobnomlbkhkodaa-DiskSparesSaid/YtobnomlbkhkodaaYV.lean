/-
  chancerylow.markByte; the words for chancerylow.ApartBytes.
-/
import Derived.Test.YtobnomlbkhkodaaYU
import Derived.Test.YtobnomlbkhkodaaD3
set_option linter.unusedVariables false
set_option linter.unusedSimpArgs false
namespace Go.Proofs.Ytobnomlbkhkodaa.Y
open Go.RowKit
attribute [local go_sem ↓] Go.wp_at_zero Go.wp_at_succ

def markI (k i : Int) : Int := IntKind.u64.wrap ((1000003 * (k + 7) + i) * 11400714819323198485) / 72057594037927936 % 256
def markB (k i : Nat) : UInt8 := UInt8.ofNat (markI k i).toNat
theorem markB_cast (k i : Nat) : ((markB k i).toNat : Int) = markI k i := by
  unfold markB
  rw [ofNat_cell]
  unfold markI
  omega
theorem mark_any (k i : Nat) (hk : k ≤ 1000000) (hi : i ≤ 1000000000) (z : Int) (hz : z = (i : Int)) (w : World) : Calls Try.prog 62 #[.int .i64 k, .int .i64 z] w fun e w' => e = .returned (.int .u8 ((markB k i).toNat : Int)) ∧ w = w' := by
  rw [markB_cast]
  subst hz
  go_enter Try.func62, Try.ntmps62
  go_wp2
  go_ret
  exact ⟨rfl, rfl⟩
def marks (k n : Nat) : List UInt8 := (List.range n).map (markB k)
@[simp] theorem marks_length (k n : Nat) : (marks k n).length = n := by simp [marks]
theorem marks_succ (k n : Nat) : marks k (n + 1) = marks k n ++ [markB k n] := by simp [marks, List.range_succ]
theorem marks_get {k n i : Nat} (h : i < n) : (marks k n)[i]? = some (markB k i) := by simp [marks, h]
theorem marks_set (k i : Nat) (xs : List UInt8) (h : i < xs.length) : (marks k i ++ xs.drop i).set i (markB k i) = marks k (i + 1) ++ xs.drop (i + 1) := by
  rw [List.set_append_right _ _ (by simp), marks_length, Nat.sub_self, marks_succ, List.append_assoc]
  congr 1
  rw [List.drop_eq_getElem_cons h]
  rfl
/-- The lists while they are marked: those under k are, of list k the first i bytes. -/
def X1 (X : Nat → List UInt8) (k i j : Nat) : List UInt8 := if j < k then marks j (X j).length else if j = k then marks k i ++ (X k).drop i else X j
theorem X1_zero (X : Nat → List UInt8) (j : Nat) : X1 X 0 0 j = X j := by
  unfold X1
  rw [if_neg (Nat.not_lt_zero _)]
  split
  · rename_i h; subst h; simp [marks]
  · rfl
theorem X1_self (X : Nat → List UInt8) (k i : Nat) : X1 X k i k = marks k i ++ (X k).drop i := by
  unfold X1
  rw [if_neg (Nat.lt_irrefl _), if_pos rfl]
theorem X1_len {X : Nat → List UInt8} {k i j : Nat} (h : i ≤ (X k).length) : (X1 X k i j).length = (X j).length := by
  unfold X1
  split
  · simp
  · split
    · rename_i h2; subst h2; simp; omega
    · rfl
theorem X1_step {X : Nat → List UInt8} {k i : Nat} (h : i < (X k).length) (j : Nat) : (if j = k then (X1 X k i k).set i (markB k i) else X1 X k i j) = X1 X k (i + 1) j := by
  by_cases hj : j = k
  · subst hj
    rw [if_pos rfl, X1_self, X1_self, marks_set _ _ _ h]
  · rw [if_neg hj]
    unfold X1
    rw [if_neg hj, if_neg hj]
theorem X1_next (X : Nat → List UInt8) (k j : Nat) : X1 X k (X k).length j = X1 X (k + 1) 0 j := by
  unfold X1
  by_cases h1 : j < k
  · rw [if_pos h1, if_pos (by omega)]
  · rw [if_neg h1]
    by_cases h2 : j = k
    · subst h2
      rw [if_pos rfl, if_pos (by omega), List.drop_eq_nil_of_le (Nat.le_refl _), List.append_nil]
    · rw [if_neg h2, if_neg (by omega)]
      split
      · rename_i h3; subst h3; simp [marks]
      · rfl
theorem X1_all {X : Nat → List UInt8} {m j : Nat} (h : j < m) : X1 X m 0 j = marks j (X j).length := by
  unfold X1
  rw [if_pos h]
def rowsOf (vs : List Value) (b : Nat) : Prop := ∃ (j : Nat) (v : Value), vs[j]? = some v ∧ v.ownBlock = some b
/-- The state of ApartBytes. -/
structure AW (w0 : World) (B gl cl m k : Nat) (vs gv : List Value) (X Y : Nat → List UInt8) (w : World) : Prop where
  ag : AG w B m k vs gv X Y
  ls : RowO w 0 23 (.slice (some ⟨gl, 0, none⟩) m cl) vs
  gs : Ob w w0.heap.size 23 gv
  tch : Tch (rowsOf vs) w0 w
  hl : gl < w0.heap.size
  hB : B ≤ w0.heap.size
section
variable {w0 w : World} {B gl cl m k : Nat} {vs gv : List Value} {X Y : Nat → List UInt8}
theorem AW.below {w1 : World} (h : AW w0 B gl cl m k vs gv X Y w) (hb : Below w.heap.size w w1) : AW w0 B gl cl m k vs gv X Y w1 :=
  ⟨h.ag.below hb, h.ls.kept (fun b hk => hb.block b (h.ls.lt hk).2), h.gs.below hb, h.tch.trans (Tch.below hb), h.hl, h.hB⟩
theorem AW.list (h : AW w0 B gl cl m k vs gv X Y w) {j : Nat} {v : Value} (hv : vs[j]? = some v) : w.cell? ⟨gl, j, none⟩ = some v := by
  obtain ⟨g, off, cap, e, _, _, _, _, hc⟩ := h.ls.cells
  injection e with e _ _
  injection e with e
  injection e with e1 e2
  subst e1; subst e2
  have := hc j v hv
  rwa [Nat.zero_add] at this
/-- The rows' blocks hold bytes. -/
theorem row_typed {e e' : TypeId} {v : Value} {xs cs : List Value} {B g : Nat} (h : RowO w B e v xs) (hg : Ob w g e' cs) (hne : e ≠ e') : ¬ v.ownBlock = some g := by
  intro q
  obtain ⟨cur, hc⟩ := h.at_ q
  have hg' : w.heap[g]? = _ := hg
  rw [hg'] at hc
  injection hc with hc
  injection hc with _ hc
  exact hne hc.symm
theorem row_typed2 {e e' : TypeId} {v u : Value} {xs cs : List Value} {B B' : Nat} (h : RowO w B e v xs) (hg : RowO w B' e' u cs) (hne : e ≠ e') {b : Nat} (h1 : v.ownBlock = some b) (h2 : u.ownBlock = some b) : False := by
  obtain ⟨cur, hc⟩ := h.at_ h1
  obtain ⟨cur', hc'⟩ := hg.at_ h2
  rw [hc] at hc'
  injection hc' with hc'
  injection hc' with _ hc'
  exact hne hc'
theorem AW.store (h : AW w0 B gl cl m 0 vs gv X Y w) {i g off n cap : Nat} (hv : vs[i]? = some (.slice (some ⟨g, off, none⟩) n cap)) (j : Nat) (x : UInt8) :
    AW w0 B gl cl m 0 vs gv (fun c => if c = i then (X i).set j x else X c) Y (w.setCell ⟨g, off + j, none⟩ (bv x)) := by
  have ht : Tch (fun b => b = g) w (w.setCell ⟨g, off + j, none⟩ (bv x)) := (Tch.refl _ _).grown (set_grown _ _ _ _) (fun j e => .inl (by injection e with e; exact e.symm))
  have hr := h.ag.row i _ hv
  refine ⟨h.ag.store hv j x, h.ls.kept (fun b hk => ht.block b (h.ls.lt hk).2 (fun e => ?_)), ht.ob h.gs (fun e => row_typed hr h.gs (by decide) (by rw [e]; rfl)), h.tch.then ht (fun b e => .inl ⟨i, _, hv, by rw [e]; rfl⟩), h.hl, h.hB⟩
  exact row_typed2 hr h.ls (by decide) (b := g) rfl (by rw [← e]; exact hk)
theorem AW.congr {X' Y' : Nat → List UInt8} (h : AW w0 B gl cl m k vs gv X Y w) (hX : ∀ j, j < m → X j = X' j) (hY : ∀ j, j < k → j < m → Y j = Y' j) : AW w0 B gl cl m k vs gv X' Y' w :=
  ⟨h.ag.congr hX hY, h.ls, h.gs, h.tch, h.hl, h.hB⟩
end
/-- While list k grows. -/
structure AJ (w0 : World) (B gl cl m k : Nat) (vs gv : List Value) (X Y : Nat → List UInt8) (u : Value) (Z : List UInt8) (w : World) : Prop extends AW w0 B gl cl m k vs gv X Y w where
  ak : AK w B m k vs gv X Y u Z
  cb : ∀ b, u.ownBlock = some b → rowsOf vs b ∨ w0.heap.size ≤ b
section
variable {w0 w : World} {B gl cl m k : Nat} {vs gv : List Value} {X Y : Nat → List UInt8} {u : Value} {Z : List UInt8}
theorem AW.begin (h : AW w0 B gl cl m k vs gv X Y w) {v : Value} (hv : vs[k]? = some v) : AJ w0 B gl cl m k vs gv X Y v (X k) w := ⟨h, h.ag.begin hv, fun b hb => .inl ⟨k, v, hv, hb⟩⟩
theorem AJ.below {w1 : World} (h : AJ w0 B gl cl m k vs gv X Y u Z w) (hb : Below w.heap.size w w1) : AJ w0 B gl cl m k vs gv X Y u Z w1 := ⟨h.toAW.below hb, h.ak.below hb, h.cb⟩
theorem AJ.step (h : AJ w0 B gl cl m k vs gv X Y u Z w) {w' : World} {u' : Value} (x : UInt8) (hr' : RowO w' B 5 u' (bvs Z ++ [bv x])) (hg : w.grownBy w' u.ownBlock)
    (hf : (∃ g off cap, u = .slice (some ⟨g, off, none⟩) (bvs Z).length cap ∧ u' = .slice (some ⟨g, off, none⟩) ((bvs Z).length + 1) cap) ∨ u'.ownBlock = some w.heap.size)
    (hp : ∀ g off cap n, u = .slice (some ⟨g, off, none⟩) (bvs Z).length cap → n ≤ (bvs Z).length → RowO w' B 5 (.slice (some ⟨g, off, none⟩) n cap) ((bvs Z).take n)) :
    AJ w0 B gl cl m k vs gv X Y u' (Z ++ [x]) w' := by
  obtain ⟨hk, ht⟩ := h.ak.step x hr' hg hf hp
  refine ⟨⟨hk.toAG, h.ls.kept (fun b hb => ht.block b (h.ls.lt hb).2 (fun e => row_typed2 h.ak.cur h.ls (by decide) e hb)), ht.ob h.gs (row_typed h.ak.cur h.gs (by decide)), h.tch.then ht (fun b hb => h.cb b hb), h.hl, h.hB⟩, hk, fun b hb => ?_⟩
  rcases hf with ⟨g, off, cap, e1, e2⟩ | hf
  · refine h.cb b ?_
    rw [e2] at hb
    rw [e1]
    exact hb
  · rw [hf] at hb
    injection hb with hb
    have := h.tch.size
    exact .inr (by omega)
theorem AJ.done (h : AJ w0 B gl cl m k vs gv X Y u Z w) (hk : k < m) : AW w0 B gl cl m (k + 1) vs (gv.set k u) X (fun c => if c = k then Z else Y c) (w.setCell ⟨w0.heap.size, k, none⟩ u) := by
  have ht : Tch (fun b => b = w0.heap.size) w (w.setCell ⟨w0.heap.size, k, none⟩ u) := (Tch.refl _ _).grown (set_grown _ _ _ _) (fun j e => .inl (by injection e with e; exact e.symm))
  have hd := h.ak.done hk
  have hsz := h.tch.size
  refine ⟨hd.tch ht (fun j b hf e => ?_), h.ls.kept (fun b hb => ht.block b (h.ls.lt hb).2 (fun e => ?_)), h.gs.set k u, h.tch.then ht (fun b e => .inr (by omega)), h.hl, h.hB⟩
  · have hg : w.heap[w0.heap.size]? = _ := h.gs
    rw [← e] at hg
    rcases hf with ⟨v, hv, hb⟩ | ⟨v, hv, hb⟩
    · exact row_typed (hd.row j v hv) h.gs (by decide) (by rw [← e]; exact hb)
    · by_cases hj : j < k + 1
      · exact row_typed (hd.grow j v hj hv) h.gs (by decide) (by rw [← e]; exact hb)
      · rw [hd.rest j v (by omega) hv] at hb
        cases hb
  · have := h.hl
    simp [Value.ownBlock] at hb
    omega
end
end Go.Proofs.Ytobnomlbkhkodaa.Y
