/-
  change.Diff.
-/
import Derived.Test.YtobnomlbkhkodaaC7
import Derived.Laws.EntriesVeiled
set_option linter.unusedVariables false
set_option linter.unusedSimpArgs false
namespace Go.Proofs.Ytobnomlbkhkodaa.Y
open Go.RowKit Go.Shelf
attribute [local go_sem] Oper.semAt_some
attribute [local go_sem ↓] Go.wp_at_zero Go.wp_at_succ

def fromV (s : GS) : Int := match s.2 with | none => -1 | some (a, _) => (a : Int)
def toV (s : GS) : Int := match s.2 with | none => -1 | some (_, b) => (b : Int)
/-- What stands while Diff goes through the unlike places. -/
structure DInv (B gN : Nat) (A : Option Addr) (c : Nat) (ys : List UInt8) (w : World) (pre : List Nat) (W : World) : Prop where
  out : ∃ v, Bx W (gN + 1) 26 v ∧ Pcs W B v ((grp pre).1.map (cutP ys))
  fromB : Bx W (gN + 1 + 1) 3 (.int .i64 (fromV (grp pre)))
  toB : Bx W (gN + 1 + 1 + 1) 3 (.int .i64 (toV (grp pre)))
  nowB : Bx W gN 23 (.slice A 4080 c)
  endB : Bx W (gN + 1 + 1 + 1 + 1) 1 (.func (.func 51) #[] #[.pointer (some ⟨gN + 1 + 1, 0, none⟩), .pointer (some ⟨gN + 1, 0, none⟩), .pointer (some ⟨gN, 0, none⟩), .pointer (some ⟨gN + 1 + 1 + 1, 0, none⟩)])
  low : Below gN w W
  big : B ≤ W.heap.size
theorem dinv_own (B gN : Nat) (A : Option Addr) (c : Nat) (ys : List UInt8) (w : World) {D : Nat} (hw : gN ≤ w.heap.size) (hD : gN ≤ D) : OwnFrom D (DInv B gN A c ys w) := fun pre W W' row h hg hr => by
  have hr' : ∀ r, row = some r → ∃ o : Obj, W.heap[r]? = some o ∧ o.isCells = false := fun r e => (hr r e).2
  obtain ⟨⟨v, h1, h2⟩, h3, h4, h5, h6, h7, h8⟩ := h
  exact ⟨⟨v, h1.keep hg hr', h2.keep hg hr'⟩, h3.keep hg hr', h4.keep hg hr', h5.keep hg hr', h6.keep hg hr', h7.grown hg (by have := h7.size; omega) (fun k e => by have := (hr k e).1; omega), Nat.le_trans h8 hg.size⟩
theorem diff_arg {w : World} {A B : Option Addr} {l m : Nat} (c d : Nat) (hl : l ≤ 140737488555328) (hm : m ≤ 140737488555328) (h : l ≠ 4080 ∨ m ≠ 4080) :
    Calls Try.prog 15 #[.slice A l c, .slice B m d] w fun e w' => e = .returned (.tuple #[.slice none 0 0, .int .i64 2]) ∧ Below w.heap.size w w' := by
  by_cases h1 : l = 4080
  · have h2 : m ≠ 4080 := by omega
    have q1 : ((l : Int) != 4080) = false := by rw [bne_eq_false_iff_eq]; omega
    have q2 : ((m : Int) != 4080) = true := by rw [bne_iff_ne]; omega
    have q3 : (l != 4080) = false := by rw [bne_eq_false_iff_eq]; omega
    have q4 : (m != 4080) = true := by rw [bne_iff_ne]; omega
    clear h h1 h2
    go_enter Try.func15, Try.ntmps15
    go_wp2
    go_ret2
    exact ⟨rfl, balloc (Below.refl _ _) _⟩
  · have q1 : ((l : Int) != 4080) = true := by rw [bne_iff_ne]; omega
    have q3 : (l != 4080) = true := by rw [bne_iff_ne]; omega
    clear h h1
    go_enter Try.func15, Try.ntmps15
    go_wp2
    go_ret2
    exact ⟨rfl, balloc (Below.refl _ _) _⟩
theorem Chg.bx {B g : Nat} {w w' : World} (h : Chg B g w w') {k : Nat} {t : TypeId} {v : Value} (hx : Bx w k t v) (hk : k < B) (hne : k ≠ g) : Bx w' k t v := (h.block k hk hne).trans hx
theorem Chg.refl (B g : Nat) (w : World) : Chg B g w w := ⟨rfl, rfl, rfl, Nat.le_refl _, fun _ _ _ => rfl, fun _ _ h _ => h⟩
/-- The world behind the stores into 'from' and 'to', into 'to' alone. -/
def put2 (gN : Nat) (x : Nat) (W : World) : World := (W.setCell ⟨gN + 1 + 1, 0, none⟩ (.int .i64 x)).setCell ⟨gN + 1 + 1 + 1, 0, none⟩ (.int .i64 x)
def put1 (gN : Nat) (x : Nat) (W : World) : World := W.setCell ⟨gN + 1 + 1 + 1, 0, none⟩ (.int .i64 x)
theorem dinv_put2 {B gN : Nat} {A : Option Addr} {c : Nat} {ys : List UInt8} {w W : World} {pre : List Nat} {x : Nat} {v u u' : Value} (hs : grp (pre ++ [x]) = ((grp (pre ++ [x])).1, some (x, x)))
    (hO : Bx W (gN + 1) 26 v) (hP : Pcs W B v ((grp (pre ++ [x])).1.map (cutP ys))) (hF : Bx W (gN + 1 + 1) 3 u) (hT : Bx W (gN + 1 + 1 + 1) 3 u') (hN : Bx W gN 23 (.slice A 4080 c))
    (hE : Bx W (gN + 1 + 1 + 1 + 1) 1 (.func (.func 51) #[] #[.pointer (some ⟨gN + 1 + 1, 0, none⟩), .pointer (some ⟨gN + 1, 0, none⟩), .pointer (some ⟨gN, 0, none⟩), .pointer (some ⟨gN + 1 + 1 + 1, 0, none⟩)]))
    (hl : Below gN w W) (hB : B ≤ W.heap.size) (hb : gN + 5 ≤ B) : DInv B gN A c ys w (pre ++ [x]) (put2 gN x W) := by
  have e1 : fromV (grp (pre ++ [x])) = x := by rw [hs]; rfl
  have e2 : toV (grp (pre ++ [x])) = x := by rw [hs]; rfl
  refine ⟨⟨v, (hO.other (by omega) _).other (by omega) _, (hP.store (by omega) _).store (by omega) _⟩, ?_, ?_, (hN.other (by omega) _).other (by omega) _, (hE.other (by omega) _).other (by omega) _, (hl.setCell (by simp; omega) _).setCell (by simp; omega) _, ?_⟩
  · rw [e1]; exact ((hF.store _).1.other (by omega) _)
  · rw [e2]; exact ((hT.other (by omega) _).store _).1
  · simp [put2, World.setCell]; exact hB
theorem dinv_put1 {B gN : Nat} {A : Option Addr} {c : Nat} {ys : List UInt8} {w W : World} {pre : List Nat} {x a b : Nat} (h : DInv B gN A c ys w pre W) (hp : (grp pre).2 = some (a, b)) (hs : ¬ b + 8 < x) (hb : gN + 5 ≤ B) : DInv B gN A c ys w (pre ++ [x]) (put1 gN x W) := by
  have e0 : grp (pre ++ [x]) = ((grp pre).1, some (a, x)) := by
    rw [grp_snoc]
    unfold gstep
    rw [hp]
    simp [hs]
  obtain ⟨⟨v, hO, hP⟩, hF, hT, hN, hE, hl, hB⟩ := h
  have e1 : fromV (grp (pre ++ [x])) = fromV (grp pre) := by rw [e0]; unfold fromV; rw [hp]
  have e2 : toV (grp (pre ++ [x])) = x := by rw [e0]; rfl
  refine ⟨⟨v, hO.other (by omega) _, ?_⟩, ?_, ?_, hN.other (by omega) _, hE.other (by omega) _, hl.setCell (by simp; omega) _, ?_⟩
  · rw [e0]; exact hP.store (by omega) _
  · rw [e1]; exact hF.other (by omega) _
  · rw [e2]; exact (hT.store _).1
  · simp [put1, World.setCell]; exact hB
theorem kept_set {n₀ Ba Bb : Nat} {X Y : World} (h : Kept n₀ Ba Bb X Y) {g : Nat} (h1 : n₀ ≤ g) (h2 : g ≠ Ba) (h3 : g ≠ Bb) (v : Value) : Kept n₀ Ba Bb X (Y.setCell ⟨g, 0, none⟩ v) :=
  ⟨h.low.setCell h1 v, (Below.heap_setCell _ _ _ _ (by simpa using h2.symm)).trans h.a, (Below.heap_setCell _ _ _ _ (by simpa using h3.symm)).trans h.b⟩
theorem kept_put1 {gN x : Nat} {X Y : World} (h : Kept gN (gN + 1 + 1 + 1 + 1 + 1) (gN + 1 + 1 + 1 + 1 + 1 + 1) X Y) : Kept gN (gN + 1 + 1 + 1 + 1 + 1) (gN + 1 + 1 + 1 + 1 + 1 + 1) X (put1 gN x Y) :=
  kept_set h (by omega) (by omega) (by omega) _
theorem kept_put2 {gN x : Nat} {X Y : World} (h : Kept gN (gN + 1 + 1 + 1 + 1 + 1) (gN + 1 + 1 + 1 + 1 + 1 + 1) X Y) : Kept gN (gN + 1 + 1 + 1 + 1 + 1) (gN + 1 + 1 + 1 + 1 + 1 + 1) X (put2 gN x Y) :=
  kept_set (kept_set h (by omega) (by omega) (by omega) _) (by omega) (by omega) (by omega) _
theorem kept_chg {gN : Nat} {X Y : World} (h : Chg (gN + 7) (gN + 1) X Y) : Kept gN (gN + 1 + 1 + 1 + 1 + 1) (gN + 1 + 1 + 1 + 1 + 1 + 1) X Y :=
  ⟨h.below (by omega) (by omega), h.block _ (by omega) (by omega), h.block _ (by omega) (by omega)⟩
theorem from_chg {B g D : Nat} {X Y : World} (h : Chg B g X Y) : KeepsFrom D X Y := ⟨h.size, fun k o _ h1 h2 => h.others k o h1 h2⟩
theorem from_put1 {gN x D : Nat} {X Y : World} (h : KeepsFrom D X Y) : KeepsFrom D X (put1 gN x Y) := h.trans ((KeepsOthers.setCell _ _ _).from _)
theorem from_put2 {gN x D : Nat} {X Y : World} (h : KeepsFrom D X Y) : KeepsFrom D X (put2 gN x Y) := (h.trans ((KeepsOthers.setCell _ _ _).from _)).trans ((KeepsOthers.setCell _ _ _).from _)
set_option maxHeartbeats 1600000 in
set_option maxRecDepth 100000 in
theorem diff_in {F : Fence} (hW : Wide F) {w : World} {A B : Option Addr} (c d : Nat) {xs ys : List UInt8} (hx : xs.length = 4080) (hy : ys.length = 4080) (hA : Rd w A xs) (hB : Rd w B ys) (hd : 4080 ≤ d) :
    CallsIn F 6 Try.prog 15 #[.slice A 4080 c, .slice B 4080 d] w fun e w' => ∃ r, e = .returned (.tuple #[r, .int .i64 0]) ∧ Pcs w' w.heap.size r (diffL xs ys) ∧ Below w.heap.size w w' := by
  have hro := hW.round
  have f1 := hW.fn 15
  have f2 := hW.fn 53
  have f3 := hW.fn 75
  have f4 := hW.fn 51
  refine callsIn_of_wp_marks Try.func15 rfl f1 ?_ hro
  simp only [Try.ntmps15, List.size_toArray, List.length_cons, List.length_nil, Nat.reduceAdd, Nat.reduceSub, Array.replicate_succ, Array.replicate_zero, List.push_toArray, List.append_toArray, List.nil_append, List.cons_append]
  gi_wp2_with (gi_at_call 53; refine (unlike_in F _ f2 hro A B 4080 4080 c d _).mono ?_; rintro e w' ⟨rfl, rfl⟩)
  have HA := Lib.hid hA
  have HB := Lib.hid hB
  have HX := Lib.hid hx
  have HY := Lib.hid hy
  clear hA hB hx hy
  obtain ⟨W0, hW0⟩ : ∃ W0, W0 = ((((((w.alloc (.cells #[.slice B 4080 d] 23)).alloc (.cells #[.slice none 0 0] 26)).alloc (.cells #[.int .i64 (-1)] 3)).alloc (.cells #[.int .i64 (-1)] 3)).alloc (.cells #[.func (.func 51) #[] #[.pointer (some ⟨w.heap.size + 1 + 1, 0, none⟩), .pointer (some ⟨w.heap.size + 1, 0, none⟩), .pointer (some ⟨w.heap.size, 0, none⟩), .pointer (some ⟨w.heap.size + 1 + 1 + 1, 0, none⟩)]] 1)).alloc (.cells #[.slice A 4080 c] 23)).alloc (.cells #[.slice B 4080 d] 23) := ⟨_, rfl⟩
  rw [← hW0]
  have hsz : W0.heap.size = w.heap.size + 1 + 1 + 1 + 1 + 1 + 1 + 1 := by rw [hW0]; simp
  have i0 : DInv (w.heap.size + 7) w.heap.size B d ys w [] W0 := by
    rw [hW0]
    refine ⟨⟨_, (((((Bx.newAt _ _ (by simp)).alloc _).alloc _).alloc _).alloc _).alloc _, Pcs.nil _ _⟩, ((((Bx.newAt _ _ (by simp)).alloc _).alloc _).alloc _).alloc _, (((Bx.newAt _ _ (by simp)).alloc _).alloc _).alloc _, ((((((Bx.newAt _ _ (by simp)).alloc _).alloc _).alloc _).alloc _).alloc _).alloc _, ((Bx.newAt _ _ (by simp)).alloc _).alloc _, ?_, by simp⟩
    exact balloc (balloc (balloc (balloc (balloc (balloc (balloc (Below.refl _ _) _) _) _) _) _) _) _
  have b5 : Bx W0 (w.heap.size + 1 + 1 + 1 + 1 + 1) 23 (.slice A 4080 c) := by rw [hW0]; exact (Bx.newAt _ _ (by simp)).alloc _
  have b6 : Bx W0 (w.heap.size + 1 + 1 + 1 + 1 + 1 + 1) 23 (.slice B 4080 d) := by rw [hW0]; exact Bx.newAt _ _ (by simp)
  have hn2 : 1 ≤ 6 - 1 - 1 := by decide
  have low0 := i0.low
  clear hW0
  refine range_adm hro (by decide) (gf := 75) (lb := #[.pointer (some ⟨w.heap.size + 1 + 1 + 1 + 1 + 1, 0, none⟩), .pointer (some ⟨w.heap.size + 1 + 1 + 1 + 1 + 1 + 1, 0, none⟩)]) rfl f3 (enters_of Try.func75 (by kernel_rfl) rfl)
    (unlike_stops F _ f3 hro (by decide) _ _ w A B c d xs ys HX.out HY.out HA.out HB.out W0 low0 (by omega) (by omega) b5.cell b6.cell)
    (fun h k => h.trans k) (kept_put low0.size (by omega) (by omega)) (fun _ => rfl)
    (DInv (w.heap.size + 7) w.heap.size B d ys w) (fun _ _ _ => False) (dinv_own _ _ _ _ _ _ (Nat.le_refl _) (by omega)) (fun _ _ _ _ _ hs _ _ => hs) i0
    (fun x => { tmps := #[.slice A 4080 c, .slice B 4080 d, undef, .pointer (some ⟨w.heap.size, 0, none⟩), .slice none 0 0, .int .i64 0, .pointer (some ⟨w.heap.size + 1, 0, none⟩), .pointer (some ⟨w.heap.size + 1 + 1, 0, none⟩), .pointer (some ⟨w.heap.size + 1 + 1 + 1, 0, none⟩), .pointer (some ⟨w.heap.size + 1 + 1 + 1 + 1, 0, none⟩), .int .i64 (x : Int), .slice A 4080 c, .int .i64 4080, .bool false, .bool false, .slice B 4080 d, .int .i64 4080, .bool false, .bool false,
      .func (.func 51) #[] #[.pointer (some ⟨w.heap.size + 1 + 1, 0, none⟩), .pointer (some ⟨w.heap.size + 1, 0, none⟩), .pointer (some ⟨w.heap.size, 0, none⟩), .pointer (some ⟨w.heap.size + 1 + 1 + 1, 0, none⟩)], .slice A 4080 c, .slice B 4080 d,
      .func (.func 75) #[] #[.pointer (some ⟨w.heap.size + 1 + 1 + 1 + 1 + 1, 0, none⟩), .pointer (some ⟨w.heap.size + 1 + 1 + 1 + 1 + 1 + 1, 0, none⟩)], .int .i64 (x : Int), undef, undef, undef, undef, undef, undef, undef, undef, undef, undef, undef, undef, undef, undef, undef], defers := [] }) ?assign ?body ?done ?stop
  case assign =>
    intro l x W K hK
    gi_wp2
    exact hK
  case stop =>
    rintro D k pre W _ _ h _
    exact h.elim
  case body =>
    rintro l pre x W hi ⟨hx1, hx2, rfl⟩
    have gi := grp_inv xs ys x
    have e0 := grp_snoc (unl xs ys x) x
    have HI := Lib.hid hi
    obtain ⟨⟨v, hO, hP⟩, hF, hT, hN, hE, hl, hB⟩ := hi
    have cE := hE.cell
    have hL : ((grp (unl xs ys x)).1.map (cutP ys)).length ≤ 4398046511000 := by rw [List.length_map]; have := gi.len; omega
    cases hs : (grp (unl xs ys x)).2 with
    | none =>
      have h1 := gi.empty hs
      have es : grp (unl xs ys x ++ [x]) = ((grp (unl xs ys x)).1, some (x, x)) := by rw [e0]; unfold gstep; rw [hs]
      rw [show fromV (grp (unl xs ys x)) = -1 from by unfold fromV; rw [hs]] at hF
      rw [show toV (grp (unl xs ys x)) = -1 from by unfold toV; rw [hs]] at hT
      have cF := hF.cell
      have fF := hF.frozen
      have cT := hT.cell
      have fT := hT.frozen
      have ES := Lib.hid es
      have HL := Lib.hid hl
      have H1 := Lib.hid h1
      clear es e0 hs h1 gi
      gi_wp2_with (gi_at_call 51; refine (CallsIn.inRound l (hW.calls (end_no (-1) (by decide) hF))).mono ?_; rintro e w' ⟨rfl, rfl⟩)
      refine ⟨from_put2 (KeepsFrom.refl _ _), kept_put2 (Kept.refl _ _ _ _), dinv_put2 ?_ hO ?_ hF hT hN hE HL.out hB (by omega)⟩
      · rw [ES.out]
      · rw [ES.out]; exact hP
    | some p =>
      obtain ⟨a, b⟩ := p
      have hc := gi.cur a b hs
      rw [show fromV (grp (unl xs ys x)) = a from by unfold fromV; rw [hs]] at hF
      rw [show toV (grp (unl xs ys x)) = b from by unfold toV; rw [hs]] at hT
      have cF := hF.cell
      have fF := hF.frozen
      have cT := hT.cell
      have fT := hT.frozen
      have hs0 : decide ((a : Int) < 0) = false := by rw [decide_eq_false_iff_not]; omega
      by_cases hb8 : b + 8 < x
      · have es : grp (unl xs ys x ++ [x]) = ((grp (unl xs ys x)).1 ++ [(a, b)], some (x, x)) := by rw [e0]; unfold gstep; rw [hs]; simp [hb8]
        have ES := Lib.hid es
        have q8 : (8 : Int) < (x : Int) - (b : Int) := by omega
        have HL := Lib.hid hl
        clear es e0 hs gi hb8
        gi_wp2_with (gi_at_call 51; refine (CallsIn.inRound l (hW.calls (end_yes a b d B ys HY.out hd hc.1 (by omega) v _ hL hF hO hN hT ((HB.out).below HL.out) hP (by omega) (by omega) (by omega) (by omega) (by omega) (by omega) (by omega) hB))).mono ?_; rintro e W1 ⟨v1, rfl, hO1, hP1, hC⟩; have OC := Lib.hid hC; have cF1 := (hC.bx hF (by omega) (by omega)).cell; have fF1 := (hC.bx hF (by omega) (by omega)).frozen; have cT1 := (hC.bx hT (by omega) (by omega)).cell; have fT1 := (hC.bx hT (by omega) (by omega)).frozen; clear hC)
        have hC := OC.out
        refine ⟨from_put2 (from_chg hC), kept_put2 (kept_chg hC), dinv_put2 ?_ hO1 ?_ (hC.bx hF (by omega) (by omega)) (hC.bx hT (by omega) (by omega)) (hC.bx hN (by omega) (by omega)) (hC.bx hE (by omega) (by omega)) (HL.out.trans (hC.below (by omega) (by omega))) (by have := hC.size; omega) (by omega)⟩
        · rw [ES.out]
        · rw [ES.out, List.map_append]; exact hP1
      · have q8 : (x : Int) - (b : Int) ≤ 8 := by omega
        have HS := Lib.hid hs
        have HL := Lib.hid hl
        have H8 := Lib.hid hb8
        clear e0 hs gi hb8
        gi_wp2
        exact ⟨from_put1 (KeepsFrom.refl _ _), kept_put1 (Kept.refl _ _ _ _), dinv_put1 HI.out HS.out H8.out (by omega)⟩
  case done =>
    rintro D zs W hD rfl hi hK
    have gi := grp_inv xs ys 4080
    have HI := Lib.hid hi
    obtain ⟨⟨v, hO, hP⟩, hF, hT, hN, hE, hl, hB⟩ := hi
    have cE := hE.cell
    have cO := hO.cell
    have HL := Lib.hid hl
    have HK := Lib.hid hK
    have hL : ((grp (unl xs ys 4080)).1.map (cutP ys)).length ≤ 4398046511000 := by rw [List.length_map]; have := gi.len; omega
    cases hs : (grp (unl xs ys 4080)).2 with
    | none =>
      have es : diffL xs ys = (grp (unl xs ys 4080)).1.map (cutP ys) := by unfold diffL rngs gfin; rw [hs]
      rw [show fromV (grp (unl xs ys 4080)) = -1 from by unfold fromV; rw [hs]] at hF
      have ES := Lib.hid es
      clear es hs gi hl hK hT
      gi_wp2_with (gi_at_call 51; refine (hW.calls (end_no (-1) (by decide) hF)).mono ?_; rintro e w' ⟨rfl, rfl⟩)
      refine ⟨by simp, .inl ⟨_, _, rfl, run_takeDeferred HK.out, ?_⟩⟩
      refine ⟨_, results_tmp2 rfl _ _ _, v, rfl, ?_, ?_⟩
      · rw [ES.out]
        exact (hP.keep (grownBy_putObj' _ D _) (fun r e => by cases e; exact ⟨_, HK.out, rfl⟩)).mono (by omega)
      · exact HL.out.trans (belowK_b (w := W0) low0.size _ D _ _ hD HK.out rfl rfl)
    | some p =>
      obtain ⟨a, b⟩ := p
      have hc := gi.cur a b hs
      have es : diffL xs ys = (grp (unl xs ys 4080)).1.map (cutP ys) ++ [cutP ys (a, b)] := by unfold diffL rngs gfin; rw [hs]; simp
      rw [show fromV (grp (unl xs ys 4080)) = a from by unfold fromV; rw [hs]] at hF
      rw [show toV (grp (unl xs ys 4080)) = b from by unfold toV; rw [hs]] at hT
      have ES := Lib.hid es
      clear es hs gi hl hK
      gi_wp2_with (gi_at_call 51; refine (hW.calls (end_yes a b d B ys HY.out hd hc.1 (by omega) v _ hL hF hO hN hT ((HB.out).below HL.out) hP (by omega) (by omega) (by omega) (by omega) (by omega) (by omega) (by omega) hB)).mono ?_; rintro e W1 ⟨v1, rfl, hO1, hP1, hC⟩; have OC := Lib.hid hC; have cO1 := hO1.cell; clear hC)
      have hC := OC.out
      have hK1 := hC.others D _ HK.out rfl
      refine ⟨by simp, .inl ⟨_, _, rfl, run_takeDeferred hK1, ?_⟩⟩
      refine ⟨_, results_tmp2 rfl _ _ _, v1, rfl, ?_, ?_⟩
      · rw [ES.out]
        exact (hP1.keep (grownBy_putObj' _ D _) (fun r e => by cases e; exact ⟨_, hK1, rfl⟩)).mono (by omega)
      · exact (HL.out.trans (hC.below (by omega) (by omega))).trans (belowK_b (w := W0) low0.size _ D _ _ hD hK1 rfl rfl)
theorem diff_any {w : World} {A B : Option Addr} (c d : Nat) {xs ys : List UInt8} (hx : xs.length = 4080) (hy : ys.length = 4080) (hA : Rd w A xs) (hB : Rd w B ys) (hd : 4080 ≤ d) :
    Calls Try.prog 15 #[.slice A 4080 c, .slice B 4080 d] w fun e w' => ∃ r, e = .returned (.tuple #[r, .int .i64 0]) ∧ Pcs w' w.heap.size r (diffL xs ys) ∧ Below w.heap.size w w' :=
  (callsIn_wide (n := 6)).1 (diff_in wide_wide c d hx hy hA hB hd)
end Go.Proofs.Ytobnomlbkhkodaa.Y
