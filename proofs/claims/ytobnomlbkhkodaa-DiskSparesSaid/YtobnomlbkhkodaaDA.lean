/-
  package disk: Read.
-/
import Derived.Test.YtobnomlbkhkodaaD9
import Derived.Test.YtobnomlbkhkodaaYG
set_option linter.unusedVariables false
set_option linter.unusedSimpArgs false
namespace Go.Proofs.Ytobnomlbkhkodaa.Y
open Go.RowKit Go.Shelf
attribute [local go_sem] Oper.semAt_some
attribute [local go_sem ↓] Go.wp_at_zero Go.wp_at_succ

structure Wide2 (F : Fence) : Prop extends Wide F where
  codes : ∀ {n : Nat} {P : Program} {c : Code} {Q : Exit → Act → World → Prop} {a : Act} {w : World}, c.wp P Q a w → c.wpIn F n P Q a w
theorem wide2_wide : Wide2 Fence.wide := ⟨wide_wide, fun h => wpIn_wide.2 h⟩
theorem results_cells2 {P : Program} {fn : Func} {p q : Tmp} {ty uy : TypeId} (h : fn.results = #[.cell p ty, .cell q uy]) {tmps : Array Value} {w : World} {a b : Addr} {v u : Value} (hp : tmps.getD p undef = .pointer (some a)) (hq : tmps.getD q undef = .pointer (some b))
    (hv : (loadVar ty a).run P w = .ok v w) (hu : (loadVar uy b).run P w = .ok u w) : (results fn tmps).run P w = .ok (.tuple #[v, u]) w := by
  rw [Array.getD_eq_getD_getElem?] at hp hq
  simp only [results, h]
  simp [Sem.run_bind, Result.andThen, hp, hq, asAddr, hv, hu]
/-- What does not panic. -/
theorem wp_calm {P : Program} {c : Code} {K : Act → World → Prop} {Q : Exit → Act → World → Prop} {a : Act} {w : World} (h : c.wp P (Exit.then K (fun _ _ _ => False)) a w) : c.wp P (Exit.then K Q) a w :=
  wp_mono h (fun e a w hq => by cases e <;> first | exact hq | exact False.elim hq)
def readV (d : DS) (b : Nat) : List UInt8 := d.writes.foldl (fun acc (p : Nat × List UInt8) => if p.1 = b then p.2 else acc) (d.blocks[b]?.getD [])
theorem fold_none {b : Nat} : ∀ (L : List (Nat × List UInt8)) (acc : List UInt8), (∀ p ∈ L, p.1 ≠ b) → L.foldl (fun acc (p : Nat × List UInt8) => if p.1 = b then p.2 else acc) acc = acc := by
  intro L
  induction L with
  | nil => intros; rfl
  | cons p L ih =>
    intro acc h
    rw [List.foldl_cons, if_neg (h p (by simp))]
    exact ih acc (fun q hq => h q (by simp [hq]))
theorem readV_miss {d : DS} {b : Nat} {xs : List UInt8} (hx : d.blocks[b]? = some xs) (h : ∀ (i : Nat) (p : Nat × List UInt8), d.writes[i]? = some p → p.1 ≠ b) : readV d b = xs := by
  unfold readV
  rw [fold_none _ _ (fun p hp => by obtain ⟨i, hi⟩ := List.getElem?_of_mem hp; exact h i p hi), hx]
  rfl
theorem readV_hit {d : DS} {b x : Nat} {p : Nat × List UInt8} (hp : d.writes[x]? = some p) (hb : p.1 = b) (h : ∀ (i : Nat) (q : Nat × List UInt8), x < i → d.writes[i]? = some q → q.1 ≠ b) : readV d b = p.2 := by
  unfold readV
  have hlt := (List.getElem?_eq_some_iff.1 hp).1
  have e : d.writes = d.writes.take x ++ p :: d.writes.drop (x + 1) := by
    have h2 := (List.getElem?_eq_some_iff.1 hp).2
    rw [← h2, List.getElem_cons_drop, List.take_append_drop]
  rw [e, List.foldl_append, List.foldl_cons, if_pos hb]
  refine fold_none _ _ (fun q hq => ?_)
  obtain ⟨j, hj⟩ := List.getElem?_of_mem hq
  rw [List.getElem?_drop] at hj
  exact h _ q (by omega) hj
def atW (d : DS) (i : Nat) : Int := ((d.writes[i]?.getD (0, [])).1 : Nat)
theorem atW_some {d : DS} {i : Nat} {p : Nat × List UInt8} (h : d.writes[i]? = some p) : atW d i = (p.1 : Int) := by
  unfold atW
  rw [h]
  rfl
section
variable {w : World} {B g gb : Nat} {ws : Value} {d : DS}
theorem DiskAt.wcells (h : DiskAt w B g gb ws d) {A : Option Addr} {m c : Nat} (hws : ws = .slice A m c) : ∃ da : Nat → Value, WCells w A m (atW d) da ∧ ∀ i p, d.writes[i]? = some p → DataV w B (da i) p.2 ∧ ∃ A l c, da i = .slice A l c := by
  obtain ⟨qs, h1, h2, h3, h4, h5, h6, h7⟩ := h.wrV hws
  refine ⟨fun i => (qs[i]?.getD (0, .slice none 0 0)).2, fun i hi => ?_, fun i p hp => ?_⟩
  · have hq := List.getElem?_eq_getElem (l := qs) (i := i) (by omega)
    have hp := List.getElem?_eq_getElem (l := d.writes) (i := i) (by omega)
    obtain ⟨e1, _⟩ := h7 i _ _ hq hp
    obtain ⟨f1, f2⟩ := wflat_at qs i _ hq
    rcases h4 with h4 | ⟨b, e, hc⟩
    · rw [h4] at h3; simp at h3; omega
    · refine ⟨b, 0, e, ?_, ?_⟩
      · rw [Nat.zero_add, hc _ _ f1, atW_some hp, e1]
      · rw [Nat.zero_add, hc _ _ f2]
        dsimp only
        rw [hq]
        rfl
  · have hi : i < qs.length := by have := (List.getElem?_eq_some_iff.1 hp).1; omega
    have hq := List.getElem?_eq_getElem hi
    obtain ⟨_, e2, e3, e4, _⟩ := h7 i _ p hq hp
    dsimp only
    rw [hq]
    exact ⟨.inr ⟨e2, e3, e4⟩, own_slice e3⟩
theorem back_stops (F : Fence) (n : Nat) (hf : F.fn 78) (hro : F.round = none) (hn : 1 ≤ n) (Ba : Nat) (w0 : World) (A : Option Addr) (m c : Nat) (hm : m ≤ 1000000) (at_ : Nat → Int) (da : Nat → Value)
    (hA : WCells w0 A m at_ da) (w : World) (h0w : Below w0.heap.size w0 w) (hBa0 : Ba < w.heap.size) (hBa : w.cell? ⟨Ba, 0, none⟩ = some (.slice A m c)) :
    SeqAdm F n Try.prog 78 #[.pointer (some ⟨Ba, 0, none⟩)] (encW at_ da) (KeptB w0.heap.size Ba) (fun zs => zs = dn m m) (fun pre => ∃ k, k ≤ m ∧ pre = dn m k) (fun pre x => x < m ∧ pre = dn m (m - (x + 1))) w := fun l J Jx W hW hJ hJx hY h0 => by
  refine (back1_in F n hf hro hn l Ba w0 A m c hm at_ da hA J Jx ?_ (fun pre x W hj h1 h2 => hY pre x W hj ⟨h1, h2⟩) W (h0w.trans (hW.mono h0w.size)) ((hW.cell (p := ⟨Ba, 0, none⟩) hBa0).trans hBa) h0).mono ?_
  · intro zs W' m hj
    exact hJ zs W' (W'.drewN m) none hj ⟨rfl, rfl, rfl, Nat.le_refl _, fun _ _ _ => rfl⟩ (fun r e => by cases e)
  · rintro e W' ⟨he, h⟩
    exact ⟨he, h⟩
/-- What stands while Read goes through the writes. -/
structure RInv (w : World) (b : Int) (at_ : Nat → Int) (pre : List Nat) (W : World) : Prop where
  r3 : Bx W w.heap.size 3 (.int .i64 b)
  r4 : Bx W (w.heap.size + 1) 23 (.slice none 0 0)
  r5 : Bx W (w.heap.size + 1 + 1) 27 (.int .i64 0)
  no : ∀ i ∈ pre, at_ i ≠ b
  low : Below w.heap.size w W
  big : w.heap.size + 1 + 1 + 1 + 1 ≤ W.heap.size
theorem rinv_own (w : World) (b : Int) (at_ : Nat → Int) {D : Nat} (hD : w.heap.size ≤ D) : OwnFrom D (RInv w b at_) := fun pre W W' row h hg hr => by
  have hr' : ∀ r, row = some r → ∃ o : Obj, W.heap[r]? = some o ∧ o.isCells = false := fun r e => (hr r e).2
  obtain ⟨h1, h2, h3, h4, h5, h6⟩ := h
  exact ⟨h1.keep hg hr', h2.keep hg hr', h3.keep hg hr', h4, h5.grown hg h5.size (fun k e => by have := (hr k e).1; omega), Nat.le_trans h6 hg.size⟩
structure RIx (w : World) (xs : List UInt8) (c : Code) (pre : List Nat) (W : World) : Prop where
  code : c = .ret
  out : ∃ r, Bx W (w.heap.size + 1) 23 r ∧ Own W w.heap.size r xs
  r5 : Bx W (w.heap.size + 1 + 1) 27 (.int .i64 0)
  low : Below w.heap.size w W
theorem rix_own (w : World) (xs : List UInt8) (c : Code) {D : Nat} (hD : w.heap.size ≤ D) : OwnFrom D (RIx w xs c) := fun pre W W' row h hg hr => by
  have hr' : ∀ r, row = some r → ∃ o : Obj, W.heap[r]? = some o ∧ o.isCells = false := fun r e => (hr r e).2
  obtain ⟨h1, ⟨r, h2, h3⟩, h4, h5⟩ := h
  exact ⟨h1, ⟨r, h2.keep hg hr', own_keep h3 hg hr'⟩, h4.keep hg hr', h5.grown hg h5.size (fun k e => by have := (hr k e).1; omega)⟩
theorem from_below {D : Nat} {X Y : World} (h : Below X.heap.size X Y) : KeepsFrom D X Y := ⟨h.size, fun k o _ h1 h2 => (h.block k (Array.getElem?_eq_some_iff.1 h1).1).trans h1⟩
theorem Ob.keep {w w1 : World} {g : Nat} {t : TypeId} {cs : List Value} (h : Ob w g t cs) {row : Option Nat} (hg : w.grownBy w1 row) (hr : ∀ r, row = some r → ∃ o : Obj, w.heap[r]? = some o ∧ o.isCells = false) : Ob w1 g t cs :=
  (hg.block g h.lt (fun e => by
    obtain ⟨o, h1, h2⟩ := hr g e.symm
    have h' : w.heap[g]? = _ := h
    rw [h'] at h1
    injection h1 with h1
    rw [← h1] at h2
    cases h2)).trans h
theorem RInv.below {w : World} {b : Int} {at_ : Nat → Int} {pre : List Nat} {W W' : World} (h : RInv w b at_ pre W) (hb : Below W.heap.size W W') : RInv w b at_ pre W' :=
  ⟨h.r3.below hb, h.r4.below hb, h.r5.below hb, h.no, h.low.trans (hb.mono h.low.size), Nat.le_trans h.big hb.size⟩
theorem cell_other {w : World} {g h : Nat} (hne : g ≠ h) (i j : Nat) (v : Value) : (w.setCell ⟨h, j, none⟩ v).cell? ⟨g, i, none⟩ = w.cell? ⟨g, i, none⟩ := cell_block (Below.heap_setCell _ _ _ _ (by simpa using hne)) i
theorem load_slice (w : World) (a : Addr) (A : Option Addr) (l c : Nat) (h : w.cell? a = some (.slice A l c)) : (loadVar 23 a).run Try.prog w = .ok (.slice A l c) w := by go_simp
theorem load_errno (w : World) (a : Addr) (n : Int) (h : w.cell? a = some (.int .i64 n)) : (loadVar 27 a).run Try.prog w = .ok (.int .i64 n) w := by go_simp
/-- The loop's variable lies in a box. -/
def RBody (w : World) (b : Nat) (g : Nat) (A : Option Addr) (m c : Nat) (at_ : Nat → Int) (da : Nat → Value) (pre : List Nat) (x : Nat) (a : Act) (W : World) : Prop :=
  ∃ k, a = ({ tmps := #[.pointer (some ⟨g, 0, none⟩), .int .i64 (b : Int), undef, .pointer (some ⟨w.heap.size, 0, none⟩), .pointer (some ⟨w.heap.size + 1, 0, none⟩), .pointer (some ⟨w.heap.size + 1 + 1, 0, none⟩), .int .i64 0, undef, .pointer (some ⟨k, 0, none⟩), .pointer (some ⟨g, 0, none⟩), .int .i64 (b : Int), .int .i64 0, .int .i64 0, .bool false, undef, .pointer (some ⟨g, 0, none⟩), .pointer (some ⟨g, 0, none⟩), .pointer (some ⟨g, 2, none⟩), .bool false, .pointer (some ⟨g, 0, none⟩), .pointer (some ⟨g, 0, none⟩), .pointer (some ⟨g, 1, none⟩), .slice A m c, .func (.func 78) #[] #[.pointer (some ⟨w.heap.size + 1 + 1 + 1, 0, none⟩)], .int .i64 (x : Int), .agg #[.int .i64 (at_ x), da x], undef, undef, undef, undef, undef, undef, undef, undef, undef, undef, undef, undef, undef, undef, undef], defers := [] } : Act) ∧ Ob W k 106 [.int .i64 (at_ x), da x] ∧ RInv w b at_ pre W ∧ x < m ∧ pre = dn m (m - (x + 1))
theorem rbody_own (w : World) (b g : Nat) (A : Option Addr) (m c : Nat) (at_ : Nat → Int) (da : Nat → Value) (pre : List Nat) (x : Nat) (a : Act) {D : Nat} (hD : w.heap.size ≤ D) : OwnFrom D (fun (_ : List Nat) => RBody w b g A m c at_ da pre x a) := fun s W W' row h hg hr => by
  obtain ⟨k, h1, h2, h3, h4, h5⟩ := h
  exact ⟨k, h1, h2.keep hg (fun r e => (hr r e).2), rinv_own w b at_ hD pre W W' row h3 hg hr, h4, h5⟩
set_option maxHeartbeats 3200000 in
set_option maxRecDepth 100000 in
theorem read_in {F : Fence} (hW : Wide2 F) (h : DiskAt w B g gb ws d) (b : Nat) (hb : b < d.blocks.length) (hd : d.down = false) :
    CallsIn F 6 Try.prog 39 #[.pointer (some ⟨g, 0, none⟩), .int .i64 (b : Int)] w fun e w' => ∃ r, e = .returned (.tuple #[r, .int .i64 0]) ∧ Own w' w.heap.size r (readV d b) ∧ Below w.heap.size w w' := by
  have hro := hW.round
  have f1 := hW.fn 39
  have f2 := hW.fn 61
  have f3 := hW.fn 78
  have f4 := hW.fn 58
  have f5 := hW.fn 59
  have H := Lib.hid h
  obtain ⟨A, c, hws⟩ := h.wsForm
  obtain ⟨m, hm⟩ : ∃ m, m = d.writes.length := ⟨_, rfl⟩
  rw [← hm] at hws
  subst hws
  have HM := Lib.hid hm
  have hml : m ≤ 1000000 := hm ▸ h.few
  obtain ⟨da, hwc, hdv⟩ := h.wcells rfl
  have HWC := Lib.hid hwc
  have HDV := Lib.hid hdv
  have hwr : Hid (wrongE d b = 0) := by show _ = _; unfold wrongE; rw [if_pos (by omega)]
  obtain ⟨W0, hW0⟩ : ∃ W0, W0 = ((w.alloc (.cells #[.int .i64 (b : Int)] 3)).alloc (.cells #[.slice none 0 0] 23)).alloc (.cells #[.int .i64 0] 27) := ⟨_, rfl⟩
  have hsz : W0.heap.size = w.heap.size + 1 + 1 + 1 := by rw [hW0]; simp
  have b3 : Bx W0 w.heap.size 3 (.int .i64 (b : Int)) := by rw [hW0]; exact ((Bx.newAt _ _ (by simp)).alloc _).alloc _
  have b4 : Bx W0 (w.heap.size + 1) 23 (.slice none 0 0) := by rw [hW0]; exact (Bx.newAt _ _ (by simp)).alloc _
  have b5 : Bx W0 (w.heap.size + 1 + 1) 27 (.int .i64 0) := by rw [hW0]; exact Bx.newAt _ _ (by simp)
  have BW : Hid (Below w.heap.size w W0) := by show Below _ _ _; rw [hW0]; exact balloc (balloc (balloc (Below.refl _ _) _) _) _
  have H0 := Lib.hid (h.below BW.out)
  have c1 := H0.out.c1
  have c2 := H0.out.c2
  have c3 := b3.cell
  have ltg := h.obj.lt
  rw [hd] at c2
  have HW0 := Lib.hid hW0
  clear h hm hwc hdv hW0
  refine callsIn_of_wp_marks Try.func39 rfl f1 ?_ hro
  simp only [Try.ntmps39, List.size_toArray, List.length_cons, List.length_nil, Nat.reduceAdd, Nat.reduceSub, Array.replicate_succ, Array.replicate_zero, List.push_toArray, List.append_toArray, List.nil_append, List.cons_append]
  gi_wp2_with (first
    | (gi_at_call 58; rw [← HW0.out]; refine (hW.calls (wrong_any H0.out b)).mono ?_; rintro e w' ⟨rfl, rfl⟩; rw [hwr.out])
    | (gi_at_call 61; refine (backward_in F _ f2 hro A m c _).mono ?_; rintro e w' ⟨rfl, rfl⟩))
  obtain ⟨W1, hW1⟩ : ∃ W1, W1 = W0.alloc (.cells #[.slice A m c] 90) := ⟨_, rfl⟩
  rw [← hW1]
  have BW1 : Hid (Below W0.heap.size W0 W1) := by show Below _ _ _; rw [hW1]; exact balloc (Below.refl _ _) _
  have bs : Bx W1 (w.heap.size + 1 + 1 + 1) 90 (.slice A m c) := by rw [hW1, ← hsz]; exact Bx.new _ _ _
  have sz1 : W1.heap.size = w.heap.size + 1 + 1 + 1 + 1 := by rw [hW1]; simp [hsz]
  have low1 : Below w.heap.size w W1 := bthen BW.out (BW1.out.mono (Nat.le_refl _)) 
  have i0 : RInv w b (atW d) [] W1 := ⟨b3.below BW1.out, b4.below BW1.out, b5.below BW1.out, by simp, low1, by omega⟩
  clear hW1
  refine range_admB hro (by decide) (gf := 78) (lb := #[.pointer (some ⟨w.heap.size + 1 + 1 + 1, 0, none⟩)]) rfl f3 (enters_of Try.func78 (by kernel_rfl) rfl)
    (back_stops F _ f3 hro (by decide) _ w A m c hml (atW d) da HWC.out W1 low1 (by omega) bs.cell)
    (fun h k => h.trans k) (keptB_put low1.size (by omega)) (fun _ => rfl)
    (RInv w b (atW d)) (RIx w (readV d b)) (rinv_own _ _ _ (by omega)) (fun c => rix_own _ _ c (by omega)) i0
    (RBody w b g A m c (atW d) da) (fun pre x a => rbody_own _ _ _ _ _ _ _ _ pre x a (by omega)) ?assign ?body ?done ?stop
  case assign =>
    rintro l pre x W K hi ⟨hx1, hx2⟩ hK
    obtain ⟨_, A1, l1, c1', e⟩ := HDV.out x _ (List.getElem?_eq_getElem (by rw [← HM.out]; exact hx1))
    simp only [encW, e]
    have HI := Lib.hid hi
    clear hi
    gi_wp2
    refine hK _ _ ⟨W.heap.size, by rw [e], by rw [e]; exact Ob.new _ _ _, HI.out.below (balloc (Below.refl _ _) _), hx1, hx2⟩ (from_below (balloc (Below.refl _ _) _)) ⟨(balloc (Below.refl _ _) _).mono HI.out.low.size, ?_⟩
    exact (balloc (Below.refl _ _) _).block _ (by have := HI.out.big; omega)
  case body =>
    rintro l pre x a W ⟨k, rfl, hob, hi, hx1, rfl⟩
    have gw := Lib.hid (List.getElem?_eq_getElem (l := d.writes) (i := x) (by rw [← HM.out]; exact hx1))
    generalize d.writes[x]'(by rw [← HM.out]; exact hx1) = p at *
    obtain ⟨hdv1, A1, l1, c1', e⟩ := HDV.out x p gw.out
    rw [e] at hob hdv1 ⊢
    have ea := Lib.hid (atW_some gw.out)
    have k0 := hob.cell (j := 0) rfl
    have k1 := hob.cell (j := 1) rfl
    have q3 := hi.r3.cell
    have q4 := hi.r4.cell
    have q5 := hi.r5.cell
    have HI := Lib.hid hi
    have HD1 := Lib.hid (hdv1.keep (S := fun _ => False) (Tch.below (hi.low)) (fun _ _ _ q => q))
    clear hdv1 hi hob e
    by_cases hq : atW d x = (b : Int)
    · have q1 : ((atW d x : Int) == (b : Int)) = true := by rw [beq_iff_eq]; exact hq
      have hv : Hid (readV d b = p.2) := readV_hit gw.out (by have := ea.out; omega) (fun i q hi hq' => by
        have hm := (List.getElem?_eq_some_iff.1 hq').1
        have := HI.out.no i ((dn_mem (by omega)).2 ⟨by omega, by rw [HM.out]; exact hm⟩)
        rw [atW_some hq'] at this
        omega)
      clear hq
      gi_wp2_with (gi_at_call 59; refine (CallsIn.inRound l (hW.calls (whole_any HD1.out))).mono ?_; rintro e w3 ⟨r, rfl, hrn, hro, hrb⟩; obtain ⟨A3, l3, c3', rfl⟩ := own_slice hro; have O3 := Lib.hid hro; have B3 := Lib.hid hrb; have I3 := Lib.hid (HI.out.below hrb); have x4 := I3.out.r4.cell; have y4 := I3.out.r4.frozen; have x5 := I3.out.r5.cell; have y5 := I3.out.r5.frozen; clear hrn hro hrb)
      have hlt : w.heap.size + 1 + 1 < W.heap.size := by have := HI.out.big; omega
      refine ⟨((from_below B3.out).trans ((KeepsOthers.setCell _ _ _).from _)).trans ((KeepsOthers.setCell _ _ _).from _), rfl, ⟨_, ((I3.out.r4.store _).1).other (by omega) _, ?_⟩, ((I3.out.r5.other (by omega) _).store _).1, ((I3.out.low.setCell (by simp) _).setCell (by simp; omega) _)⟩
      rw [hv.out]
      exact (own_store (own_store O3.out (by omega) _) (by omega) _).mono HI.out.low.size
    · have q1 : ((atW d x : Int) == (b : Int)) = false := by rw [beq_eq_false_iff_ne]; exact hq
      have hq2 := Lib.hid hq
      clear hq
      gi_wp2
      refine ⟨KeepsFrom.refl _ _, KeptB.refl _ _ _, ⟨HI.out.r3, HI.out.r4, HI.out.r5, fun i hi => ?_, HI.out.low, HI.out.big⟩⟩
      rcases List.mem_append.1 hi with hi | hi
      · exact HI.out.no i hi
      · simp at hi
        rw [hi]
        exact hq2.out
  case stop =>
    rintro D c pre W hD hSp ⟨rfl, ⟨r, hr, ho⟩, h5, hl⟩ hK
    obtain ⟨A3, l3, c3', rfl⟩ := own_slice ho
    have HK := Lib.hid hK
    gi_wp2
    have hk : ∀ q, some D = some q → ∃ o : Obj, W.heap[q]? = some o ∧ o.isCells = false := fun q e => by cases e; exact ⟨_, HK.out, rfl⟩
    refine ⟨by simp, .inl ⟨_, _, rfl, run_takeDeferred HK.out, ?_⟩⟩
    exact ⟨_, results_cells2 rfl rfl rfl (load_slice _ _ _ _ _ (hr.keep (grownBy_putObj' _ D _) hk).cell) (load_errno _ _ _ (h5.keep (grownBy_putObj' _ D _) hk).cell), _, rfl, own_keep ho (grownBy_putObj' _ D _) hk, hl.trans (belowK_b (w := W1) low1.size _ D _ _ hD HK.out rfl rfl)⟩
  case done =>
    rintro D zs W hD rfl hi hK
    have HK := Lib.hid hK
    have HI := Lib.hid hi
    have HW1 := Lib.hid (H.out.below hi.low)
    obtain ⟨v, cv, hdv, Av, lv, cv', rfl⟩ := HW1.out.block (List.getElem?_eq_getElem hb)
    have hv : Hid (readV d b = d.blocks[b]) := readV_miss (List.getElem?_eq_getElem hb) (fun i p hp e => by
      have hm := (List.getElem?_eq_some_iff.1 hp).1
      have := hi.no i ((dn_mem (Nat.le_refl _)).2 ⟨by omega, by rw [HM.out]; exact hm⟩)
      rw [atW_some hp] at this
      omega)
    generalize d.blocks[b]'hb = xs at *
    have HDX := Lib.hid hdv
    have k0 := HW1.out.c0
    obtain ⟨n, hn⟩ : ∃ n, n = d.blocks.length := ⟨_, rfl⟩
    rw [← hn] at k0 hb
    have z0 : (0 : Int) ≤ (b : Int) := by omega
    have z1 : (b : Int) < (n : Int) := by omega
    have q3 := hi.r3.cell
    clear hdv hi hK hn
    gi_wp2_with fail
    refine hW.codes (wp_calm ?_)
    refine wp_region_held_drew (S := (fun w' : World => w'.cell? ⟨g, 0, none⟩ = some (.slice (some ⟨gb, 0, none⟩) n d.cap) ∧ w'.cell? ⟨w.heap.size, 0, none⟩ = some (.int .i64 (b : Int)) ∧ w'.cell? ⟨gb, b, none⟩ = some (.slice Av lv cv'))) (by kernel_rfl) (⟨k0, q3, cv⟩) (fun hHeld => ?_)
    refine take_op (i := 0) 33 (v := ?_) rfl rfl (by kernel_rfl) (by kernel_rfl) (by kernel_rfl) (fun _ _ _ h => h) (Or.inl ⟨by rfl, ?_⟩) (by assumption) ?_
    rotate_left
    · (intro w hSw; (try dsimp only at hSw); first | (go_simp; done) | (go_simp; with_reducible rfl))
    try simp only [Act.put, List.setIfInBounds_toArray, List.set_cons_zero, List.set_cons_succ]
    refine take_op (i := 1) 34 (v := ?_) rfl rfl (by kernel_rfl) (by kernel_rfl) (by kernel_rfl) (fun _ _ _ h => h) (Or.inl ⟨by rfl, ?_⟩) (by assumption) ?_
    rotate_left
    · (intro w hSw; (try dsimp only at hSw); first | (go_simp; done) | (go_simp; with_reducible rfl))
    try simp only [Act.put, List.setIfInBounds_toArray, List.set_cons_zero, List.set_cons_succ]
    refine take_op (i := 2) 35 (v := ?_) rfl rfl (by kernel_rfl) (by kernel_rfl) (by kernel_rfl) (fun _ _ _ h => h) (Or.inl ⟨by rfl, ?_⟩) (by assumption) ?_
    rotate_left
    · (intro w hSw; (try dsimp only at hSw); first | (go_simp; done) | (go_simp; with_reducible rfl))
    try simp only [Act.put, List.setIfInBounds_toArray, List.set_cons_zero, List.set_cons_succ]
    refine take_op (i := 3) 36 (v := ?_) rfl rfl (by kernel_rfl) (by kernel_rfl) (by kernel_rfl) (fun _ _ _ h => h) (Or.inl ⟨by rfl, ?_⟩) (by assumption) ?_
    rotate_left
    · (intro w hSw; (try dsimp only at hSw); first | (go_simp; done) | (go_simp; with_reducible rfl))
    try simp only [Act.put, List.setIfInBounds_toArray, List.set_cons_zero, List.set_cons_succ]
    refine take_op (i := 4) 37 (v := ?_) rfl rfl (by kernel_rfl) (by kernel_rfl) (by kernel_rfl) (fun _ _ _ h => h) (Or.inl ⟨by rfl, ?_⟩) (by assumption) ?_
    rotate_left
    · (intro w hSw; (try dsimp only at hSw); first | (go_simp; done) | (go_simp; with_reducible rfl))
    try simp only [Act.put, List.setIfInBounds_toArray, List.set_cons_zero, List.set_cons_succ]
    refine take_op (i := 5) 38 (v := ?_) rfl rfl (by kernel_rfl) (by kernel_rfl) (by kernel_rfl) (fun _ _ _ h => h) (Or.inl ⟨by rfl, ?_⟩) (by assumption) ?_
    rotate_left
    · (intro w hSw; (try dsimp only at hSw); first | (go_simp; done) | (go_simp; with_reducible rfl))
    try simp only [Act.put, List.setIfInBounds_toArray, List.set_cons_zero, List.set_cons_succ]
    refine take_op (i := 6) 39 (v := ?_) rfl rfl (by kernel_rfl) (by kernel_rfl) (by kernel_rfl) (fun _ _ _ h => h) (Or.inl ⟨by rfl, ?_⟩) (by assumption) ?_
    rotate_left
    · (intro w hSw; (try dsimp only at hSw); first | (go_simp; done) | (go_simp; with_reducible rfl))
    try simp only [Act.put, List.setIfInBounds_toArray, List.set_cons_zero, List.set_cons_succ]
    refine ready_one 7 (by kernel_rfl) rfl (fun K hK => ?_)
    (go_simp; go_at_call 59; refine (whole_any (w := W.drew) (HDX.out.keep (S := fun _ => False) (Tch.below (bdrew (Below.refl _ _))) (fun _ _ _ q => q))).mono ?_; rintro e w3 ⟨r, rfl, hrn, hro, hrb⟩; obtain ⟨A3, l3, c3', rfl⟩ := own_slice hro; have O3 := Lib.hid hro; have B3 : Hid (Below W.heap.size W w3) := bthen (bdrew (Below.refl _ _)) hrb; have I3 := Lib.hid (HI.out.below B3.out); have x4 := I3.out.r4.cell; have y4 := I3.out.r4.frozen; have x5 := I3.out.r5.cell; have y5 := I3.out.r5.frozen; clear hrn hro hrb)
    refine hK.out _ _ ?_ (fun hHeld => ?_)
    · exact ⟨(B3.out.cell (World.block_lt_of_cell? W _ k0)).trans k0, (B3.out.cell (World.block_lt_of_cell? W _ q3)).trans q3, (B3.out.cell (World.block_lt_of_cell? W _ cv)).trans cv⟩
    clear hK K
    try simp only [Act.put, List.setIfInBounds_toArray, List.set_cons_zero, List.set_cons_succ]
    refine ready_one 8 (by kernel_rfl) rfl (fun K hK => ?_)
    (go_simp)
    refine hK.out _ _ ?_ (fun hHeld => ?_)
    · have hg := H.out.obj.lt; obtain ⟨_, hgbo, _⟩ := H.out.row; have hgb := hgbo.lt; refine ⟨?_, ?_, ?_⟩ <;> rw [cell_other (by omega)]; exact hHeld.1; exact hHeld.2.1; exact hHeld.2.2
    clear hK K
    try simp only [Act.put, List.setIfInBounds_toArray, List.set_cons_zero, List.set_cons_succ]
    refine ready_one 9 (by kernel_rfl) rfl (fun K hK => ?_)
    (go_simp)
    refine hK.out _ _ ?_ (fun hHeld => ?_)
    · have hg := H.out.obj.lt; obtain ⟨_, hgbo, _⟩ := H.out.row; have hgb := hgbo.lt; refine ⟨?_, ?_, ?_⟩ <;> rw [cell_other (by omega)]; exact hHeld.1; exact hHeld.2.1; exact hHeld.2.2
    clear hK K
    try simp only [Act.put, List.setIfInBounds_toArray, List.set_cons_zero, List.set_cons_succ]
    refine wpAnyH_done (by kernel_rfl) ?_ _
    gi_wp2
    have hlt : w.heap.size + 1 + 1 < W.heap.size := by have := HI.out.big; omega
    have K3 : w3.heap[D]? = some (.deferred (some [])) := (B3.out.block D (Array.getElem?_eq_some_iff.1 HK.out).1).trans HK.out
    have KZ := (Below.heap_setCell (w3.setCell ⟨w.heap.size + 1, 0, none⟩ (.slice A3 l3 c3')) ⟨w.heap.size + 1 + 1, 0, none⟩ (.int .i64 0) D (by simp; omega)).trans ((Below.heap_setCell w3 ⟨w.heap.size + 1, 0, none⟩ (.slice A3 l3 c3') D (by simp; omega)).trans K3)
    have R4 := ((I3.out.r4.store (.slice A3 l3 c3')).1).other (h := w.heap.size + 1 + 1) (by omega) (.int .i64 0)
    have R5 := ((I3.out.r5.other (h := w.heap.size + 1) (by omega) (.slice A3 l3 c3')).store (.int .i64 0)).1
    have OZ := own_store (own_store O3.out (g := w.heap.size + 1) (show w.heap.size + 1 < W.heap.size by omega) (.slice A3 l3 c3')) (g := w.heap.size + 1 + 1) (show w.heap.size + 1 + 1 < W.heap.size by omega) (.int .i64 0)
    have LZ : Below w.heap.size w ((w3.setCell ⟨w.heap.size + 1, 0, none⟩ (.slice A3 l3 c3')).setCell ⟨w.heap.size + 1 + 1, 0, none⟩ (.int .i64 0)) := (I3.out.low.setCell (by simp) _).setCell (by simp; omega) _
    generalize (w3.setCell ⟨w.heap.size + 1, 0, none⟩ (.slice A3 l3 c3')).setCell ⟨w.heap.size + 1 + 1, 0, none⟩ (.int .i64 0) = Z at *
    have hk : ∀ q, some D = some q → ∃ o : Obj, Z.heap[q]? = some o ∧ o.isCells = false := fun q e => by cases e; exact ⟨_, KZ, rfl⟩
    refine ⟨by simp, .inl ⟨_, _, rfl, run_takeDeferred KZ, ?_⟩⟩
    refine ⟨_, results_cells2 rfl rfl rfl (load_slice _ _ _ _ _ (R4.keep (grownBy_putObj' _ D _) hk).cell) (load_errno _ _ _ (R5.keep (grownBy_putObj' _ D _) hk).cell), _, rfl, ?_, LZ.trans (belowK_b (w := W1) low1.size _ D _ _ hD KZ rfl rfl)⟩
    rw [hv.out]
    exact (own_keep OZ (grownBy_putObj' _ D _) hk).mono (show w.heap.size ≤ W.heap.size by omega)
end
end Go.Proofs.Ytobnomlbkhkodaa.Y
