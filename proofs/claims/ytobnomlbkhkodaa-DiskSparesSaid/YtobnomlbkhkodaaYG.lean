/-
  The same law, for a range whose assignment makes memory (a loop's variable in a box).
-/
import Derived.RangeFuncNested
import Derived.RangeFuncBound
import Derived.RangeFuncCalls
import Derived.RangeFuncLeaves
import Derived.Shelf.Abstract
import Derived.Shelf.RegionOpen
import Derived.WalkKit
import Derived.OwnWalkIn
import Derived.TacticsInMore
import Derived.LoopNIn
import Derived.LoopIn
import Derived.Sort.QuietIn
import Derived.Stop.RegionWithIn
import Derived.Test.YtobnomlbkhkodaaYF
set_option linter.unusedVariables false
set_option linter.unusedSimpArgs false
namespace Go.Proofs.Ytobnomlbkhkodaa.Y
open Go.RowKit Go.Shelf

section
variable {F : Fence} {n : Nat} {P : Program}
theorem range_admB {α : Type} {g : Operand} {ps : Array Tmp} {assign body : Code} {Q : Exit → Act → World → Prop} {a : Act} {w : World}
    (hro : F.round = none) (h1 : 1 ≤ n) {gf : Nat} {lb : Array Value} (hg : a.eval g = .func (.func gf) #[] lb) (hFg : F.fn gf) (eg : ∀ args w, (callFunc gf args).run P w = .ok (.enter gf args) w)
    {encs : α → Array Value} {Kp : World → World → Prop} {S Sp : List α → Prop} {Adm : List α → α → Prop} (hseq : SeqAdm F (n - 1) P gf lb encs Kp S Sp Adm w) (hKt : ∀ {A B C : World}, Kp A B → Kp B C → Kp A C) (hKb : ∀ (W : World) (l : Nat) (o o' : Obj), w.heap.size ≤ l → W.heap[l]? = some o → o.isCells = false → Kp W (W.putObj l o')) (hps : ∀ x, (encs x).size = ps.size)
    (I : List α → World → Prop) (Ix : Code → List α → World → Prop) (hI : OwnFrom w.heap.size I) (hIx : ∀ c, OwnFrom w.heap.size (Ix c)) (h0 : I [] w) (I₁ : List α → α → Act → World → Prop) (hI₁ : ∀ pre x a, OwnFrom w.heap.size (fun (_ : List α) => I₁ pre x a))
    (hassign : ∀ (l : Nat) (pre : List α) (x : α) (W : World) (K : Act → World → Prop), I pre W → Adm pre x → (∀ a W1, I₁ pre x a W1 → KeepsFrom w.heap.size W W1 → Kp W W1 → K a W1) →
      assign.wpIn (F.inRound l) (n - 1 - 1) P (Exit.then K (fun _ _ _ => False)) { tmps := (ps.zip (encs x)).foldl (fun t (p, v) => t.setIfInBounds p v) a.tmps, defers := [] } W)
    (hbody : ∀ (l : Nat) (pre : List α) (x : α) (a : Act) (W : World), I₁ pre x a W → body.wpIn (F.inRound l) (n - 1 - 1) P (ownPostG w.heap.size Kp I Ix (pre ++ [x]) W) a W)
    (hdone : ∀ (D : Nat) (xs : List α) (W : World), w.heap.size ≤ D → S xs → I xs W → W.heap[D]? = some (.deferred (some [])) → Q .normal { a with defers := { target := .collected D, args := #[] } :: a.defers } W)
    (hstop : ∀ (D : Nat) (c : Code) (pre : List α) (W : World), w.heap.size ≤ D → Sp pre → Ix c pre W → W.heap[D]? = some (.deferred (some [])) → c.wpIn F n P Q { a with defers := { target := .collected D, args := #[] } :: a.defers } W) :
    (Code.rangeFunc g ps assign body).wpIn F n P Q a w := by
  refine wpIn_rangeFunc fun fn hfn => ?_
  rw [hro]
  let L : LoopState → Option Code → Obj := fun st pe => .loop { state := st, pending := pe, fn, tmps := a.tmps, params := ps, assign, body, defers := w.heap.size }
  obtain ⟨V, hV⟩ : ∃ V, V = (w.alloc (.deferred (some []))).alloc (L .ready none) := ⟨_, rfl⟩
  have sz : V.heap.size = w.heap.size + 1 + 1 := by rw [hV]; simp
  have hl : V.heap[w.heap.size + 1]? = some (L .ready none) := by
    rw [hV]; have := World.alloc_heap_new (w.alloc (.deferred (some []))) (L .ready none); rwa [World.size_alloc] at this
  have hd : V.heap[w.heap.size]? = some (.deferred (some [])) := by
    rw [hV]; exact (Below.heap_alloc _ _ _ (by simp)).trans (World.alloc_heap_new w _)
  have hi : I [] V := by rw [hV]; exact hI.alloc _ (hI.alloc _ h0)
  have hb : Below w.heap.size w V := by rw [hV]; exact ((Below.refl _ w).alloc (Nat.le_refl _) _).alloc (by simp) _
  refine ⟨w.heap.size + 1, [{ target := .collected w.heap.size, args := #[] }], V, { target := .fn (.func gf) lb, args := #[.func (.yield (w.heap.size + 1)) #[] #[]] }, V, gf,
    #[.func (.yield (w.heap.size + 1)) #[] #[]] ++ lb, V, ?_, ?_, ?_, ?_, fun _ => h1, ?_⟩
  · rw [hV]; exact run_enterLoop_outer _ _ _ _ _
  · simp only [resolve, hg]
    simp [go_sem]
  · intro f' hf'; simp [Target.leads] at hf'; subst hf'; exact hFg
  · simp [invoke, go_sem, eg]
  refine (hseq (w.heap.size + 1) (fun pre W => I pre W ∧ W.heap[w.heap.size + 1]? = some (L .ready none) ∧ W.heap[w.heap.size]? = some (.deferred (some [])))
    (fun pre W => ∃ c, Ix c pre W ∧ W.heap[w.heap.size + 1]? = some (L .done (some c)) ∧ W.heap[w.heap.size]? = some (.deferred (some []))) V hb ?_ ?_ ?_ ⟨hi, hl, hd⟩).mono ?_
  · rintro s A B row ⟨k1, k2, k3⟩ hgr hr
    exact ⟨hI s A B row k1 hgr (own_walk (by omega) hr), (grownBy_keeps hgr (fun r e => (hr r e).2) k2 rfl).trans k2, (grownBy_keeps hgr (fun r e => (hr r e).2) k3 rfl).trans k3⟩
  · rintro s A B row ⟨c, k1, k2, k3⟩ hgr hr
    exact ⟨c, hIx c s A B row k1 hgr (own_walk (by omega) hr), (grownBy_keeps hgr (fun r e => (hr r e).2) k2 rfl).trans k2, (grownBy_keeps hgr (fun r e => (hr r e).2) k3 rfl).trans k3⟩
  · rintro pre x W ⟨ji, jl, jd⟩ hadm
    refine ⟨fn, _, assign, body, run_yield (args := encs x) jl (hps x), roundIn_of_wpIn hfn (hassign _ pre x W _ ji hadm (fun a1 W1 i1 kf kp => ⟨_, run_beginRound (kf.same _ _ (by omega) jl rfl) rfl, ?_⟩))⟩
    have jl1 := kf.same _ _ (by omega) jl rfl
    have jd1 := kf.same _ _ (Nat.le_refl _) jd rfl
    have lt1 : w.heap.size + 1 < W1.heap.size := (Array.getElem?_eq_some_iff.1 jl1).1
    obtain ⟨X, hX⟩ : ∃ X, X = W1.putObj (w.heap.size + 1) (L .busy none) := ⟨_, rfl⟩
    have xl : X.heap[w.heap.size + 1]? = some (L .busy none) := by rw [hX]; exact World.putObj_heap_same lt1
    have xd : X.heap[w.heap.size]? = some (.deferred (some [])) := by rw [hX]; exact (World.putObj_heap_other (by omega)).trans jd1
    have xk : Kp W X := by rw [hX]; exact hKt kp (hKb _ _ _ _ (by omega) jl1 rfl)
    have xi : I₁ pre x a1 X := by rw [hX]; exact (hI₁ pre x a1).putObj (s := pre) _ i1 (by omega) jl1 rfl
    show body.wpIn (F.inRound (w.heap.size + 1)) (n - 1 - 1) P _ a1 (W1.putObj (w.heap.size + 1) (L .busy none))
    rw [← hX]
    refine wpIn_mono (hbody (w.heap.size + 1) pre x a1 X xi) ?_
    have fin : ∀ (j : Option Code) (Z : World), KeepsFrom w.heap.size X Z → ∃ Z', Z' = Z.putObj (w.heap.size + 1) (L (if j.isNone then .ready else .done) j) ∧ (Instr.endRound (w.heap.size + 1) j).run P Z = .ok (.bool j.isNone) Z' ∧
        Z.heap[w.heap.size + 1]? = some (L .busy none) ∧ Z'.heap[w.heap.size + 1]? = some (L (if j.isNone then .ready else .done) j) ∧ Z'.heap[w.heap.size]? = some (.deferred (some [])) := fun j Z hz => by
      have zl := hz.same _ _ (by omega) xl rfl
      exact ⟨_, rfl, run_endRound j zl, zl, World.putObj_heap_same (Array.getElem?_eq_some_iff.1 zl).1, (World.putObj_heap_other (by omega)).trans (hz.same _ _ (Nat.le_refl _) xd rfl)⟩
    have out : ∀ (c : Code) (Z : World), KeepsFrom w.heap.size X Z → Ix c (pre ++ [x]) Z → ∃ v Z', (Instr.endRound (w.heap.size + 1) (some c)).run P Z = .ok v Z' ∧
        ((Ending.returned v = .returned (.bool true) ∧ (I (pre ++ [x]) Z' ∧ Z'.heap[w.heap.size + 1]? = some (L .ready none) ∧ Z'.heap[w.heap.size]? = some (.deferred (some []))) ∧ Kp W Z') ∨
          (Ending.returned v = .returned (.bool false) ∧ ∃ c, Ix c (pre ++ [x]) Z' ∧ Z'.heap[w.heap.size + 1]? = some (L .done (some c)) ∧ Z'.heap[w.heap.size]? = some (.deferred (some [])))) := fun c Z hz hx => by
      obtain ⟨Z', e, hr, zl, zl', zd'⟩ := fin (some c) Z hz
      exact ⟨_, _, hr, .inr ⟨rfl, c, by rw [e]; exact (hIx c).putObj _ hx (by omega) zl rfl, zl', zd'⟩⟩
    intro e a3 Z hp
    cases e with
    | normal =>
      obtain ⟨hz, hk, hi3⟩ := hp
      obtain ⟨Z', e, hr, zl, zl', zd'⟩ := fin none Z hz
      exact ⟨_, _, hr, .inl ⟨rfl, ⟨by rw [e]; exact hI.putObj _ hi3 (by omega) zl rfl, zl', zd'⟩, hKt (hKt xk hk) (by rw [e]; exact hKb _ _ _ _ (by omega) zl rfl)⟩⟩
    | ret => exact out _ Z hp.1 hp.2
    | exit id => exact out _ Z hp.1 hp.2
    | goto t => exact out _ Z hp.1 hp.2
    | panic ch => exact hp.elim
    | outgrown => exact hp.elim
  · rintro e Z ⟨⟨v, rfl⟩, (⟨xs, hS, ji, jl, jd⟩ | ⟨pre, hSp, c, ji, jl, jd⟩)⟩
    · exact ⟨none, _, run_endLoop (P := P) jl (by intro h; cases h), hdone _ xs _ (Nat.le_refl _) hS (hI.putObj _ ji (by omega) jl rfl) ((World.putObj_heap_other (by omega)).trans jd)⟩
    · exact ⟨some c, _, run_endLoop (P := P) jl (by intro h; cases h), hstop _ c pre _ (Nat.le_refl _) hSp ((hIx c).putObj _ ji (by omega) jl rfl) ((World.putObj_heap_other (by omega)).trans jd)⟩
end
end Go.Proofs.Ytobnomlbkhkodaa.Y
