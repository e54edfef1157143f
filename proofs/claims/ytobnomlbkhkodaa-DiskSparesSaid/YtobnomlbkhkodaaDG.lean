/-
  DiskSynced, in plain words: what each block may hold behind a crash.
-/
import Derived.Test.YtobnomlbkhkodaaDD
set_option linter.unusedVariables false
set_option linter.unusedSimpArgs false
namespace Go.Proofs.Ytobnomlbkhkodaa.Y
open Go.RowKit

theorem leftL_more {keep : List Bool} {torn : Int} {ct : Nat} {ws : List (Nat × List UInt8)} {bs : List (List UInt8)} (p : Nat × List UInt8) : ∀ k, k ≤ ws.length → leftL keep torn ct (ws ++ [p]) bs k = leftL keep torn ct ws bs k := by
  intro k
  induction k with
  | zero => intro _; rfl
  | succ k ih =>
    intro hk
    have h1 := List.getElem?_eq_getElem (l := ws) (i := k) (by omega)
    rw [leftL_at h1, leftL_at (p := ws[k]) (by rw [List.getElem?_append_left (by omega)]; exact h1), ih (by omega)]
theorem leftL_snoc {keep : List Bool} {torn : Int} {ct : Nat} {ws : List (Nat × List UInt8)} {bs : List (List UInt8)} (p : Nat × List UInt8) : leftL keep torn ct (ws ++ [p]) bs (ws ++ [p]).length = stepL keep torn ct (leftL keep torn ct ws bs ws.length) ws.length p := by
  rw [List.length_append, List.length_singleton, leftL_at (p := p) (by simp), leftL_more p _ (Nat.le_refl _)]
theorem readV_addW (d : DS) (b0 : Nat) (w : List UInt8) (b : Nat) : readV (addW d b0 w) b = if b0 = b then w else readV d b := by
  unfold readV addW
  rw [List.foldl_append]
  rfl
/-- What each block may hold: M. -/
structure SModel (keep : List Bool) (torn : Int) (ct : Nat) (D : DS) (M : Nat → List (List UInt8)) : Prop where
  mem : ∀ b xs, (leftL keep torn ct D.writes D.blocks D.writes.length)[b]? = some xs → xs ∈ M b
  last : ∀ b, b < D.blocks.length → ∃ A, M b = A ++ [readV D b]
def growM (torn : Int) (ct : Nat) (n : Nat) (M : Nat → List (List UInt8)) (b0 : Nat) (w : List UInt8) (b : Nat) : List (List UInt8) :=
  if b = b0 then M b ++ ((if (n : Int) = torn then (M b).map (fun old => tornL old w ct) else []) ++ [w]) else M b
theorem SModel.write {keep : List Bool} {torn : Int} {ct : Nat} {D : DS} {M : Nat → List (List UInt8)} (h : SModel keep torn ct D M) (b0 : Nat) (w : List UInt8) (hb0 : b0 < D.blocks.length) : SModel keep torn ct (addW D b0 w) (growM torn ct D.writes.length M b0 w) := by
  refine ⟨fun b xs hx => ?_, fun b hb => ?_⟩
  · show xs ∈ growM _ _ _ _ _ _ _
    have hx2 : (stepL keep torn ct (leftL keep torn ct D.writes D.blocks D.writes.length) D.writes.length (b0, w))[b]? = some xs := by
      rw [← leftL_snoc]; exact hx
    have hlen : b0 < (leftL keep torn ct D.writes D.blocks D.writes.length).length := by rw [leftL_length]; exact hb0
    unfold growM
    by_cases hb : b = b0
    · subst hb
      rw [if_pos rfl]
      have hold := List.getElem?_eq_getElem hlen
      have hm := h.mem b _ hold
      by_cases ht : (D.writes.length : Int) = torn
      · rw [stepL_torn ht hold, List.getElem?_set_self hlen] at hx2
        injection hx2 with hx2
        rw [if_pos ht, ← hx2]
        exact List.mem_append.2 (.inr (List.mem_append.2 (.inl (List.mem_map.2 ⟨_, hm, rfl⟩))))
      · by_cases hk : keep[D.writes.length]?.getD false = true
        · unfold stepL at hx2
          rw [if_neg ht, if_pos hk, List.getElem?_set_self hlen] at hx2
          injection hx2 with hx2
          rw [← hx2]
          exact List.mem_append.2 (.inr (List.mem_append.2 (.inr (by simp))))
        · rw [stepL_gone ht (by simpa using hk)] at hx2
          exact List.mem_append.2 (.inl (h.mem b xs hx2))
    · rw [if_neg hb]
      refine h.mem b xs ?_
      unfold stepL at hx2
      split at hx2
      · rw [List.getElem?_set_ne (Ne.symm hb)] at hx2; exact hx2
      · split at hx2
        · rw [List.getElem?_set_ne (Ne.symm hb)] at hx2; exact hx2
        · exact hx2
  · rw [readV_addW]
    unfold growM
    by_cases hbb : b = b0
    · subst hbb
      rw [if_pos rfl, if_pos rfl, ← List.append_assoc]
      exact ⟨_, rfl⟩
    · rw [if_neg hbb, if_neg (Ne.symm hbb)]
      exact h.last b hb
theorem readV_sync {D : DS} {b : Nat} (hb : b < D.blocks.length) : readV (syncD D) b = readV D b := readV_miss (sync_get hb) (fun i p hp => by cases hp)
theorem SModel.sync (keep : List Bool) (torn : Int) (ct : Nat) (D : DS) : SModel keep torn ct (syncD D) (fun b => [readV D b]) := by
  refine ⟨fun b xs hx => ?_, fun b hb => ⟨[], ?_⟩⟩
  · have hb : b < D.blocks.length := by
      have := (List.getElem?_eq_some_iff.1 hx).1
      rw [leftL_length] at this
      simpa [syncD, applyW_length] using this
    have : (syncD D).blocks[b]? = some xs := hx
    rw [sync_get hb] at this
    injection this with this
    simp [this]
  · rw [readV_sync (by simpa [syncD, applyW_length] using hb)]
    rfl
theorem SModel.new (keep : List Bool) (torn : Int) (ct n : Nat) : SModel keep torn ct (newD n) (fun _ => [zeros 4096]) := by
  refine ⟨fun b xs hx => ?_, fun b hb => ⟨[], ?_⟩⟩
  · have : (List.replicate n (zeros 4096))[b]? = some xs := hx
    simp [(List.mem_replicate.1 (List.mem_of_getElem? this)).2]
  · have hb' : b < n := by simpa [newD] using hb
    rw [readV_miss (d := newD n) (xs := zeros 4096) (by simp [newD, hb']) (fun i p hp => by cases hp)]
    rfl
/-- What the crash leaves is one of those. -/
theorem SModel.crash {keep : List Bool} {torn : Int} {ct : Nat} {D : DS} {M : Nat → List (List UInt8)} (h : SModel keep torn ct D M) {b : Nat} (hb : b < D.blocks.length) : ∃ xs, (crashD D keep torn ct).blocks[b]? = some xs ∧ xs ∈ M b ∧ readV (crashD D keep torn ct) b = xs := by
  have hx : (crashD D keep torn ct).blocks[b]? = some _ := List.getElem?_eq_getElem (by show b < (leftL _ _ _ _ _ _).length; rw [leftL_length]; exact hb)
  exact ⟨_, hx, h.mem b _ hx, readV_miss hx (fun i p hp => by cases hp)⟩
end Go.Proofs.Ytobnomlbkhkodaa.Y
