/-
  stamp.marks, Open and the reference's Open.
-/
import Derived.Test.YtlfplcidgccgdaaS2
import Derived.Deep.RegionLaw
import Derived.RegionTactic
import Derived.BigRegion
import Derived.Outline
set_option linter.unusedVariables false
set_option linter.unusedSimpArgs false
namespace Go.Proofs.Ytlfplcidgccgdaa.Y
open Go.RowKit

section
variable {P : Program} {ops : Array Oper} {o : Oper} {a : Act} {Q : Exit → Act → World → Prop} {w : World}
theorem copy_bytesT_run (t : TypeId) (dT sT ty : TypeId) (hu : P.underlying dT = some (.slice 5)) (hinfo : (P.info? 5).map (fun i => (i.zero, i.size, i.bytes)) = some (some (.int .u8 0), 1, 1))
    (dp sp : Option Addr) (dLen dCap sLen sCap : Nat) (g off : Nat) (L ys : List UInt8) (hg : BlkT w t g L) (hy : ys.length = sLen) (hr : Rd w sp ys) (hpos : 0 < min sLen dLen → dp = some ⟨g, off, none⟩)
    (hfit : off + min sLen dLen ≤ L.length) :
    ∃ w', (Builtin.copy_ #[dT, sT] ty #[.slice dp dLen dCap, .slice sp sLen sCap]).run P w = .ok (goInt (ys.take dLen).length) w' ∧ BlkT w' t g (splice L off (ys.take dLen)) ∧ w.grownBy w' (some g) := by
  have hsz : (P.info? 5).map (·.size) = some 1 := by
    obtain ⟨i0, hi, hzz⟩ := Option.map_eq_some_iff.1 hinfo
    simp only [Prod.mk.injEq] at hzz
    rw [hi]
    simp [hzz.2.1]
  have hk : (ys.take dLen).length = min sLen dLen := by rw [List.length_take, hy]; exact Nat.min_comm _ _
  by_cases h0 : ys.take dLen = []
  · have hz : min sLen dLen = 0 := by rw [← hk, h0]; rfl
    have hrun := run_copy_none (P := P) w dT sT ty 5 dp sp dLen dCap sLen sCap hu hsz hz
    refine ⟨w, by rw [h0]; exact hrun, by rw [h0]; simpa [splice] using hg, grown_refl _ _⟩
  · have hp : 0 < min sLen dLen := by
      rw [← hk]
      exact List.length_pos_iff.2 h0
    obtain rfl := hpos hp
    have hne : ys ≠ [] := by intro e; subst e; simp at h0
    obtain ⟨b, o', rfl, hc⟩ := hr.at_ hne
    have hlen : (bvs (ys.take dLen)).length = (ys.take dLen).length := bvs_length _
    have hrun := run_copy_row (P := P) w dT sT ty 5 g off dLen dCap ⟨b, o', none⟩ sLen sCap (bvs L).toArray t (bvs (ys.take dLen)) hu hsz hg (by rw [hlen, hk]) (fun j u hu => by
      rw [bvs_get] at hu
      obtain ⟨x, hx, rfl⟩ := Option.map_eq_some_iff.1 hu
      rw [add_plain]
      refine hc j x ?_
      rw [List.getElem?_take] at hx
      split at hx
      · exact hx
      · cases hx) (by rw [hlen, hk]; simpa [bvs] using hfit) (bvs_one _)
    rw [hlen] at hrun
    refine ⟨_, hrun, ?_, grown_setRow _ _ _⟩
    unfold BlkT
    rw [← splice_bvs]
    have := setRow_heap w g (bvs L).toArray ((bvs L).toArray.toList.take off ++ bvs (ys.take dLen) ++ (bvs L).toArray.toList.drop (off + (ys.take dLen).length)).toArray t (0, 0) hg
    rw [this]
    simp [splice, hlen]
theorem step_copy_bytesT {K : Act → World → Prop} {E : Prop} (hgd : o.guard = none) (t : TypeId) (d s : Operand) (dT sT : TypeId)
    (ho : o.op = .call { callee := .builtin .copy, args := #[d, s], argTypes := #[dT, sT] }) (hu : P.underlying dT = some (.slice 5)) (hinfo : (P.info? 5).map (fun i => (i.zero, i.size, i.bytes)) = some (some (.int .u8 0), 1, 1))
    (dp sp : Option Addr) (dLen dCap sLen sCap : Nat) (hd : a.eval d = .slice dp dLen dCap) (hs : a.eval s = .slice sp sLen sCap)
    (g off : Nat) (L ys : List UInt8) (hg : BlkT w t g L) (hy : ys.length = sLen) (hr : Rd w sp ys) (hpos : 0 < min sLen dLen → dp = some ⟨g, off, none⟩)
    (hfit : off + min sLen dLen ≤ L.length)
    (h : ∀ w', Hid (BlkT w' t g (splice L off (ys.take dLen))) → w.grownBy w' (some g) → K (a.put o.dst (goInt (ys.take dLen).length)) w') :
    if Region.wanted o (yielded ops a.tmps) = true then Oper.wp P o a w K Q else E := by
  rw [if_pos (by simp [Region.wanted, hgd])]
  obtain ⟨w', hrun, h1, h2⟩ := copy_bytesT_run (P := P) (w := w) t dT sT o.type hu hinfo dp sp dLen dCap sLen sCap g off L ys hg hy hr hpos hfit
  unfold Oper.wp execOp
  simp only [ho, resolve, invoke, builtin, Sem.run_bind, Sem.run_pure, Result.andThen_ok, List.map_toArray, List.map_cons, List.map_nil, hd, hs, hrun]
  exact h w' h1 h2
end
theorem list8 {l : List UInt8} (h : l.length = 8) : ∃ x0 x1 x2 x3 x4 x5 x6 x7, l = [x0, x1, x2, x3, x4, x5, x6, x7] := by
  match l, h with
  | [x0, x1, x2, x3, x4, x5, x6, x7], _ => exact ⟨_, _, _, _, _, _, _, _, rfl⟩
end Go.Proofs.Ytlfplcidgccgdaa.Y
