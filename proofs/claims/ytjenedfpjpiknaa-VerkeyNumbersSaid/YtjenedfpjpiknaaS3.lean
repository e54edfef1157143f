/-
  stamp.marks, Open and the reference's Open.
-/
import Derived.Test.YtjenedfpjpiknaaS2
import Derived.Deep.RegionLaw
import Derived.RegionTactic
import Derived.BigRegion
import Derived.Outline
set_option linter.unusedVariables false
set_option linter.unusedSimpArgs false
namespace Go.Proofs.Ytjenedfpjpiknaa.Y
open Go.RowKit

section
variable {P : Program} {ops : Array Oper} {o : Oper} {a : Act} {Q : Exit → Act → World → Prop} {w : World}
theorem copy_bytesT_run (t : TypeId) (dT sT ty : TypeId) (hu : P.underlying dT = some (.slice 5)) (hinfo : (P.info? 5).map (fun i => (i.zero, i.size, i.bytes)) = some (some (.int .u8 0), 1, 1))
    (dp sp : Option Addr) (dLen dCap sLen sCap : Nat) (g off : Nat) (L ys : List UInt8) (hg : BlkT w t g L) (hy : ys.length = sLen) (hr : Rd w sp ys) (hpos : 0 < min sLen dLen → dp = some ⟨g, off, none⟩)
    (hfit : off + min sLen dLen ≤ L.length) :
    ∃ w', (Builtin.copy_ #[dT, sT] ty #[.slice dp dLen dCap, .slice sp sLen sCap]).run P w = .ok (goInt (ys.take dLen).length) w' ∧ BlkT w' t g (splice L off (ys.take dLen)) ∧ w.grownBy w' (some g) := by
  have hsz : (P.info? 5).map (·.size) = some 1 := by
    obtain ⟨i0, hi, hzz⟩ := Option.map_eq_some_iff.1 hinfo
    simp only [Prod.mk.injEq] at hzz
    rw [hi]
    simp [hzz.2.1]
  have hk : (ys.take dLen).length = min sLen dLen := by rw [List.length_take, hy]; exact Nat.min_comm _ _
  by_cases h0 : ys.take dLen = []
  · have hz : min sLen dLen = 0 := by rw [← hk, h0]; rfl
    have hrun := run_copy_none (P := P) w dT sT ty 5 dp sp dLen dCap sLen sCap hu hsz hz
    refine ⟨w, by rw [h0]; exact hrun, by rw [h0]; simpa [splice] using hg, grown_refl _ _⟩
  · have hp : 0 < min sLen dLen := by
      rw [← hk]
      exact List.length_pos_iff.2 h0
    obtain rfl := hpos hp
    have hne : ys ≠ [] := by intro e; subst e; simp at h0
    obtain ⟨b, o', rfl, hc⟩ := hr.at_ hne
    have hlen : (bvs (ys.take dLen)).length = (ys.take dLen).length := bvs_length _
    have hrun := run_copy_row (P := P) w dT sT ty 5 g off dLen dCap ⟨b, o', none⟩ sLen sCap (bvs L).toArray t (bvs (ys.take dLen)) hu hsz hg (by rw [hlen, hk]) (fun j u hu => by
      rw [bvs_get] at hu
      obtain ⟨x, hx, rfl⟩ := Option.map_eq_some_iff.1 hu
      rw [add_plain]
      refine hc j x ?_
      rw [List.getElem?_take] at hx
      split at hx
      · exact hx
      · cases hx) (by rw [hlen, hk]; simpa [bvs] using hfit) (bvs_one _)
    rw [hlen] at hrun
    refine ⟨_, hrun, ?_, grown_setRow _ _ _⟩
    unfold BlkT
    rw [← splice_bvs]
    have := setRow_heap w g (bvs L).toArray ((bvs L).toArray.toList.take off ++ bvs (ys.take dLen) ++ (bvs L).toArray.toList.drop (off + (ys.take dLen).length)).toArray t (0, 0) hg
    rw [this]
    simp [splice, hlen]
theorem step_copy_bytesT {K : Act → World → Prop} {E : Prop} (hgd : o.guard = none) (t : TypeId) (d s : Operand) (dT sT : TypeId)
    (ho : o.op = .call { callee := .builtin .copy, args := #[d, s], argTypes := #[dT, sT] }) (hu : P.underlying dT = some (.slice 5)) (hinfo : (P.info? 5).map (fun i => (i.zero, i.size, i.bytes)) = some (some (.int .u8 0), 1, 1))
    (dp sp : Option Addr) (dLen dCap sLen sCap : Nat) (hd : a.eval d = .slice dp dLen dCap) (hs : a.eval s = .slice sp sLen sCap)
    (g off : Nat) (L ys : List UInt8) (hg : BlkT w t g L) (hy : ys.length = sLen) (hr : Rd w sp ys) (hpos : 0 < min sLen dLen → dp = some ⟨g, off, none⟩)
    (hfit : off + min sLen dLen ≤ L.length)
    (h : ∀ w', Hid (BlkT w' t g (splice L off (ys.take dLen))) → w.grownBy w' (some g) → K (a.put o.dst (goInt (ys.take dLen).length)) w') :
    if Region.wanted o (yielded ops a.tmps) = true then Oper.wp P o a w K Q else E := by
  rw [if_pos (by simp [Region.wanted, hgd])]
  obtain ⟨w', hrun, h1, h2⟩ := copy_bytesT_run (P := P) (w := w) t dT sT o.type hu hinfo dp sp dLen dCap sLen sCap g off L ys hg hy hr hpos hfit
  unfold Oper.wp execOp
  simp only [ho, resolve, invoke, builtin, Sem.run_bind, Sem.run_pure, Result.andThen_ok, List.map_toArray, List.map_cons, List.map_nil, hd, hs, hrun]
  exact h w' h1 h2
end
theorem list8 {l : List UInt8} (h : l.length = 8) : ∃ x0 x1 x2 x3 x4 x5 x6 x7, l = [x0, x1, x2, x3, x4, x5, x6, x7] := by
  match l, h with
  | [x0, x1, x2, x3, x4, x5, x6, x7], _ => exact ⟨_, _, _, _, _, _, _, _, rfl⟩
theorem four_marks (w : World) : BlkT ((((w.alloc (.cells #[.int .u8 0, .int .u8 0, .int .u8 0, .int .u8 0, .int .u8 0, .int .u8 0, .int .u8 0, .int .u8 0] 69)).alloc (.cells #[.int .u8 0, .int .u8 0, .int .u8 0, .int .u8 0, .int .u8 0, .int .u8 0, .int .u8 0, .int .u8 0] 69)).alloc (.cells #[.int .u8 0, .int .u8 0, .int .u8 0, .int .u8 0, .int .u8 0, .int .u8 0, .int .u8 0, .int .u8 0] 69)).alloc (.cells #[.int .u8 0, .int .u8 0, .int .u8 0, .int .u8 0, .int .u8 0, .int .u8 0, .int .u8 0, .int .u8 0] 69)) 69 w.heap.size (zeros 8) ∧ BlkT ((((w.alloc (.cells #[.int .u8 0, .int .u8 0, .int .u8 0, .int .u8 0, .int .u8 0, .int .u8 0, .int .u8 0, .int .u8 0] 69)).alloc (.cells #[.int .u8 0, .int .u8 0, .int .u8 0, .int .u8 0, .int .u8 0, .int .u8 0, .int .u8 0, .int .u8 0] 69)).alloc (.cells #[.int .u8 0, .int .u8 0, .int .u8 0, .int .u8 0, .int .u8 0, .int .u8 0, .int .u8 0, .int .u8 0] 69)).alloc (.cells #[.int .u8 0, .int .u8 0, .int .u8 0, .int .u8 0, .int .u8 0, .int .u8 0, .int .u8 0, .int .u8 0] 69)) 69 (w.heap.size + 1) (zeros 8) ∧
    BlkT ((((w.alloc (.cells #[.int .u8 0, .int .u8 0, .int .u8 0, .int .u8 0, .int .u8 0, .int .u8 0, .int .u8 0, .int .u8 0] 69)).alloc (.cells #[.int .u8 0, .int .u8 0, .int .u8 0, .int .u8 0, .int .u8 0, .int .u8 0, .int .u8 0, .int .u8 0] 69)).alloc (.cells #[.int .u8 0, .int .u8 0, .int .u8 0, .int .u8 0, .int .u8 0, .int .u8 0, .int .u8 0, .int .u8 0] 69)).alloc (.cells #[.int .u8 0, .int .u8 0, .int .u8 0, .int .u8 0, .int .u8 0, .int .u8 0, .int .u8 0, .int .u8 0] 69)) 69 (w.heap.size + 1 + 1) (zeros 8) ∧ BlkT ((((w.alloc (.cells #[.int .u8 0, .int .u8 0, .int .u8 0, .int .u8 0, .int .u8 0, .int .u8 0, .int .u8 0, .int .u8 0] 69)).alloc (.cells #[.int .u8 0, .int .u8 0, .int .u8 0, .int .u8 0, .int .u8 0, .int .u8 0, .int .u8 0, .int .u8 0] 69)).alloc (.cells #[.int .u8 0, .int .u8 0, .int .u8 0, .int .u8 0, .int .u8 0, .int .u8 0, .int .u8 0, .int .u8 0] 69)).alloc (.cells #[.int .u8 0, .int .u8 0, .int .u8 0, .int .u8 0, .int .u8 0, .int .u8 0, .int .u8 0, .int .u8 0] 69)) 69 (w.heap.size + 1 + 1 + 1) (zeros 8) := by
  refine ⟨?_, ?_, ?_, ?_⟩
  · show (World.alloc _ _).heap[w.heap.size]? = _
    rw [_root_.Go.heap_alloc_old _ _ (by simp; omega), _root_.Go.heap_alloc_old _ _ (by simp; omega), _root_.Go.heap_alloc_old _ _ (by simp)]
    exact heap_alloc_new _ _
  · show (World.alloc _ _).heap[w.heap.size + 1]? = _
    rw [_root_.Go.heap_alloc_old _ _ (by simp), _root_.Go.heap_alloc_old _ _ (by simp)]
    exact (by simp : w.heap.size + 1 = (w.alloc _).heap.size) ▸ heap_alloc_new _ _
  · show (World.alloc _ _).heap[w.heap.size + 1 + 1]? = _
    rw [_root_.Go.heap_alloc_old _ _ (by simp)]
    exact (by simp : w.heap.size + 1 + 1 = ((w.alloc _).alloc _).heap.size) ▸ heap_alloc_new _ _
  · show (World.alloc _ _).heap[w.heap.size + 1 + 1 + 1]? = _
    exact (by simp : w.heap.size + 1 + 1 + 1 = (((w.alloc _).alloc _).alloc _).heap.size) ▸ heap_alloc_new _ _
set_option maxHeartbeats 1600000 in
theorem marks_any {w : World} {A : Option Addr} {xs : List UInt8} (HL : Hid (xs.length = 4096)) (c : Nat) (HA : Hid (Rd w A xs)) (hc : 4096 ≤ c) :
    Calls Try.prog 53 #[.slice A 4096 c] w fun e w' => e = .returned (.tuple #[.agg (bvs (xs.take 8)).toArray, .agg (bvs (xs.drop 4088)).toArray]) ∧ Below w.heap.size w w' := by
  have hd : Hid ((xs.drop 4088).length = 8) := by show _ = _; rw [List.length_drop, HL.out]
  have ht : Hid ((xs.take 8).length = 8) := by show _ = _; rw [List.length_take, HL.out]; rfl
  obtain ⟨x0, x1, x2, x3, x4, x5, x6, x7, hx⟩ := list8 ht.out
  obtain ⟨y0, y1, y2, y3, y4, y5, y6, y7, hy⟩ := list8 hd.out
  rw [hx, hy]
  have HX := Lib.hid hx
  have HY := Lib.hid hy
  clear hx hy
  go_enter Try.func53, Try.ntmps53
  have F4 := Lib.hid (four_marks w)
  go_wp2_with (with_reducible refine wpList_copy_bytesT rfl 69 (.tmp 6) (.tmp 7) 22 22 rfl Try.underlying22 info_u8 (some ⟨w.heap.size + 1 + 1, 0, none⟩) A 8 8 4096 c rfl rfl (w.heap.size + 1 + 1) 0 (zeros 8) xs F4.out.2.2.1 HL.out ((((HA.out.alloc _).alloc _).alloc _).alloc _) (fun _ => rfl) (by decide) ?_; intro w2 hb2 hg2; have G2 := Lib.hid hg2; clear hg2)
  have RC := Lib.hid ((HA.out.alloc (Obj.cells #[.int .u8 0, .int .u8 0, .int .u8 0, .int .u8 0, .int .u8 0, .int .u8 0, .int .u8 0, .int .u8 0] 69)).alloc (Obj.cells #[.int .u8 0, .int .u8 0, .int .u8 0, .int .u8 0, .int .u8 0, .int .u8 0, .int .u8 0, .int .u8 0] 69) |>.alloc (Obj.cells #[.int .u8 0, .int .u8 0, .int .u8 0, .int .u8 0, .int .u8 0, .int .u8 0, .int .u8 0, .int .u8 0] 69) |>.alloc (Obj.cells #[.int .u8 0, .int .u8 0, .int .u8 0, .int .u8 0, .int .u8 0, .int .u8 0, .int .u8 0, .int .u8 0] 69))
  have B2 := Lib.hid ((((((Below.refl _ w).alloc (Nat.le_refl _) (Obj.cells #[.int .u8 0, .int .u8 0, .int .u8 0, .int .u8 0, .int .u8 0, .int .u8 0, .int .u8 0, .int .u8 0] 69)).alloc (by simp) (Obj.cells #[.int .u8 0, .int .u8 0, .int .u8 0, .int .u8 0, .int .u8 0, .int .u8 0, .int .u8 0, .int .u8 0] 69)).alloc (by simp; omega) (Obj.cells #[.int .u8 0, .int .u8 0, .int .u8 0, .int .u8 0, .int .u8 0, .int .u8 0, .int .u8 0, .int .u8 0] 69)).alloc (by simp; omega) (Obj.cells #[.int .u8 0, .int .u8 0, .int .u8 0, .int .u8 0, .int .u8 0, .int .u8 0, .int .u8 0, .int .u8 0] 69)).grown G2.out (by simp; omega) (by intro k hk; injection hk with hk; omega))
  have R2 := Lib.hid ((HA.out.below B2.out).cut 4088 c (by have := HL.out; omega))
  have F0 := Lib.hid (F4.out.1.grown G2.out (by simp; omega))
  have F1 := Lib.hid (F4.out.2.1.grown G2.out (by simp))
  have F3 := Lib.hid (F4.out.2.2.2.grown G2.out (by simp))
  have hc2 : (4088 : Int) ≤ 4096 := by decide
  clear RC F4 G2
  go_region_law (refine step_copy_bytesT rfl 69 (.tmp 9) (.tmp 11) 22 22 rfl Try.underlying22 info_u8 (some ⟨w.heap.size + 1 + 1 + 1, 0, none⟩) (cutA A c 4088) 8 8 8 (c - 4088) rfl rfl (w.heap.size + 1 + 1 + 1) 0 (zeros 8) (xs.drop 4088) F3.out hd.out R2.out (fun _ => rfl) (by decide) ?_; intro w3 hb3 hg3; have G3 := Lib.hid hg3; clear hg3)
  go_wp2_with fail
  have F03 := Lib.hid (BlkT.grown (w := w2.drew) (show BlkT w2.drew _ _ _ from F0.out) G3.out (by simp; omega))
  have F13 := Lib.hid (BlkT.grown (w := w2.drew) (show BlkT w2.drew _ _ _ from F1.out) G3.out (by simp))
  have B3 := Lib.hid (B2.out.drew.grown G3.out B2.out.size (by intro k hk; injection hk with hk; omega))
  have hx := HX.out
  have hy := HY.out
  have HA3 : Hid (BlkT w3 69 (w.heap.size + 1 + 1) [x0, x1, x2, x3, x4, x5, x6, x7]) := by
    have := hb2.out
    rw [hx] at this
    exact BlkT.grown (w := w2.drew) this G3.out (by simp)
  have HB3 : Hid (BlkT w3 69 (w.heap.size + 1 + 1 + 1) [y0, y1, y2, y3, y4, y5, y6, y7]) := by
    have := hb3.out
    rw [hy] at this
    exact this
  have f0 := F03.out.frozen
  have f1 := F13.out.frozen
  have ca0 := (HA3.out).cell (j := 0) (x := x0) rfl
  have cb0 := (HB3.out).cell (j := 0) (x := y0) rfl
  have c00 := (F03.out).cell (j := 0) (x := 0) rfl
  have c10 := (F13.out).cell (j := 0) (x := 0) rfl
  have ca1 := (HA3.out).cell (j := 1) (x := x1) rfl
  have cb1 := (HB3.out).cell (j := 1) (x := y1) rfl
  have c01 := (F03.out).cell (j := 1) (x := 0) rfl
  have c11 := (F13.out).cell (j := 1) (x := 0) rfl
  have ca2 := (HA3.out).cell (j := 2) (x := x2) rfl
  have cb2 := (HB3.out).cell (j := 2) (x := y2) rfl
  have c02 := (F03.out).cell (j := 2) (x := 0) rfl
  have c12 := (F13.out).cell (j := 2) (x := 0) rfl
  have ca3 := (HA3.out).cell (j := 3) (x := x3) rfl
  have cb3 := (HB3.out).cell (j := 3) (x := y3) rfl
  have c03 := (F03.out).cell (j := 3) (x := 0) rfl
  have c13 := (F13.out).cell (j := 3) (x := 0) rfl
  have ca4 := (HA3.out).cell (j := 4) (x := x4) rfl
  have cb4 := (HB3.out).cell (j := 4) (x := y4) rfl
  have c04 := (F03.out).cell (j := 4) (x := 0) rfl
  have c14 := (F13.out).cell (j := 4) (x := 0) rfl
  have ca5 := (HA3.out).cell (j := 5) (x := x5) rfl
  have cb5 := (HB3.out).cell (j := 5) (x := y5) rfl
  have c05 := (F03.out).cell (j := 5) (x := 0) rfl
  have c15 := (F13.out).cell (j := 5) (x := 0) rfl
  have ca6 := (HA3.out).cell (j := 6) (x := x6) rfl
  have cb6 := (HB3.out).cell (j := 6) (x := y6) rfl
  have c06 := (F03.out).cell (j := 6) (x := 0) rfl
  have c16 := (F13.out).cell (j := 6) (x := 0) rfl
  have ca7 := (HA3.out).cell (j := 7) (x := x7) rfl
  have cb7 := (HB3.out).cell (j := 7) (x := y7) rfl
  have c07 := (F03.out).cell (j := 7) (x := 0) rfl
  have c17 := (F13.out).cell (j := 7) (x := 0) rfl
  clear F03 F13 HA3 HB3 hx hy hb2 hb3 F0 F1 R2 G3
  go_region
  go_wp2_with fail
  refine bodyPost_ret (v := .tuple #[.agg (bvs [x0, x1, x2, x3, x4, x5, x6, x7]).toArray, .agg (bvs [y0, y1, y2, y3, y4, y5, y6, y7]).toArray]) ?_ rfl ⟨rfl, ?_⟩
  · simp [results, Try.results53, go_sem, bvs, bv, *]
  · refine Below.drew ?_
    repeat (refine Below.setCell ?_ (by simp) _)
    exact B3.out
end Go.Proofs.Ytjenedfpjpiknaa.Y
