/-
  copy of what is read into a block of bytes that is known whole; blocks and rows.
-/
import Derived.Test.YtlfplcidgccgdaaYA
import Derived.Laws.CopyOwn
set_option linter.unusedVariables false
set_option linter.unusedSimpArgs false
namespace Go.Proofs.Ytlfplcidgccgdaa.Y
open Go.RowKit

/-- Block g holds these bytes, and no more. -/
def Blk (w : World) (g : Nat) (L : List UInt8) : Prop := w.heap[g]? = some (.cells (bvs L).toArray 5 (0, 0))
theorem Blk.lt {w : World} {g : Nat} {L : List UInt8} (h : Blk w g L) : g < w.heap.size := (Array.getElem?_eq_some_iff.1 h).1
theorem Blk.new (w : World) (L : List UInt8) : Blk (w.alloc (.cells (bvs L).toArray 5)) w.heap.size L := heap_alloc_new w _
theorem Blk.grown {w w1 : World} {g : Nat} {L : List UInt8} (h : Blk w g L) {row : Option Nat} (hg : w.grownBy w1 row) (hne : some g ≠ row) : Blk w1 g L := (hg.block g h.lt hne).trans h
theorem Blk.below {w w1 : World} {g : Nat} {L : List UInt8} (h : Blk w g L) (hb : Below w.heap.size w w1) : Blk w1 g L := (hb.block g h.lt).trans h
theorem Blk.drew {w : World} {g : Nat} {L : List UInt8} (h : Blk w g L) : Blk w.drew g L := h
theorem Blk.cell {w : World} {g : Nat} {L : List UInt8} (h : Blk w g L) {j : Nat} (hj : j < L.length) : w.cell? ⟨g, j, none⟩ = some (.int .u8 ((L[j]'hj).toNat : Int)) := by
  rw [cell_of_row w g j _ _ _ h]
  simp [bvs, bv, List.getElem?_eq_getElem hj]
theorem Blk.frozen {w : World} {g : Nat} {L : List UInt8} (h : Blk w g L) (j : Nat) : w.frozen? ⟨g, j, none⟩ = false := by
  have h' : w.heap[g]? = _ := h
  simp [World.frozen?, h']
theorem Blk.rd {w : World} {g : Nat} {L : List UInt8} (h : Blk w g L) (o n : Nat) : Rd w (some ⟨g, o, none⟩) ((L.drop o).take n) := by
  refine .inr ⟨g, o, rfl, fun j u hu => ?_⟩
  have hu' : L[o + j]? = some u := by
    rw [List.getElem?_take] at hu
    split at hu
    · rwa [List.getElem?_drop] at hu
    · cases hu
  obtain ⟨hj, rfl⟩ := List.getElem?_eq_some_iff.1 hu'
  exact h.cell hj
/-- A slice at its head owns its first bytes. -/
theorem Blk.own {w : World} {g : Nat} {L : List UInt8} (h : Blk w g L) {B n : Nat} (hB : B ≤ g) (hn : n ≤ L.length) (hm : L.length ≤ maxLen) : Own w B (.slice (some ⟨g, 0, none⟩) n L.length) (L.take n) := by
  have e : (L.take n).length = n := by simp; omega
  refine ⟨by simp [bvs], .inr ⟨g, L.length, _, by rw [e], hB, h, by rw [e]; exact hn, hm, by simp [bvs], ?_⟩⟩
  rw [e]
  simp [bvs]
theorem Blk.store {w : World} {g : Nat} {L : List UInt8} (h : Blk w g L) {j : Nat} (x : UInt8) : Blk (w.setCell ⟨g, j, none⟩ (bv x)) g (L.set j x) ∧ w.grownBy (w.setCell ⟨g, j, none⟩ (bv x)) (some g) := by
  refine ⟨?_, ⟨rfl, rfl, rfl, by simp [World.setCell], fun k _ hk => Below.heap_setCell _ _ _ _ (fun e => hk (by rw [e]))⟩⟩
  have h' : w.heap[g]? = _ := h
  unfold Blk
  simp only [World.setCell, Array.getElem?_modify]
  simp [h', bvs, List.map_set]

/-- A new block of one byte. -/
theorem rd_box {w : World} (x : UInt8) {y : Int} (h : y = (x.toNat : Int)) : Rd (w.alloc (.cells #[.int .u8 y] 5)) (some ⟨w.heap.size, 0, none⟩) [x] := by
  subst h
  have hb : Blk (w.alloc (.cells #[.int .u8 (x.toNat : Int)] 5)) w.heap.size [x] := Blk.new w [x]
  simpa using hb.rd 0 1
theorem ofNat_cell (m : Nat) : ((UInt8.ofNat m).toNat : Int) = (m : Int) % 256 := by
  rw [UInt8.toNat_ofNat']
  omega
theorem grown_setRow (w : World) (g : Nat) (cs : Array Value) : w.grownBy (w.setRow g cs) (some g) :=
  ⟨rfl, rfl, rfl, by simp [World.setRow], fun k _ hk => setRow_other w g k cs (fun e => hk (by rw [e]))⟩
theorem grown_refl (w : World) (row : Option Nat) : w.grownBy w row := ⟨rfl, rfl, rfl, Nat.le_refl _, fun _ _ _ => rfl⟩
theorem splice_bvs (L : List UInt8) (o : Nat) (ys : List UInt8) : splice (bvs L) o (bvs ys) = bvs (splice L o ys) := by
  simp [splice, bvs]

/-- The same, of a block of whatever element type (an array of bytes). -/
def BlkT (w : World) (t : TypeId) (g : Nat) (L : List UInt8) : Prop := w.heap[g]? = some (.cells (bvs L).toArray t (0, 0))
theorem BlkT.lt {w : World} {t : TypeId} {g : Nat} {L : List UInt8} (h : BlkT w t g L) : g < w.heap.size := (Array.getElem?_eq_some_iff.1 h).1
theorem BlkT.grown {w w1 : World} {t : TypeId} {g : Nat} {L : List UInt8} (h : BlkT w t g L) {row : Option Nat} (hg : w.grownBy w1 row) (hne : some g ≠ row) : BlkT w1 t g L := (hg.block g h.lt hne).trans h
theorem BlkT.cell {w : World} {t : TypeId} {g : Nat} {L : List UInt8} (h : BlkT w t g L) {j : Nat} {x : UInt8} (hj : L[j]? = some x) : w.cell? ⟨g, j, none⟩ = some (.int .u8 (x.toNat : Int)) := by
  rw [cell_of_row w g j _ _ _ h]
  simp [bvs, bv, hj]
theorem BlkT.frozen {w : World} {t : TypeId} {g : Nat} {L : List UInt8} (h : BlkT w t g L) (j : Nat) : w.frozen? ⟨g, j, none⟩ = false := by
  have h' : w.heap[g]? = _ := h
  simp [World.frozen?, h']
section
variable {P : Program} {ops : Array Oper} {rest : List Oper} {o : Oper} {a : Act} {Q : Exit → Act → World → Prop} {w : World}
theorem wpList_copy_bytes (hgd : o.guard = none) (d s : Operand) (dT sT : TypeId)
    (ho : o.op = .call { callee := .builtin .copy, args := #[d, s], argTypes := #[dT, sT] }) (hu : P.underlying dT = some (.slice 5)) (hinfo : (P.info? 5).map (fun i => (i.zero, i.size, i.bytes)) = some (some (.int .u8 0), 1, 1))
    (dp sp : Option Addr) (dLen dCap sLen sCap : Nat) (hd : a.eval d = .slice dp dLen dCap) (hs : a.eval s = .slice sp sLen sCap)
    (g off : Nat) (L ys : List UInt8) (hg : Blk w g L) (hy : ys.length = sLen) (hr : Rd w sp ys) (hpos : 0 < min sLen dLen → dp = some ⟨g, off, none⟩)
    (hfit : off + min sLen dLen ≤ L.length)
    (h : ∀ w', Hid (Blk w' g (splice L off (ys.take dLen))) → w.grownBy w' (some g) → wpList P ops Q rest (a.put o.dst (goInt (ys.take dLen).length)) w') :
    wpList P ops Q (o :: rest) a w := by
  have hsz : (P.info? 5).map (·.size) = some 1 := by
    obtain ⟨i0, hi, hzz⟩ := Option.map_eq_some_iff.1 hinfo
    simp only [Prod.mk.injEq] at hzz
    rw [hi]
    simp [hzz.2.1]
  have hk : (ys.take dLen).length = min sLen dLen := by rw [List.length_take, hy]; exact Nat.min_comm _ _
  by_cases h0 : ys.take dLen = []
  · have hz : min sLen dLen = 0 := by rw [← hk, h0]; rfl
    refine wpList_copy_nothing hgd d s dT sT ho 5 hu hsz dp sp dLen dCap sLen sCap hd hs hz ?_
    have := h w (show Blk _ _ _ by rw [h0]; simpa [splice] using hg) (grown_refl _ _)
    rw [h0] at this
    exact this
  · have hp : 0 < min sLen dLen := by
      rw [← hk]
      exact List.length_pos_iff.2 h0
    obtain rfl := hpos hp
    have hne : ys ≠ [] := by intro e; subst e; simp at h0
    obtain ⟨b, o', rfl, hc⟩ := hr.at_ hne
    have hlen : (bvs (ys.take dLen)).length = (ys.take dLen).length := bvs_length _
    refine wpList_copy_own hgd d s dT sT ho 5 hu hsz g off dLen dCap ⟨b, o', none⟩ sLen sCap hd hs (bvs L).toArray 5 hg (bvs (ys.take dLen)) (by rw [hlen, hk]) ?_ (by rw [hlen, hk]; simpa [bvs] using hfit) (bvs_one _) ?_
    · intro j u hu
      rw [bvs_get] at hu
      obtain ⟨x, hx, rfl⟩ := Option.map_eq_some_iff.1 hu
      rw [add_plain]
      refine hc j x ?_
      rw [List.getElem?_take] at hx
      split at hx
      · exact hx
      · cases hx
    · have := h (w.setRow g ((bvs L).toArray.toList.take off ++ (bvs (ys.take dLen) ++ (bvs L).toArray.toList.drop (off + (bvs (ys.take dLen)).length))).toArray) ?_ (grown_setRow _ _ _)
      · rw [hlen] at this ⊢
        exact this
      · show Blk _ _ _
        unfold Blk
        rw [← splice_bvs]
        have := setRow_heap w g (bvs L).toArray ((bvs L).toArray.toList.take off ++ (bvs (ys.take dLen) ++ (bvs L).toArray.toList.drop (off + (bvs (ys.take dLen)).length))).toArray 5 (0, 0) hg
        simpa [splice] using this
theorem wpList_copy_bytesT (hgd : o.guard = none) (t : TypeId) (d s : Operand) (dT sT : TypeId)
    (ho : o.op = .call { callee := .builtin .copy, args := #[d, s], argTypes := #[dT, sT] }) (hu : P.underlying dT = some (.slice 5)) (hinfo : (P.info? 5).map (fun i => (i.zero, i.size, i.bytes)) = some (some (.int .u8 0), 1, 1))
    (dp sp : Option Addr) (dLen dCap sLen sCap : Nat) (hd : a.eval d = .slice dp dLen dCap) (hs : a.eval s = .slice sp sLen sCap)
    (g off : Nat) (L ys : List UInt8) (hg : BlkT w t g L) (hy : ys.length = sLen) (hr : Rd w sp ys) (hpos : 0 < min sLen dLen → dp = some ⟨g, off, none⟩)
    (hfit : off + min sLen dLen ≤ L.length)
    (h : ∀ w', Hid (BlkT w' t g (splice L off (ys.take dLen))) → w.grownBy w' (some g) → wpList P ops Q rest (a.put o.dst (goInt (ys.take dLen).length)) w') :
    wpList P ops Q (o :: rest) a w := by
  have hsz : (P.info? 5).map (·.size) = some 1 := by
    obtain ⟨i0, hi, hzz⟩ := Option.map_eq_some_iff.1 hinfo
    simp only [Prod.mk.injEq] at hzz
    rw [hi]
    simp [hzz.2.1]
  have hk : (ys.take dLen).length = min sLen dLen := by rw [List.length_take, hy]; exact Nat.min_comm _ _
  by_cases h0 : ys.take dLen = []
  · have hz : min sLen dLen = 0 := by rw [← hk, h0]; rfl
    refine wpList_copy_nothing hgd d s dT sT ho 5 hu hsz dp sp dLen dCap sLen sCap hd hs hz ?_
    have := h w (show BlkT _ _ _ _ by rw [h0]; simpa [splice] using hg) (grown_refl _ _)
    rw [h0] at this
    exact this
  · have hp : 0 < min sLen dLen := by
      rw [← hk]
      exact List.length_pos_iff.2 h0
    obtain rfl := hpos hp
    have hne : ys ≠ [] := by intro e; subst e; simp at h0
    obtain ⟨b, o', rfl, hc⟩ := hr.at_ hne
    have hlen : (bvs (ys.take dLen)).length = (ys.take dLen).length := bvs_length _
    refine wpList_copy_own hgd d s dT sT ho 5 hu hsz g off dLen dCap ⟨b, o', none⟩ sLen sCap hd hs (bvs L).toArray t hg (bvs (ys.take dLen)) (by rw [hlen, hk]) ?_ (by rw [hlen, hk]; simpa [bvs] using hfit) (bvs_one _) ?_
    · intro j u hu
      rw [bvs_get] at hu
      obtain ⟨x, hx, rfl⟩ := Option.map_eq_some_iff.1 hu
      rw [add_plain]
      refine hc j x ?_
      rw [List.getElem?_take] at hx
      split at hx
      · exact hx
      · cases hx
    · have := h (w.setRow g ((bvs L).toArray.toList.take off ++ (bvs (ys.take dLen) ++ (bvs L).toArray.toList.drop (off + (bvs (ys.take dLen)).length))).toArray) ?_ (grown_setRow _ _ _)
      · rw [hlen] at this ⊢
        exact this
      · show BlkT _ _ _ _
        unfold BlkT
        rw [← splice_bvs]
        have := setRow_heap w g (bvs L).toArray ((bvs L).toArray.toList.take off ++ (bvs (ys.take dLen) ++ (bvs L).toArray.toList.drop (off + (bvs (ys.take dLen)).length))).toArray t (0, 0) hg
        simpa [splice] using this
end
end Go.Proofs.Ytlfplcidgccgdaa.Y
