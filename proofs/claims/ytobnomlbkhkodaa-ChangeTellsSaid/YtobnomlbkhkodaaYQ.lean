/-
  From a row's reading of a []api.Piece to the words of the walks.
-/
import Derived.Test.YtobnomlbkhkodaaYI
import Derived.Test.YtobnomlbkhkodaaC7
import Derived.Deep.Slices
set_option linter.unusedVariables false
set_option linter.unusedSimpArgs false
namespace Go.Proofs.Ytobnomlbkhkodaa.Y
open Go.ChangeShapes Go.WideShapes Go.RowKit

section
variable {H : Type} {enc : TypeId × Value → H} {P : Program} {W : World} {base : Nat} {spare : Nat → Bool} {held : Bool} {t e : TypeId} {a : Option Addr} {len cap : Nat} {d : DataW H} {ps : List MemPlace}
theorem weights_all_mem {ds : List (DataW H)} {x : DataW H} (h : x ∈ ds) : ∀ n ∈ x.weights P e, n ∈ DataW.weightsAll P e ds := by
  induction ds with
  | nil => cases h
  | cons y ds ih =>
    intro n hn
    simp only [DataW.weightsAll, List.mem_append]
    rcases List.mem_cons.1 h with rfl | h
    · exact .inl hn
    · exact .inr (ih h n hn)
theorem row_pieces {fs : Array Field} {f0 f1 : Field} {b : TypeId} (hu : P.underlying t = some (.slice e)) (he : P.underlying e = some (.struct fs)) (hf0 : fs[0]? = some f0) (hf1 : fs[1]? = some f1) (o0 : f0.offset = 0) (o1 : f1.offset = 1)
    (hi : P.underlying f0.type = some (.int .i64)) (ci : P.cellsOf f0.type = 1) (hb : P.underlying f1.type = some (.slice b)) (cb : P.cellsOf f1.type = 1) (hb8 : P.underlying b = some (.int .u8)) (hbc : P.cellsOf b = 1) (hbb : P.bytesOf b = 1) (hce : P.cellsOf e = 2) (hbe : P.bytesOf e = 32) (hsz : fs.size = 2)
    (hw : ∀ n ∈ d.weights P t, n ≤ reachBytes) (h : DataW.Trod enc P W base spare held t (.slice a len cap) d ps) : ∃ l : List (Int × List UInt8), l.length = len ∧ len ≤ cap ∧ cap ≤ maxLen ∧ RdP W a l ∧ len ≤ 4398046510976 := by
  obtain ⟨fuel, hf⟩ := h
  rcases Go.Deep.open_slice hu hf with ⟨hcs, _⟩ | ⟨x, l, c, m, n, D, Pl, hcs, hbs, hl, hm, hmm, hx, hat⟩
  · simp [Value.cells] at hcs
    obtain ⟨rfl, rfl, rfl⟩ := hcs
    exact ⟨[], rfl, Nat.le_refl _, Nat.zero_le _, .inl rfl, Nat.zero_le _⟩
  · simp [Value.cells] at hcs
    obtain ⟨rfl, rfl, rfl⟩ := hcs
    obtain ⟨hx, _⟩ := Prod.mk.inj hx
    subst hx
    have hlm : len ≤ m := by rw [hmm]; split; exact hl; exact Nat.le_refl _
    have key : ∀ i, i < len → ∃ p : Int × List UInt8, W.cell? (x.add (i * 2)) = some (.int .i64 p.1) ∧ ∃ C c, W.cell? (x.add (i * 2 + 1)) = some (.slice C p.2.length c) ∧ p.2.length ≤ c ∧ Pok p ∧ Rd W C p.2 := by
      intro i hi'
      obtain ⟨cs', hc, ht⟩ := hat i (by omega)
      rw [hce] at hc
      obtain ⟨ys, n', _, hy, hlen, hyl, hfs⟩ := DataW.trod_struct he ht
      obtain ⟨_, hcl, hcell⟩ := World.cells?_some hc
      have g0 := hfs 0 f0 hf0
      have g1 := hfs 1 f1 hf1
      rw [o0, ci] at g0
      rw [o1, cb] at g1
      match cs', hcl with
      | [c0, c1], _ =>
        simp only [List.drop_zero, List.take_succ_cons, List.take_zero, List.drop_succ_cons] at g0 g1
        have hys0 : ys[0]? = some (ys[0]'(by omega)) := List.getElem?_eq_getElem (by omega)
        have hys1 : ys[1]? = some (ys[1]'(by omega)) := List.getElem?_eq_getElem (by omega)
        rw [hys0] at g0
        rw [hys1] at g1
        obtain ⟨z, hz, hz2, hwf⟩ := DataW.trod_int hi g0
        obtain rfl : c0 = .int .i64 z := by simpa using hz
        have hc1 : ∃ C lc cc, c1 = .slice C lc cc := by
          rcases open_ints hb hb8 hbc g1 with ⟨h1, _⟩ | ⟨x1, l1, cc, zs, h1, _⟩
          · exact ⟨_, _, _, by simpa using h1⟩
          · exact ⟨_, _, _, by simpa using h1⟩
        obtain ⟨C, lc, cc, rfl⟩ := hc1
        obtain ⟨L, hL, hLc, hLm, hR, _⟩ := row_bytes hb hb8 hbc ⟨n', g1⟩
        have hsz2 : (DataW.weightsEach P (fs.toList.map (·.type)) (ys.map (·.1))).all (· ≤ reachBytes) = true := by
          rw [List.all_eq_true]
          intro q hq
          refine decide_eq_true (hw q ?_)
          have hD : D i = .agg (ys.map (·.1)) := (Prod.mk.inj hy).1
          have h2 : q ∈ (D i).weights P e := by
            rw [hD]
            unfold DataW.weights
            rw [he]
            exact hq
          have h3 : q ∈ DataW.weightsAll P e ((List.range len).map D) := weights_all_mem (List.mem_map.2 ⟨i, List.mem_range.2 hi', rfl⟩) q h2
          unfold DataW.weights
          rw [hu]
          simp only [List.mem_cons, List.mem_append]
          exact .inr (.inl h3)
        have hlc := row_sized (j := 1) (t := f1.type) (e := b) (d := (ys[1]'(by omega)).1) hsz2 (by
          rw [List.getElem?_map, ← Array.getElem?_toList] at *
          simp [hf1]) (by rw [List.getElem?_map, hys1]; rfl) hb hb8 hbc hbb ⟨n', g1⟩
        have hw64 := int_wf64 hwf
        refine ⟨(z, L), ?_, C, cc, ?_, by rw [hL]; exact hLc, ⟨by rw [hL]; exact hlc, hw64.1, hw64.2⟩, hR⟩
        · have := hcell 0 (by omega)
          rw [Go.Deep.add_add, Nat.add_zero] at this
          simpa using this
        · have := hcell 1 (by omega)
          rw [← Go.Deep.add_add]
          simpa [hL] using this
    have hx32 : len ≤ 4398046510976 := by
      have := hw ((((List.range len).map D).length + ((List.range (m - len)).map fun j => D (len + j)).length) * P.bytesOf e) (by
        unfold DataW.weights
        rw [hu]
        exact List.mem_cons_self ..)
      rw [hbe] at this
      simp only [List.length_map, List.length_range, reachBytes] at this
      omega
    rcases Nat.eq_zero_or_pos len with h0 | h0
    · subst h0; exact ⟨[], rfl, hl, hm, .inl rfl, hx32⟩
    · let f : Nat → Int × List UInt8 := fun i => if hi : i < len then (key i hi).choose else (0, [])
      have fs' : ∀ i, i < len → W.cell? (x.add (i * 2)) = some (.int .i64 (f i).1) ∧ ∃ C c, W.cell? (x.add (i * 2 + 1)) = some (.slice C (f i).2.length c) ∧ (f i).2.length ≤ c ∧ Pok (f i) ∧ Rd W C (f i).2 := by
        intro i hi
        have := (key i hi).choose_spec
        simp only [f, dif_pos hi]
        exact this
      obtain ⟨bk, o, s⟩ := x
      have hs : s = none := by
        have := (fs' 0 h0).1
        simpa [Addr.add] using World.cell?_spot this
      subst hs
      refine ⟨(List.range len).map f, by simp, hl, hm, .inr ⟨bk, o, rfl, fun i p hp => ?_⟩, hx32⟩
      rw [List.getElem?_map] at hp
      obtain ⟨j, hj, rfl⟩ := Option.map_eq_some_iff.1 hp
      obtain ⟨hj1, hj2⟩ := List.getElem?_eq_some_iff.1 hj
      simp at hj1 hj2
      subst hj2
      have := fs' i hj1
      rw [add_plain, add_plain] at this
      exact this
end
end Go.Proofs.Ytobnomlbkhkodaa.Y
