/-
  From a row's reading of an api.Crash to the words of the walks.
-/
import Derived.Test.YtobnomlbkhkodaaYI
import Derived.Test.YtobnomlbkhkodaaD6
import Derived.Deep.Slices
set_option linter.unusedVariables false
set_option linter.unusedSimpArgs false
namespace Go.Proofs.Ytobnomlbkhkodaa.Y
open Go.ChangeShapes Go.WideShapes Go.RowKit

section
variable {H : Type} {enc : TypeId × Value → H} {P : Program} {W : World} {base : Nat} {spare : Nat → Bool} {held : Bool} {t e : TypeId} {a : Option Addr} {len cap : Nat} {d : DataW H} {ps : List MemPlace}
theorem row_bools {fuel : Nat} {c : Value} (hu : P.underlying t = some (.slice e)) (he : P.underlying e = some .bool) (hc : P.cellsOf e = 1)
    (h : DataW.trod enc P W base spare held fuel t [c] = some (d, ps)) : ∃ A kl kc, ∃ l : List Bool, c = .slice A kl kc ∧ l.length = kl ∧ kl ≤ kc ∧ kc ≤ maxLen ∧ RdT W A l := by
  rcases Go.Deep.open_slice hu h with ⟨hcs, _⟩ | ⟨x, l, cp, m, n, D, Pl, hcs, hbs, hl, hm, hmm, hx, hat⟩
  · obtain rfl : c = .slice none 0 0 := by simpa using hcs
    exact ⟨none, 0, 0, [], rfl, rfl, Nat.le_refl _, Nat.zero_le _, .inl rfl⟩
  · obtain rfl : c = .slice (some x) l cp := by simpa using hcs
    have hlm : l ≤ m := by rw [hmm]; split; exact hl; exact Nat.le_refl _
    have key : ∀ i, i < l → ∃ b : Bool, W.cell? (x.add i) = some (.bool b) := by
      intro i hi
      obtain ⟨cs', hcs', ht⟩ := hat i (by omega)
      obtain ⟨b, hb, _⟩ := DataW.trod_bool he ht
      obtain ⟨_, hcl, hcell⟩ := World.cells?_some hcs'
      rw [hc] at hcell hcl
      refine ⟨b, ?_⟩
      have := hcell 0 (by omega)
      rw [Go.Deep.add_add, Nat.add_zero, Nat.mul_one] at this
      rw [this, hb]
      rfl
    refine ⟨_, _, _, (List.range l).map (fun i => if hi : i < l then (key i hi).choose else false), rfl, by simp, hl, hm, ?_⟩
    rcases Nat.eq_zero_or_pos l with h0 | h0
    · subst h0; exact .inl (by simp)
    · obtain ⟨bk, o, s⟩ := x
      have hs : s = none := by
        obtain ⟨b, hb⟩ := key 0 h0
        simpa [Addr.add] using World.cell?_spot hb
      subst hs
      refine .inr ⟨bk, o, rfl, fun j u hu => ?_⟩
      rw [List.getElem?_map] at hu
      obtain ⟨i, hi, rfl⟩ := Option.map_eq_some_iff.1 hu
      obtain ⟨hi1, hi2⟩ := List.getElem?_eq_some_iff.1 hi
      simp at hi1 hi2
      subst hi2
      rw [dif_pos hi1]
      have := (key j hi1).choose_spec
      obtain ⟨bb, hbb⟩ : ∃ bb, bb = (key j hi1).choose := ⟨_, rfl⟩
      rw [← hbb] at this ⊢
      rw [add_plain] at this
      exact this
theorem row_crash {r : Reach} {b0 : Nat} {v : Value} {fs : Array Field} {f0 f1 f2 : Field} {tb : TypeId} (he : P.underlying t = some (.struct fs)) (hf0 : fs[0]? = some f0) (hf1 : fs[1]? = some f1) (hf2 : fs[2]? = some f2) (o0 : f0.offset = 0) (o1 : f1.offset = 1) (o2 : f2.offset = 2)
    (hb : P.underlying f0.type = some (.slice tb)) (c0 : P.cellsOf f0.type = 1) (htb : P.underlying tb = some .bool) (ctb : P.cellsOf tb = 1) (hi1 : P.underlying f1.type = some (.int .i64)) (c1 : P.cellsOf f1.type = 1) (hi2 : P.underlying f2.type = some (.int .i64)) (c2 : P.cellsOf f2.type = 1) (hce : P.cellsOf t = 3) (hsz : fs.size = 3)
    (hval : Value.okWide P W r b0 t v) (h : DataW.Trod enc P W base spare held t v d ps) :
    ∃ A kc, ∃ (l : List Bool) (torn cut : Int), v = .agg #[.slice A l.length kc, .int .i64 torn, .int .i64 cut] ∧ l.length ≤ kc ∧ kc ≤ maxLen ∧ RdT W A l ∧ (Lit.int .i64 torn).wf = true ∧ (Lit.int .i64 cut).wf = true := by
  obtain ⟨fuel, hf⟩ := h
  unfold Value.okWide at hval
  simp only [he] at hval
  obtain ⟨cs, rfl, hcs, _⟩ := hval
  obtain ⟨ys, n', _, hy, hlen, hyl, hfs⟩ := DataW.trod_struct he hf
  have g0 := hfs 0 f0 hf0
  have g1 := hfs 1 f1 hf1
  have g2 := hfs 2 f2 hf2
  rw [o0, c0] at g0
  rw [o1, c1] at g1
  rw [o2, c2] at g2
  rw [hce] at hcs
  obtain ⟨cl⟩ := cs
  match cl, hcs with
  | [k0, k1, k2], _ =>
    simp only [Value.cells, List.drop_zero, List.take_succ_cons, List.take_zero, List.drop_succ_cons] at g0 g1 g2
    have hys0 : ys[0]? = some (ys[0]'(by omega)) := List.getElem?_eq_getElem (by omega)
    have hys1 : ys[1]? = some (ys[1]'(by omega)) := List.getElem?_eq_getElem (by omega)
    have hys2 : ys[2]? = some (ys[2]'(by omega)) := List.getElem?_eq_getElem (by omega)
    rw [hys0] at g0
    rw [hys1] at g1
    rw [hys2] at g2
    obtain ⟨z1, hz1, _, w1⟩ := DataW.trod_int hi1 g1
    obtain ⟨z2, hz2, _, w2⟩ := DataW.trod_int hi2 g2
    obtain rfl : k1 = .int .i64 z1 := by simpa using hz1
    obtain rfl : k2 = .int .i64 z2 := by simpa using hz2
    obtain ⟨A, kl, kc, l, rfl, hl, h1, h2, h3⟩ := row_bools (d := (ys[0]'(by omega)).1) (ps := (ys[0]'(by omega)).2) hb htb ctb g0
    subst hl
    exact ⟨A, kc, l, z1, z2, rfl, h1, h2, h3, w1, w2⟩
end
end Go.Proofs.Ytobnomlbkhkodaa.Y
