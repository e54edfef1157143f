/-
  slices.Clone at bytes; octets.Part; LentBytes and KeptBytes.
-/
import Derived.Test.YtlfplcidgccgdaaO3
import Derived.Outline
import Derived.Deep.QuietTactic
import Derived.BigQuiet
set_option linter.unusedVariables false
set_option linter.unusedSimpArgs false
namespace Go.Proofs.Ytlfplcidgccgdaa.Y
open Go.RowKit

theorem rd_lit {w : World} (L : List UInt8) (cs : Array Value) (h : cs = (bvs L).toArray) : Rd (w.alloc (.cells cs 5)) (some ⟨w.heap.size, 0, none⟩) L := by
  subst h
  have := (Blk.new w L).rd 0 L.length
  simpa using this
/-- The same, the block's number spelled otherwise. -/
theorem rd_new {w : World} {g : Nat} {L : List UInt8} {cs : Array Value} (hg : g = w.heap.size) (h : cs = (bvs L).toArray) : Rd (w.alloc (.cells cs 5)) (some ⟨g, 0, none⟩) L := by
  subst hg
  exact rd_lit L cs h
theorem own_lit {w : World} (L : List UInt8) (cs : Array Value) (h : cs = (bvs L).toArray) {B : Nat} (hB : B ≤ w.heap.size) (hm : L.length ≤ maxLen) : Own (w.alloc (.cells cs 5)) B (.slice (some ⟨w.heap.size, 0, none⟩) L.length L.length) L := by
  subst h
  have := (Blk.new w L).own (B := B) (n := L.length) hB (Nat.le_refl _) hm
  simpa using this

set_option maxHeartbeats 400000 in
theorem clone_some {w : World} {a : Addr} {xs : List UInt8} {n : Nat} (HN : Hid (xs.length = n)) (c : Nat) (HA : Hid (Rd w (some a) xs)) (hb : n ≤ 140737488555328) :
    Calls Try.prog 97 #[.slice (some a) n c] w fun e w' => ∃ v, e = .returned v ∧ Own w' w.heap.size v xs ∧ v ≠ .slice none 0 0 ∧ Below w.heap.size w w' := by
  have q22 : ∀ (w : World) (a : Option Addr) (n c n' c' : Nat), (binOp .eql 37 (.slice a n c) (.slice none n' c')).run Try.prog w = .ok (.bool a.isNone) w := fun w a n c n' c' => Lib.run_eql_slice_nil w _ _ a n c n' c' Try.underlying37
  go_enter Try.func97, Try.ntmps97
  go_wp2_with (at_builtin; refine wpList_append_bytes rfl _ _ 37 rfl w.heap.size Try.underlying37 info_u8 (.slice (some ⟨w.heap.size, 0, none⟩) 0 0) [] xs rfl (own_lit [] _ rfl (Nat.le_refl _) (by decide)) (some a) n c rfl HN.out (HA.out.alloc _) (by simp; omega) (by simp) ?_; intro v1 w1 hown hg hnil _)
  go_ret
  exact ⟨v1, rfl, hown, fun e => by simpa using hnil.1 e, ((Below.refl _ _).alloc (Nat.le_refl _) _).grown hg (by simp) (by intro k hk; injection hk with hk; subst hk; exact Nat.le_refl _)⟩
theorem clone_nil {w : World} (n c : Nat) :
    Calls Try.prog 97 #[.slice none n c] w fun e w' => e = .returned (.slice none 0 0) ∧ w = w' := by
  have q22 : ∀ (w : World) (a : Option Addr) (n c n' c' : Nat), (binOp .eql 37 (.slice a n c) (.slice none n' c')).run Try.prog w = .ok (.bool a.isNone) w := fun w a n c n' c' => Lib.run_eql_slice_nil w _ _ a n c n' c' Try.underlying37
  go_enter Try.func97, Try.ntmps97
  go_wp2
  go_ret
  exact ⟨rfl, rfl⟩
/-- slices.Clone at bytes, of whatever slice: nil stays nil. -/
theorem clone_any {w : World} {A : Option Addr} {xs : List UInt8} {n : Nat} (hn : xs.length = n) (c : Nat) (hA : Rd w A xs) (hb : n ≤ 140737488555328) :
    Calls Try.prog 97 #[.slice A n c] w fun e w' => ∃ v, e = .returned v ∧ Own w' w.heap.size v xs ∧ (v = .slice none 0 0 ↔ A = none) ∧ Below w.heap.size w w' := by
  cases A with
  | none =>
    obtain rfl : xs = [] := hA.resolve_right (by rintro ⟨_, _, h, _⟩; cases h)
    refine (clone_nil n c).mono ?_
    rintro e w' ⟨rfl, rfl⟩
    exact ⟨_, rfl, Own.nil _ _, by simp, Below.refl _ _⟩
  | some a =>
    refine (clone_some hn c hA hb).mono ?_
    rintro e w' ⟨v, rfl, h1, h2, h3⟩
    exact ⟨v, rfl, h1, by simp [h2], h3⟩

/-- Is the part there? -/
def partOk (xs : List UInt8) (at_ : Int) : Bool := numOk xs at_ 2 && decide (at_ + 2 + numV xs at_ 2 ≤ xs.length)
def partV (xs : List UInt8) (at_ : Int) : List UInt8 := (xs.drop (at_.toNat + 2)).take (numV xs at_ 2)
theorem mid_len (xs : List UInt8) (a n : Nat) (h : a + n ≤ xs.length) : ((xs.drop a).take n).length = n := by simp; omega
/-- LentBytes: a copy with three marks behind its end. -/
def Lent (w : World) (B : Nat) (v : Value) (xs : List UInt8) : Prop := ∃ g c, v = .slice (some ⟨g, 0, none⟩) xs.length c ∧ Own w B (.slice (some ⟨g, 0, none⟩) (xs.length + 3) c) (xs ++ [77, 78, 79])
theorem Lent.below {w w1 : World} {B : Nat} {v : Value} {xs : List UInt8} (h : Lent w B v xs) (hb : Below w.heap.size w w1) : Lent w1 B v xs := by
  obtain ⟨g, c, e, ho⟩ := h
  exact ⟨g, c, e, ho.below hb⟩
theorem Lent.alloc {w : World} {B : Nat} {v : Value} {xs : List UInt8} (h : Lent w B v xs) (o : Obj) : Lent (w.alloc o) B v xs := h.below ((Below.refl _ _).alloc (Nat.le_refl _) o)
theorem Lent.drewN {w : World} {B : Nat} {v : Value} {xs : List UInt8} (h : Lent w B v xs) (n : Nat) : Lent (w.drewN n) B v xs := h
theorem Lent.slice {w : World} {B : Nat} {v : Value} {xs : List UInt8} (h : Lent w B v xs) : ∃ A c, v = .slice A xs.length c ∧ xs.length ≤ c ∧ c ≤ maxLen ∧ Rd w A xs := by
  obtain ⟨g, c, e, ho⟩ := h
  obtain ⟨h1, _, h3, h4⟩ := ho.rd
  refine ⟨_, c, e, by omega, h4, ?_⟩
  have := h1.take xs.length
  simpa using this
theorem own_lent {w : World} {B : Nat} {v : Value} {xs : List UInt8} (h : Own w B v (xs ++ [77, 78, 79])) {n : Nat} (hn : xs.length = n) : ∃ g c, v = .slice (some ⟨g, 0, none⟩) (n + 3) c ∧ (n : Int) ≤ c ∧ Hid (Lent w B (.slice (some ⟨g, 0, none⟩) n c) xs) := by
  subst hn
  have hz : (xs ++ [77, 78, 79]).length = xs.length + 3 := by simp
  rcases h.2 with ⟨_, h0⟩ | ⟨g, c, cur, rfl, _⟩
  · rw [hz] at h0
    omega
  · rw [hz] at h
    have := h.rd
    exact ⟨g, c, by rw [hz], by omega, g, c, rfl, h⟩
set_option maxHeartbeats 400000 in
theorem lent_any {w : World} {A : Option Addr} {xs : List UInt8} {n : Nat} (hn : xs.length = n) (c : Nat) (ha : Rd w A xs) (hb : n ≤ 140737488555328) :
    Calls Try.prog 27 #[.slice A n c] w fun e w' => ∃ v, e = .returned v ∧ Lent w' w.heap.size v xs ∧ Below w.heap.size w w' := by
  have K := Lib.hid (copyBytes_any hn c ha hb)
  have HN := Lib.hid hn
  clear hn ha
  go_enter Try.func27, Try.ntmps27
  go_wp2_with (first | (go_at_call 42; refine K.out.mono ?_; rintro e w1 ⟨v, rfl, h1, h2⟩; have H1 := Lib.hid h1; have H2 := Lib.hid h2; clear h1 h2) | (at_builtin; refine wpList_append_bytes rfl (.tmp 5) (.tmp 6) 37 rfl w.heap.size Try.underlying37 info_u8 v xs [77, 78, 79] rfl (H1.out.alloc _) (some ⟨w1.heap.size, 0, none⟩) 3 3 rfl rfl (rd_lit _ _ rfl) (by have := HN.out; omega) (by have := H2.out.size; simp; omega) ?_; intro v2 w2 hown2 hg2 _ _; obtain ⟨g, c2, rfl, hc2, HL⟩ := own_lent hown2 HN.out; have HG2 := Lib.hid hg2; clear hown2 hg2))
  go_ret
  exact ⟨_, rfl, HL.out, (balloc H2.out _).grown HG2.out (by have := H2.out.size; simp; omega) (Own.base H1.out)⟩

set_option maxHeartbeats 800000 in
theorem kept_any {w : World} {v : Value} {B : Nat} {xs : List UInt8} {A : Option Addr} {n : Nat} (hn : xs.length = n) (c : Nat) (hb : n ≤ 140737488555328) (hv : Lent w B v xs) (ha : Rd w A xs) :
    Calls Try.prog 34 #[v, .slice A n c] w fun e w' => e = .returned (.bool true) ∧ w = w' := by
  obtain ⟨g, d, rfl, ho⟩ := hv
  obtain ⟨hr, hl, hd, hm⟩ := ho.rd
  subst hn
  have hr' := hr.take xs.length
  have e : (xs ++ [77, 78, 79]).take xs.length = xs := by simp
  rw [e] at hr'
  have K := Lib.hid (sameBytes_any rfl rfl d c hr' ha)
  have E := eqB_self xs
  obtain ⟨b, o, eq, hcell⟩ := hr.at_ (by simp)
  injection eq with eq
  injection eq with eq1 eq2
  subst eq1; subst eq2
  have c0 := hcell xs.length 77 (by simp)
  have c1 := hcell (xs.length + 1) 78 (by simp)
  have c2 := hcell (xs.length + 2) 79 (by simp)
  have h6 : (xs.length : Int) + 3 ≤ d := by omega
  clear hcell hr' e ho hr hl ha
  simp only [Nat.zero_add, bv] at c0 c1 c2
  go_enter Try.func34, Try.ntmps34
  go_wp2_with (go_at_call 41; refine K.out.mono ?_; rintro e w' ⟨rfl, rfl⟩)
  go_ret
  exact ⟨rfl, rfl⟩
end Go.Proofs.Ytlfplcidgccgdaa.Y
