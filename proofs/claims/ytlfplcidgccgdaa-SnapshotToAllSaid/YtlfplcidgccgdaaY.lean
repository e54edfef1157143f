/-
  Words of this seat on byte slices: what a slice reads as, and what a call keeps. Plain definitions and theorems, over any program.
-/
import Derived.WalkKit
import Derived.KernelRfl
import Derived.WalkSpells
import Derived.WalkLawsBesides
import Derived.Lib.Hide
import Derived.Lib.Bytealg
import Derived.Laws.BytesArg
set_option linter.unusedVariables false
set_option linter.unusedSimpArgs false
namespace Go.Proofs.Ytlfplcidgccgdaa.Y
open Go.RowKit

/-- A byte's cell; the cells of bytes. -/
def bv (x : UInt8) : Value := .int .u8 (x.toNat : Int)
def bvs (xs : List UInt8) : List Value := xs.map bv
theorem bvs_length (xs : List UInt8) : (bvs xs).length = xs.length := by simp [bvs]
theorem bvs_append (xs ys : List UInt8) : bvs (xs ++ ys) = bvs xs ++ bvs ys := by simp [bvs]
theorem bvs_get (xs : List UInt8) (j : Nat) : (bvs xs)[j]? = (xs[j]?).map bv := by simp [bvs]
theorem bvs_one (xs : List UInt8) : ∀ u ∈ bvs xs, u.oneCell' = true := by
  intro u hu
  obtain ⟨x, _, rfl⟩ := List.mem_map.1 hu
  rfl
theorem add_plain (g j i : Nat) : (⟨g, j, none⟩ : Addr).add i = ⟨g, j + i, none⟩ := by unfold Addr.add; split <;> simp_all

/-- At this address (whatever it is where there is nothing) these bytes stand. -/
def Rd (w : World) (A : Option Addr) (xs : List UInt8) : Prop :=
  xs = [] ∨ ∃ b o, A = some ⟨b, o, none⟩ ∧ ∀ j u, xs[j]? = some u → w.cell? ⟨b, o + j, none⟩ = some (bv u)
theorem Rd.nil (w : World) (A : Option Addr) : Rd w A [] := .inl rfl
theorem Rd.at_ {w : World} {A : Option Addr} {xs : List UInt8} (h : Rd w A xs) (hn : xs ≠ []) : ∃ b o, A = some ⟨b, o, none⟩ ∧ ∀ j u, xs[j]? = some u → w.cell? ⟨b, o + j, none⟩ = some (bv u) :=
  h.resolve_left hn
theorem Rd.below {w w1 : World} {A : Option Addr} {xs : List UInt8} (h : Rd w A xs) (hb : Below w.heap.size w w1) : Rd w1 A xs := by
  rcases h with h | ⟨b, o, e, hc⟩
  · exact .inl h
  · exact .inr ⟨b, o, e, fun j u hu => (hb.cell (World.block_lt_of_cell? w _ (hc j u hu))).trans (hc j u hu)⟩
theorem Rd.alloc {w : World} {A : Option Addr} {xs : List UInt8} (h : Rd w A xs) (o : Obj) : Rd (w.alloc o) A xs :=
  h.below ((Below.refl _ _).alloc (Nat.le_refl _) o)
theorem Rd.drew {w : World} {A : Option Addr} {xs : List UInt8} (h : Rd w A xs) : Rd w.drew A xs := h
theorem Rd.drewN {w : World} {A : Option Addr} {xs : List UInt8} (h : Rd w A xs) (n : Nat) : Rd (w.drewN n) A xs := h
theorem Rd.take {w : World} {A : Option Addr} {xs : List UInt8} (h : Rd w A xs) (n : Nat) : Rd w A (xs.take n) := by
  rcases h with h | ⟨b, o, e, hc⟩
  · subst h; exact .inl (by simp)
  · refine .inr ⟨b, o, e, fun j u hu => hc j u ?_⟩
    rw [List.getElem?_take] at hu
    split at hu
    · exact hu
    · cases hu
/-- 's[k:]': the address moves, where something is left of the capacity. -/
theorem Rd.drop {w : World} {A : Option Addr} {xs : List UInt8} (h : Rd w A xs) (k : Nat) : Rd w (A.map (·.add k)) (xs.drop k) := by
  rcases h with h | ⟨b, o, e, hc⟩
  · subst h; exact .inl (by simp)
  · subst e
    refine .inr ⟨b, o + k, by simp [add_plain], fun j u hu => ?_⟩
    rw [List.getElem?_drop] at hu
    have := hc (k + j) u hu
    rwa [← Nat.add_assoc] at this
theorem Rd.drop_if {w : World} {A : Option Addr} {xs : List UInt8} (h : Rd w A xs) (k c : Nat) (hc : xs.length ≤ c) : Rd w (if c = k then A else A.map (·.add k)) (xs.drop k) := by
  split
  · rename_i e
    rw [List.drop_eq_nil_of_le (by omega)]
    exact .inl rfl
  · exact h.drop k
/-- The address behind 's[k:]', the capacity c (a name that the walk does not open). -/
def cutA (A : Option Addr) (c k : Nat) : Option Addr := if c = k then A else A.map (·.add k)
theorem Rd.cut {w : World} {A : Option Addr} {xs : List UInt8} (h : Rd w A xs) (k c : Nat) (hc : xs.length ≤ c) : Rd w (cutA A c k) (xs.drop k) := h.drop_if k c hc
theorem Rd.mid {w : World} {A : Option Addr} {xs : List UInt8} (h : Rd w A xs) (k n c : Nat) (hc : xs.length ≤ c) : Rd w (cutA A c k) ((xs.drop k).take n) := (h.cut k c hc).take n
theorem Rd.cell {w : World} {A : Option Addr} {xs : List UInt8} (h : Rd w A xs) {j : Nat} (hj : j < xs.length) : ∃ b o, A = some ⟨b, o, none⟩ ∧ w.cell? ⟨b, o + j, none⟩ = some (.int .u8 ((xs[j]'hj).toNat : Int)) := by
  obtain ⟨b, o, e, hc⟩ := h.at_ (by intro e; subst e; simp at hj)
  exact ⟨b, o, e, hc j _ (List.getElem?_eq_getElem hj)⟩

section
variable {P : Program}
/-- 'string(b)'. -/
theorem Rd.convert {w : World} {A : Option Addr} {xs : List UInt8} (h : Rd w A xs) {n : Nat} (hn : xs.length = n) (c : Nat) {src e dst : TypeId}
    (hs : P.underlying src = some (.slice e)) (he : P.underlying e = some (.int .u8)) (hd : P.underlying dst = some .string) :
    (Go.convert src dst (.slice A n c)).run P w = .ok (.string ⟨xs.toArray⟩) w := by
  rcases h with h | ⟨b, o, rfl, hc⟩
  · subst h
    obtain rfl : n = 0 := by simpa using hn.symm
    cases A with
    | none => exact run_convert_bytes_nil w src e hs he 0 c dst hd
    | some a =>
      have := run_convert_bytes_string (P := P) w src dst e (some a) 0 c hs he hd
      rw [this]
      have hl : (loadCells a 0).run P w = .ok #[] w := by simp [loadCells, loadCellsFrom]
      rw [run_bytesToString w a 0 c [] hl]
      rfl
  · have := run_convert_bytes_arg (P := P) w src e hs he b o n c (xs.map fun x => (x.toNat : Int)) (by simpa using hn) (fun i hi => by
      have hx : i < xs.length := by omega
      have hi := hc i xs[i] (List.getElem?_eq_getElem hx)
      rw [hi]
      simp [bv, List.getD, List.getElem?_eq_getElem hx]) dst hd
    rw [this]
    have e : strOfNums (xs.map fun x => (x.toNat : Int)) = ⟨xs.toArray⟩ := by
      unfold strOfNums
      congr 2
      rw [List.map_map]
      conv => rhs; rw [← List.map_id xs]
      apply List.map_congr_left
      intro x _
      simp
    rw [e]
theorem Rd.loadBytes {w : World} {b : Nat} : ∀ (xs : List UInt8) (o : Nat) (acc : List UInt8), (∀ j u, xs[j]? = some u → w.cell? ⟨b, o + j, none⟩ = some (bv u)) →
    (Extern.Bytes.loadBytes ⟨b, o, none⟩ xs.length ⟨acc.toArray⟩).run P w = .ok ⟨(acc ++ xs).toArray⟩ w := by
  intro xs
  induction xs with
  | nil => intro o acc _; simp [Extern.Bytes.loadBytes]
  | cons x xs ih =>
    intro o acc h
    have h0 := h 0 x rfl
    have hl : (load ⟨b, o, none⟩).run P w = .ok (bv x) w := by
      have h0' : w.cell? ⟨b, o, none⟩ = some (bv x) := by simpa using h0
      simp [load, Sem.run, h0']
    have e : ByteArray.push ⟨acc.toArray⟩ x = ⟨(acc ++ [x]).toArray⟩ := by simp [ByteArray.push]
    have ih' := ih (o + 1) (acc ++ [x]) (fun j u hu => by
      have := h (j + 1) u (by simpa using hu)
      rwa [show o + (j + 1) = o + 1 + j from by omega] at this)
    simp only [List.length_cons, Extern.Bytes.loadBytes, Sem.run_bind, hl, Result.andThen, bv]
    rw [add_plain]
    simp only [Int.toNat_natCast, Nat.toUInt8_eq, UInt8.ofNat_toNat, e]
    rw [ih']
    simp
theorem Rd.bytesOf {w : World} {A : Option Addr} {xs : List UInt8} (h : Rd w A xs) {n : Nat} (hn : xs.length = n) (c : Nat) :
    (Extern.Bytes.bytesOf (.slice A n c)).run P w = .ok ⟨xs.toArray⟩ w := by
  subst hn
  rcases h with h | ⟨b, o, rfl, hc⟩
  · subst h
    cases A <;> rfl
  · have := Rd.loadBytes (P := P) xs o [] hc
    exact this
/-- internal/bytealg.Compare's entry. -/
theorem run_compare {w : World} {A B : Option Addr} {xs ys : List UInt8} (ha : Rd w A xs) (hb : Rd w B ys) {n m : Nat} (hn : xs.length = n) (hm : ys.length = m) (c d : Nat) :
    (Extern.BytealgCompare.compare #[.slice A n c, .slice B m d]).run P w = .ok (.int .i64 (Lib.compareBytes xs ys)) w := by
  change Sem.run P (do pure (goInt (Extern.BytealgCompare.cmp (← Extern.Bytes.bytesOf (.slice A n c)) (← Extern.Bytes.bytesOf (.slice B m d))))) w = _
  simp only [Sem.run_bind, Sem.run_pure, Result.andThen, ha.bytesOf hn c, hb.bytesOf hm d]
  rw [Lib.cmp_eq]
  rfl
end

/-- A row of the call's own, from block B on, that holds these bytes. -/
def Own (w : World) (B : Nat) (v : Value) (xs : List UInt8) : Prop := w.ownsRow B 5 1 v xs.length (bvs xs)
theorem Own.nil (w : World) (B : Nat) : Own w B (.slice none 0 0) [] := World.ownsRow_nil _ _ _ _
theorem Own.slice {w : World} {B : Nat} {v : Value} {xs : List UInt8} (h : Own w B v xs) : ∃ A c, v = .slice A xs.length c ∧ xs.length ≤ c ∧ c ≤ maxLen ∧ Rd w A xs := by
  rcases h.2 with ⟨rfl, h0⟩ | ⟨g, cap, cur, rfl, _, _, h1, h2, _⟩
  · obtain rfl : xs = [] := List.eq_nil_of_length_eq_zero h0
    exact ⟨none, 0, rfl, Nat.le_refl _, Nat.zero_le _, .inl rfl⟩
  · refine ⟨_, cap, rfl, h1, h2, .inr ⟨g, 0, rfl, fun j u hu => ?_⟩⟩
    have := World.ownsRow.cells h (g := g) rfl j (bv u) (by rw [bvs_get, hu]; rfl)
    rwa [add_plain] at this
theorem Own.below {w w1 : World} {B : Nat} {v : Value} {xs : List UInt8} (h : Own w B v xs) (hb : Below w.heap.size w w1) : Own w1 B v xs :=
  World.ownsRow.kept h ⟨hb.os, hb.tape, hb.output, hb.size, fun i hi _ => hb.block i hi⟩ (row := none) (by cases v.ownBlock <;> simp)
theorem Own.alloc {w : World} {B : Nat} {v : Value} {xs : List UInt8} (h : Own w B v xs) (o : Obj) : Own (w.alloc o) B v xs := World.ownsRow.alloc h o
theorem Own.drew {w : World} {B : Nat} {v : Value} {xs : List UInt8} (h : Own w B v xs) : Own w.drew B v xs := h
theorem Own.drewN {w : World} {B : Nat} {v : Value} {xs : List UInt8} (h : Own w B v xs) (n : Nat) : Own (w.drewN n) B v xs := h
theorem Own.mono {w : World} {B B' : Nat} {v : Value} {xs : List UInt8} (h : Own w B v xs) (hB : B' ≤ B) : Own w B' v xs := by
  obtain ⟨h1, h2⟩ := h
  refine ⟨h1, ?_⟩
  rcases h2 with h2 | ⟨g, cap, cur, hv, hg, r⟩
  · exact .inl h2
  · exact .inr ⟨g, cap, cur, hv, Nat.le_trans hB hg, r⟩
theorem Own.rd {w : World} {B : Nat} {A : Option Addr} {n c : Nat} {xs : List UInt8} (h : Own w B (.slice A n c) xs) : Rd w A xs ∧ xs.length = n ∧ n ≤ c ∧ c ≤ maxLen := by
  obtain ⟨A', c', e, h1, h2, h3⟩ := Own.slice h
  injection e with e1 e2 e3
  subst e1; subst e2; subst e3
  exact ⟨h3, rfl, h1, h2⟩
theorem Own.base {w : World} {B : Nat} {v : Value} {xs : List UInt8} (h : Own w B v xs) : ∀ k, v.ownBlock = some k → B ≤ k := fun k hk => (World.ownsRow.lt h k hk).1

/-- Below, said of the world of the moment. -/
theorem bthen {w w1 w2 : World} (h : Below w.heap.size w w1) (k : Below w1.heap.size w1 w2) : Below w.heap.size w w2 :=
  h.trans (k.mono h.size)
theorem balloc {w w1 : World} (h : Below w.heap.size w w1) (o : Obj) : Below w.heap.size w (w1.alloc o) := h.alloc h.size o
theorem bdrew {w w1 : World} (h : Below w.heap.size w w1) : Below w.heap.size w w1.drew := h.drew
theorem bdrewN {B : Nat} {w w1 : World} (h : Below B w w1) (n : Nat) : Below B w (w1.drewN n) := ⟨h.os, h.tape, h.output, h.size, h.block⟩

/-- Whether two lists of bytes are the same (a name that the walk does not open). -/
def eqB (xs ys : List UInt8) : Bool := xs == ys
theorem eqB_iff {xs ys : List UInt8} : eqB xs ys = true ↔ xs = ys := by simp [eqB]
theorem eqB_self (xs : List UInt8) : eqB xs xs = true := by simp [eqB]
theorem eqB_not {xs ys : List UInt8} : eqB xs ys = false ↔ xs ≠ ys := by simp [eqB]
/-- The order of bytes (a name that the walk does not open). -/
def cmpB (xs ys : List UInt8) : Int := Lib.compareBytes xs ys
end Go.Proofs.Ytlfplcidgccgdaa.Y
