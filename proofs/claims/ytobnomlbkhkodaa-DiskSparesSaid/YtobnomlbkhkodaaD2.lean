/-
  What a disk is; the small functions of package disk.
-/
import Derived.Test.YtobnomlbkhkodaaD1
set_option linter.unusedVariables false
set_option linter.unusedSimpArgs false
namespace Go.Proofs.Ytobnomlbkhkodaa.Y
open Go.RowKit

def spentV (n : Int) : Int := if n = 0 then 0 else n - 1
def spentB (n : Int) : Bool := decide (n = 1)
theorem spent_any {w : World} {g j : Nat} {t : TypeId} {cs : List Value} (h : Ob w g t cs) {n : Int} (hj : cs[j]? = some (.int .i64 n)) (h0 : 0 ≤ n) (h1 : n ≤ 9223372036854775807) :
    Calls Try.prog 76 #[.pointer (some ⟨g, j, none⟩)] w fun e w' => e = .returned (.bool (spentB n)) ∧ Ob w' g t (cs.set j (.int .i64 (spentV n))) ∧ w.grownBy w' (some g) := by
  have HO := Lib.hid h
  have HJ := Lib.hid hj
  clear h hj
  by_cases hn : n = 0
  · subst hn
    have e : cs.set j (.int .i64 (spentV 0)) = cs := by
      obtain ⟨h1, h2⟩ := List.getElem?_eq_some_iff.1 HJ.out
      have : spentV 0 = 0 := rfl
      rw [this, ← h2]
      exact List.set_getElem_self h1
    rw [e]
    go_enter Try.func76, Try.ntmps76
    go_wp2_with fail
    refine (load_any HO.out HJ.out).mono ?_
    rintro e w' ⟨rfl, rfl⟩
    go_wp2_with fail
    go_ret
    exact ⟨rfl, HO.out, grown_refl _ _⟩
  · have e : spentV n = n - 1 := by unfold spentV; rw [if_neg hn]
    rw [e]
    have q : ((n : Int) == 0) = false := by rw [beq_eq_false_iff_ne]; exact hn
    by_cases h1' : n = 1
    · subst h1'
      have e2 : spentB 1 = true := rfl
      rw [e2]
      clear hn e e2
      go_enter Try.func76, Try.ntmps76
      go_wp2_with fail
      refine (load_any HO.out HJ.out).mono ?_
      rintro e w' ⟨rfl, rfl⟩
      go_wp2_with fail
      refine (add_neg_any HO.out HJ.out (by omega) (by omega)).mono ?_
      rintro e w' ⟨rfl, rfl⟩
      go_wp2_with fail
      go_ret
      exact ⟨rfl, HO.out.set j _, set_grown _ _ _ _⟩
    · have e2 : spentB n = false := decide_eq_false h1'
      rw [e2]
      have q2 : ((n - 1 : Int) == 0) = false := by rw [beq_eq_false_iff_ne]; omega
      clear hn e e2 h1'
      go_enter Try.func76, Try.ntmps76
      go_wp2_with fail
      refine (load_any HO.out HJ.out).mono ?_
      rintro e w' ⟨rfl, rfl⟩
      go_wp2_with fail
      refine (add_neg_any HO.out HJ.out (by omega) (by omega)).mono ?_
      rintro e w' ⟨rfl, rfl⟩
      go_wp2_with fail
      go_ret
      exact ⟨rfl, HO.out.set j _, set_grown _ _ _ _⟩

/-- A disk's state. -/
structure DS where
  blocks : List (List UInt8)
  writes : List (Nat × List UInt8)
  down : Bool
  arm : Int
  fail : Int
  wth : Int
  cap : Nat
def diskCells (gb n cap : Nat) (ws : Value) (down : Bool) (arm fail wth : Int) : List Value :=
  [.slice (some ⟨gb, 0, none⟩) n cap, ws, .bool down, .int .i64 arm, .int .i64 fail, .int .i64 wth]
/-- A block's bytes: nil stands for noughts. -/
def DataV (w : World) (B : Nat) (v : Value) (xs : List UInt8) : Prop := (v = .slice none 0 0 ∧ xs = zeros 4096) ∨ (v ≠ .slice none 0 0 ∧ Own w B v xs ∧ xs.length = 4096)
def wcell (p : Int × Value) : List Value := [.int .i64 p.1, p.2]
/-- A disk: its object is block g, its blocks' row block gb, its writes' row the value ws. -/
structure DiskAt (w : World) (B g gb : Nat) (ws : Value) (d : DS) : Prop where
  obj : Ob w g 97 (diskCells gb d.blocks.length d.cap ws d.down d.arm d.fail d.wth)
  row : ∃ vals, Ob w gb 23 vals ∧ d.blocks.length ≤ vals.length ∧ ∀ (i : Nat) v xs, vals[i]? = some v → d.blocks[i]? = some xs → DataV w B v xs
  wr : ∃ qs : List (Int × Value), qs.length = d.writes.length ∧ w.ownsRow B 106 2 ws qs.length (qs.flatMap wcell) ∧ ∀ (i : Nat) (q : Int × Value) (p : Nat × List UInt8), qs[i]? = some q → d.writes[i]? = some p → q.1 = (p.1 : Int) ∧ q.2 ≠ .slice none 0 0 ∧ Own w B q.2 p.2 ∧ p.2.length = 4096 ∧ p.1 < d.blocks.length
  bg : B ≤ g
  bgb : B ≤ gb
  pos : 0 < d.blocks.length
  many : d.blocks.length ≤ 4096
  few : d.writes.length ≤ 1000000
  arm0 : 0 ≤ d.arm ∧ d.arm ≤ 4611686018427387905
  fail0 : 0 ≤ d.fail ∧ d.fail ≤ 4611686018427387905
def Foot (g gb : Nat) (ws : Value) (k : Nat) : Prop := k = g ∨ k = gb ∨ ws.ownBlock = some k
section
variable {w : World} {B g gb : Nat} {ws : Value} {d : DS}
theorem DiskAt.wsForm (h : DiskAt w B g gb ws d) : ∃ A c, ws = .slice A d.writes.length c := by
  obtain ⟨qs, h1, h2, _⟩ := h.wr
  rcases h2.2 with ⟨rfl, h0⟩ | ⟨g', cap, cur, rfl, _⟩
  · exact ⟨none, 0, by rw [← h1, h0]⟩
  · exact ⟨_, _, by rw [h1]⟩
theorem foot_typed (h : DiskAt w B g gb ws d) : ∀ k, Foot g gb ws k → ∃ cs t, w.heap[k]? = some (.cells cs t (0, 0)) ∧ t ≠ 5 := by
  intro k hk
  rcases hk with rfl | rfl | hk
  · exact ⟨_, _, h.obj, by decide⟩
  · obtain ⟨vals, hv, _⟩ := h.row
    exact ⟨_, _, hv, by decide⟩
  · obtain ⟨qs, h1, h2, _⟩ := h.wr
    obtain ⟨cur, hc⟩ := row_at h2 hk
    exact ⟨_, _, hc, by decide⟩
theorem foot_base (h : DiskAt w B g gb ws d) : ∀ k, Foot g gb ws k → B ≤ k := by
  intro k hk
  rcases hk with rfl | rfl | hk
  · exact h.bg
  · exact h.bgb
  · obtain ⟨qs, h1, h2, _⟩ := h.wr
    exact (World.ownsRow.lt h2 k hk).1
/-- A row of bytes is not in a disk's footprint. -/
theorem own_foot (h : DiskAt w B g gb ws d) {B' : Nat} {v : Value} {xs : List UInt8} (ho : Own w B' v xs) : ∀ k, v.ownBlock = some k → ¬ Foot g gb ws k := by
  intro k hk hf
  obtain ⟨cs, t, h1, h2⟩ := foot_typed h k hf
  obtain ⟨cur, h3⟩ := row_at ho hk
  rw [h1] at h3
  injection h3 with h3
  injection h3 with _ h3
  exact h2 h3
theorem own_g (h : DiskAt w B g gb ws d) {B' : Nat} {v : Value} {xs : List UInt8} (ho : Own w B' v xs) : ∀ k, v.ownBlock = some k → ¬ k = g := fun k hk e => own_foot h ho k hk (.inl e)
theorem gb_ne (h : DiskAt w B g gb ws d) : gb ≠ g := by
  intro e
  obtain ⟨vals, hv, _⟩ := h.row
  have h1 := h.obj
  unfold Ob at h1 hv
  rw [e, h1] at hv
  injection hv with hv
  injection hv with _ hv
  exact absurd hv (by decide)
theorem ws_ne (h : DiskAt w B g gb ws d) : ∀ k, ws.ownBlock = some k → k ≠ g ∧ k ≠ gb := by
  intro k hk
  obtain ⟨qs, h1, h2, _⟩ := h.wr
  obtain ⟨cur, hc⟩ := row_at h2 hk
  constructor
  · intro e
    have h1 := h.obj
    unfold Ob at h1
    rw [e, h1] at hc
    injection hc with hc
    injection hc with _ hc
    exact absurd hc (by decide)
  · intro e
    obtain ⟨vals, hv, _⟩ := h.row
    unfold Ob at hv
    rw [e, hv] at hc
    injection hc with hc
    injection hc with _ hc
    exact absurd hc (by decide)
theorem DataV.keep {w1 : World} {S : Nat → Prop} (ht : Tch S w w1) {v : Value} {xs : List UInt8} (h : DataV w B v xs) (hs : ∀ {B' : Nat} {v : Value} {xs : List UInt8}, Own w B' v xs → ∀ k, v.ownBlock = some k → ¬ S k) : DataV w1 B v xs := by
  rcases h with h | ⟨h1, h2, h3⟩
  · exact .inl h
  · exact .inr ⟨h1, ht.own h2 (hs h2), h3⟩
/-- The object alone has changed. -/
theorem DiskAt.upd {w1 : World} {S : Nat → Prop} (h : DiskAt w B g gb ws d) (ht : Tch S w w1) (hs : ∀ k, S k → k = g) (down : Bool) (arm fail wth : Int) (ha : 0 ≤ arm ∧ arm ≤ 4611686018427387905) (hf : 0 ≤ fail ∧ fail ≤ 4611686018427387905)
    (ho : Ob w1 g 97 (diskCells gb d.blocks.length d.cap ws down arm fail wth)) : DiskAt w1 B g gb ws { d with down := down, arm := arm, fail := fail, wth := wth } := by
  have hown : ∀ {B' : Nat} {v : Value} {xs : List UInt8}, Own w B' v xs → ∀ k, v.ownBlock = some k → ¬ S k := fun ho k hk hS => own_g h ho k hk (hs k hS)
  refine ⟨ho, ?_, ?_, h.bg, h.bgb, h.pos, h.many, h.few, ha, hf⟩
  · obtain ⟨vals, hv, hl, hd⟩ := h.row
    exact ⟨vals, ht.ob hv (fun q => gb_ne h (hs _ q)), hl, fun i v xs h1 h2 => (hd i v xs h1 h2).keep ht hown⟩
  · obtain ⟨qs, h1, h2, h3⟩ := h.wr
    refine ⟨qs, h1, ht.rows h2 (fun k hk q => (ws_ne h k hk).1 (hs k q)), fun i q p hq hp => ?_⟩
    obtain ⟨e1, e2, e3, e4⟩ := h3 i q p hq hp
    exact ⟨e1, e2, ht.own e3 (hown e3), e4⟩
/-- Nothing of it has changed. -/
theorem DiskAt.keep {w1 : World} {S : Nat → Prop} (h : DiskAt w B g gb ws d) (ht : Tch S w w1) (hs : ∀ k, Foot g gb ws k → ¬ S k) (hown : ∀ {B' : Nat} {v : Value} {xs : List UInt8}, Own w B' v xs → ∀ k, v.ownBlock = some k → ¬ S k) : DiskAt w1 B g gb ws d := by
  refine ⟨ht.ob h.obj (hs _ (.inl rfl)), ?_, ?_, h.bg, h.bgb, h.pos, h.many, h.few, h.arm0, h.fail0⟩
  · obtain ⟨vals, hv, hl, hd⟩ := h.row
    exact ⟨vals, ht.ob hv (hs _ (.inr (.inl rfl))), hl, fun i v xs h1 h2 => (hd i v xs h1 h2).keep ht hown⟩
  · obtain ⟨qs, h1, h2, h3⟩ := h.wr
    refine ⟨qs, h1, ht.rows h2 (fun k hk => hs k (.inr (.inr hk))), fun i q p hq hp => ?_⟩
    obtain ⟨e1, e2, e3, e4⟩ := h3 i q p hq hp
    exact ⟨e1, e2, ht.own e3 (hown e3), e4⟩
theorem below_none_S {w w1 : World} (h : Below w.heap.size w w1) : Tch (fun _ => False) w w1 := Tch.below h
theorem DiskAt.below {w1 : World} (h : DiskAt w B g gb ws d) (hb : Below w.heap.size w w1) : DiskAt w1 B g gb ws d :=
  h.keep (Tch.below (S := fun _ => False) hb) (fun _ _ q => q) (fun _ _ _ q => q)
/-- The object's cells. -/
theorem DiskAt.c0 (h : DiskAt w B g gb ws d) : w.cell? ⟨g, 0, none⟩ = some (.slice (some ⟨gb, 0, none⟩) d.blocks.length d.cap) := h.obj.cell rfl
theorem DiskAt.c1 (h : DiskAt w B g gb ws d) : w.cell? ⟨g, 1, none⟩ = some ws := h.obj.cell rfl
theorem DiskAt.c2 (h : DiskAt w B g gb ws d) : w.cell? ⟨g, 2, none⟩ = some (.bool d.down) := h.obj.cell rfl
theorem DiskAt.c5 (h : DiskAt w B g gb ws d) : w.cell? ⟨g, 5, none⟩ = some (.int .i64 d.wth) := h.obj.cell rfl
theorem none_any (h : DiskAt w B g gb ws d) : Calls Try.prog 56 #[.pointer (some ⟨g, 0, none⟩)] w fun e w' => e = .returned (.bool false) ∧ w = w' := by
  have c := h.c0
  obtain ⟨n, hn⟩ : ∃ n, n = d.blocks.length := ⟨_, rfl⟩
  have hp := h.pos
  rw [← hn] at c hp
  have z1 : ((n : Int) == 0) = false := by rw [beq_eq_false_iff_ne]; omega
  have z2 : (n == 0) = false := by rw [beq_eq_false_iff_ne]; omega
  clear hn h
  go_enter Try.func56, Try.ntmps56
  go_wp2
  go_ret
  exact ⟨rfl, rfl⟩
def wrongE (d : DS) (b : Int) : Int := if 0 ≤ b ∧ b < d.blocks.length then 0 else 2
theorem wrong_any (h : DiskAt w B g gb ws d) (b : Int) : Calls Try.prog 58 #[.pointer (some ⟨g, 0, none⟩), .int .i64 b] w fun e w' => e = .returned (.int .i64 (wrongE d b)) ∧ w = w' := by
  have H := Lib.hid h
  have c := h.c0
  have hm := h.many
  unfold wrongE
  obtain ⟨n, hn⟩ : ∃ n, n = d.blocks.length := ⟨_, rfl⟩
  rw [← hn] at c hm ⊢
  clear hn h
  by_cases h1 : b < 0
  · rw [if_neg (by omega)]
    have e1 : decide (b < 0) = true := decide_eq_true h1
    go_enter Try.func58, Try.ntmps58
    go_wp2_with fail
    refine (none_any H.out).mono ?_
    rintro e w' ⟨rfl, rfl⟩
    go_wp2_with fail
    go_ret
    exact ⟨rfl, rfl⟩
  · have e1 : decide (b < 0) = false := decide_eq_false h1
    by_cases h2 : b < n
    · rw [if_pos (by omega)]
      have e2 : decide ((n : Int) ≤ b) = false := decide_eq_false (by omega)
      go_enter Try.func58, Try.ntmps58
      go_wp2_with fail
      refine (none_any H.out).mono ?_
      rintro e w' ⟨rfl, rfl⟩
      go_wp2_with fail
      go_ret
      exact ⟨rfl, rfl⟩
    · rw [if_neg (by omega)]
      have e2 : decide ((n : Int) ≤ b) = true := decide_eq_true (by omega)
      go_enter Try.func58, Try.ntmps58
      go_wp2_with fail
      refine (none_any H.out).mono ?_
      rintro e w' ⟨rfl, rfl⟩
      go_wp2_with fail
      go_ret
      exact ⟨rfl, rfl⟩
end
end Go.Proofs.Ytobnomlbkhkodaa.Y
