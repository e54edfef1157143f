/-
  Do all see one's writes? The range over the open ones.
-/
import Derived.Test.YtlfplcidgccgdaaN8
import Derived.Maps.RangeWalk
import Derived.WalkKit
set_option linter.unusedVariables false
set_option linter.unusedSimpArgs false
namespace Go.Proofs.Ytlfplcidgccgdaa.Y
open Go.RowKit Go.Maps
attribute [local go_sem ↓] Go.wp_at_zero Go.wp_at_succ

/-- All that have come so far hold at least n. -/
def Seen (M : Int → Option Int) (left : Lit → Bool) (n : Int) : Prop := ∀ k p, wf64 k → M k = some p → left (.int .i64 k) = false → n ≤ p
theorem Seen.step {M : Int → Option Int} {left : Lit → Bool} {n x c : Int} (hx : M x = some c) : Seen M (fun z => left z && !z.sameKey (.int .i64 x)) n ↔ (Seen M left n ∧ (left (.int .i64 x) = true → wf64 x → n ≤ c)) := by
  constructor
  · intro h
    refine ⟨fun k p hk hp hl => h k p hk hp (by simp [hl]), fun hl hw => h x c hw hx (by simp [Lit.sameKey])⟩
  · rintro ⟨h1, h2⟩ k p hk hp hl
    by_cases e : k = x
    · subst e
      rw [hx] at hp
      injection hp with hp
      subst hp
      cases hll : left (.int .i64 k) with
      | true => exact h2 hll hk
      | false => exact h1 k c hk hx hll
    · refine h1 k p hk hp ?_
      cases hll : left (.int .i64 k) with
      | false => rfl
      | true =>
        simp [hll, Lit.sameKey, e] at hl
/-- Do all see x's writes, as the table says it? -/
def allP (s : TS) (x : Int) : Prop := placeB s x = true ∧ ∀ k p, wf64 k → s.op k = some p → placeN s x ≤ p
theorem wf64_lit {k : Int} (h : (Lit.int .i64 k).wf = true) : wf64 k := by
  obtain ⟨h1, h2⟩ := int_wf64 h
  exact ⟨by omega, by omega⟩
set_option maxRecDepth 100000 in
set_option maxHeartbeats 3200000 in
theorem toAll_any {w : World} {g bo bc bd bg : Nat} {s : TS} (h : TableAt w g bo bc bd bg s) (x : Int) (hx : wf64 x) : Calls Try.prog 62 #[.pointer (some ⟨g, 0, none⟩), .int .i64 x] w fun e w' => ∃ r : Bool, e = .returned (.bool r) ∧ (r = true ↔ allP s x) ∧ Below w.heap.size w w' := by
  have H := Lib.hid h
  have L := Lib.hid (place_any h x hx)
  obtain ⟨D, ho, hsz, hD⟩ := h.mo
  have HO := Lib.hid ho
  have HD := Lib.hid hD
  have hbl := ho.lt
  have c2 := h.c2
  have gl : g < w.heap.size := h.obj.lt
  clear h hx ho hsz hD
  obtain ⟨n, hn⟩ : ∃ n, n = placeN s x := ⟨_, rfl⟩
  obtain ⟨o0, ho0⟩ : ∃ o0, o0 = placeB s x := ⟨_, rfl⟩
  have HP : Hid (∀ r : Bool, (r = true ↔ o0 = true ∧ ∀ k p, wf64 k → s.op k = some p → n ≤ p) → (r = true ↔ allP s x)) := by
    show ∀ r : Bool, _ → _
    intro r h
    rw [h, hn, ho0]
    rfl
  rw [← hn, ← ho0] at L
  clear hn ho0
  go_enter Try.func62, Try.ntmps62
  go_wp2_with fail
  refine (tnone_any H.out).mono ?_
  rintro e w' ⟨rfl, rfl⟩
  go_wp2_with fail
  refine L.out.mono ?_
  rintro e w1 ⟨rfl, q, hq⟩
  have b1 : Below w.heap.size w w1 := by rw [hq]; exact bdrewN (Below.refl _ _) q
  have B1 := Lib.hid b1
  have c2' : w1.cell? ⟨g, 2, none⟩ = some (.map (some bo)) := (b1.cell (p := ⟨g, 2, none⟩) gl).trans c2
  have HO1 : Hid (w1.ownsMap Try.prog 3 (plainElem Try.prog 3) bo s.so D) := by
    show World.ownsMap _ _ _ _ _ _ _
    obtain ⟨es, clock, hb, Ft, hs, hD⟩ := HO.out
    exact ⟨es, clock, (b1.block bo hbl).trans hb, Ft, hs, hD⟩
  clear hq b1
  go_wp2_with (at_range; refine wpList_range_own _ rfl _ 100 rfl 3 3 law_int Try.underlying100 _ bo s.so _ rfl HO1.out ?_; intro w0 hrg0 hg0 hs0)
  have B0 := Lib.hid (B1.out.trans (((Tch.refl (fun _ => False) _).grown hg0 (fun j e => by cases e)).toBelow B1.out.size (fun _ q => q.elim)))
  clear hg0
  go_frame
  go_loopw [6] (fun v wr => ∃ (left : Lit → Bool) (cnt : Nat) (o : Bool), v = .bool o ∧ Hid (wr.ranges Try.prog 3 (plainElem Try.prog 3) bo w1.heap.size s.so D left cnt ∧ (o = true ↔ (o0 = true ∧ Seen s.op left n)) ∧ Below w.heap.size w wr)) (fun _ wr => wr.rangeLeft bo w1.heap.size)
  case atStart =>
    refine ⟨_, _, _, rfl, hrg0, ⟨fun h => ⟨h, fun k p hk hp hl => ?_⟩, fun h => h.1⟩, B0.out⟩
    have := (HD.out k hk).1
    rw [hl, hp] at this
    cases this
  case round =>
    obtain ⟨left, cnt, o, rfl, hI⟩ := hrel
    go_wp2_with (at_next; refine wpList_next_ranges_ii _ rfl _ rfl 3 3 .i64 .i64 law_int Try.underlying3 Try.underlying3 bo w1.heap.size s.so _ _ _ rfl hI.out.1 ?_ ?_)
    · intro _ hl0
      go_wp2_with fail
      go_ret
      refine ⟨o, rfl, HP.out o ?_, hI.out.2.2⟩
      rw [hI.out.2.1]
      exact ⟨fun h => ⟨h.1, fun k p hk hp => h.2 k p hk hp (hl0 _)⟩, fun h => ⟨h.1, fun k p hk hp _ => h.2 k p hk hp⟩⟩
    · intro x1 c w2 cnt1 hwx hwc hlx hat hrg1 hlt hg1 hs1 hen
      have hm : s.op x1 = some c := by
        have hw := wf64_lit hwx
        have h1 := has_true_of_atKey hat
        rw [(HD.out x1 hw).1] at h1
        have h2 := (HD.out x1 hw).2
        rw [hat] at h2
        obtain ⟨p, hp⟩ := Option.isSome_iff_exists.1 h1
        rw [hp] at h2 ⊢
        injection h2 with h2
        injection h2 with _ h2
        rw [h2]; rfl
      have ST : ∀ o' : Bool, (o' = true ↔ (o = true ∧ n ≤ c)) → (o' = true ↔ (o0 = true ∧ Seen s.op (fun z => left z && !z.sameKey (.int .i64 x1)) n)) := by
        intro o' h
        rw [h, hI.out.2.1, Seen.step hm]
        constructor
        · rintro ⟨⟨a, b⟩, c⟩; exact ⟨a, b, fun _ _ => c⟩
        · rintro ⟨a, b, c⟩; exact ⟨⟨a, b⟩, c hlx (wf64_lit hwx)⟩
      have HS := Lib.hid ST
      have HR := Lib.hid hrg1
      have BB := Lib.hid (hI.out.2.2.trans (((Tch.refl (fun j => j = w1.heap.size) _).grown hg1 (fun j e => .inl (by injection e with e; exact e.symm))).toBelow hI.out.2.2.size (fun k hk => by rw [hk]; exact B1.out.size)))
      have ML : cnt1 < cnt := hlt
      have LE := Lib.hid (hI.out.1.left_eq)
      clear ST hrg1 hg1 hat hlx hm
      have hc1 := int_wf64 hwc
      cases o with
      | false =>
        go_wp2_with fail
        go_roundw
        case rel => exact ⟨_, cnt1, false, rfl, HR.out, HS.out false (by simp), BB.out⟩
        case measure => rw [HR.out.left_eq, LE.out]; exact hlt
      | true =>
        by_cases hnc : n ≤ c
        · have hq : decide (n ≤ c) = true := decide_eq_true hnc
          go_wp2_with fail
          go_roundw
          case rel => exact ⟨_, cnt1, true, by go_num, HR.out, HS.out true (by simp [hnc]), BB.out⟩
          case measure => rw [HR.out.left_eq, LE.out]; exact hlt
        · have hq : decide (n ≤ c) = false := decide_eq_false hnc
          go_wp2_with fail
          go_roundw
          case rel => exact ⟨_, cnt1, false, by go_num, HR.out, HS.out false (by simp [hnc]), BB.out⟩
          case measure => rw [HR.out.left_eq, LE.out]; exact hlt
end Go.Proofs.Ytlfplcidgccgdaa.Y
