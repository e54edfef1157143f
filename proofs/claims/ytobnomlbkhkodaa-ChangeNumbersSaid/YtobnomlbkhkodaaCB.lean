/-
  chancerylaw08.at, pages, awake; chanceryref08.Apply, Size.
-/
import Derived.Test.YtobnomlbkhkodaaCA
import Derived.Test.YtobnomlbkhkodaaYI
set_option linter.unusedVariables false
set_option linter.unusedSimpArgs false
namespace Go.Proofs.Ytobnomlbkhkodaa.Y
open Go.RowKit
attribute [local go_sem ↓] Go.wp_at_zero Go.wp_at_succ

/-- A page of noughts but for ones. -/
def oneL (ps : List Nat) : List UInt8 := ps.foldl (fun b p => b.set p 1) (zeros 4080)
theorem oneL_length (ps : List Nat) : (oneL ps).length = 4080 := by
  have : ∀ (ps : List Nat) (b : List UInt8), b.length = 4080 → (ps.foldl (fun b p => b.set p 1) b).length = 4080 := by
    intro ps
    induction ps with
    | nil => intro b h; exact h
    | cons p ps ih => intro b h; exact ih _ (by simpa using h)
  exact this ps _ (zeros_length _)
theorem oneL_take {ps : List Nat} {k : Nat} (h : k < ps.length) : oneL (ps.take (k + 1)) = (oneL (ps.take k)).set ps[k] 1 := by
  unfold oneL
  rw [List.take_succ_eq_append_getElem h, List.foldl_append]
  rfl
theorem oneL_get (ps : List Nat) : ∀ j, j < 4080 → (oneL ps)[j]? = some (if j ∈ ps then 1 else 0) := by
  have : ∀ (ps : List Nat) (b : List UInt8) (j : Nat) (x : UInt8), b.length = 4080 → j < 4080 → b[j]? = some x → (ps.foldl (fun b p => b.set p 1) b)[j]? = some (if j ∈ ps then 1 else x) := by
    intro ps
    induction ps with
    | nil => intro b j x _ _ h; simpa using h
    | cons p ps ih =>
      intro b j x hb hj h
      have := ih (b.set p 1) j (if j = p then 1 else x) (by simpa using hb) hj (by
        rw [List.getElem?_set]
        by_cases e : p = j
        · subst e; simp [hb, hj]
        · rw [if_neg e, if_neg (fun q => e q.symm)]; exact h)
      rw [List.foldl_cons, this]
      by_cases e : j = p
      · simp [e]
      · by_cases m : j ∈ ps <;> simp [e, m]
  intro j hj
  exact this ps (zeros 4080) j 0 (zeros_length _) hj (by unfold zeros; rw [List.getElem?_replicate, if_pos hj])
theorem oneL_unl (ps qs : List Nat) : unl (oneL ps) (oneL qs) 4080 = (List.range 4080).filter fun i => decide (i ∈ ps) != decide (i ∈ qs) := by
  unfold unl
  apply List.filter_congr
  intro j hj
  have hj := List.mem_range.1 hj
  rw [oneL_get ps j hj, oneL_get qs j hj]
  by_cases a : j ∈ ps <;> by_cases b : j ∈ qs <;> simp [a, b]
set_option maxHeartbeats 800000 in
theorem at_any {w : World} {A : Option Addr} {ps : List Nat} {l : Nat} (hL : ps.length = l) (c : Nat) (hA : RdI w A (ps.map fun (p : Nat) => (p : Int))) (hp : ∀ p ∈ ps, p < 4080) (hl : l ≤ 1000) :
    Calls Try.prog 21 #[.slice A l c] w fun e w' => ∃ v, e = .returned v ∧ Own w' w.heap.size v (oneL ps) ∧ Below w.heap.size w w' := by
  have hmk := make_lit 4080 4080 rfl (by decide)
  have HL := Lib.hid hL
  have HA := Lib.hid hA
  have HP := Lib.hid hp
  clear hL hA hp
  go_enter Try.func21, Try.ntmps21
  go_wp2
  go_loopw [4] (fun i wr => ∃ k : Nat, k ≤ l ∧ i = .int .i64 k ∧ Hid (Blk wr w.heap.size (oneL (ps.take k))) ∧ Hid (Below w.heap.size w wr)) (fun i _ => l - (intOf i).toNat)
  case atStart => exact ⟨0, Nat.zero_le _, rfl, Blk.new _ _, balloc (Below.refl _ _) _⟩
  case round =>
    obtain ⟨k, hk, rfl, hB, hb⟩ := hrel
    by_cases hlt : k < l
    · obtain ⟨g, o, rfl, c1⟩ := (HA.out.below hb.out).at_ (j := k) (by rw [List.length_map, HL.out]; exact hlt)
      have ot := Lib.hid (oneL_take (ps := ps) (k := k) (by rw [HL.out]; exact hlt))
      have hlt2 := HP.out _ (List.getElem_mem (l := ps) (n := k) (by rw [HL.out]; exact hlt))
      rw [List.getElem_map] at c1
      generalize ps[k]'(by rw [HL.out]; exact hlt) = p at c1 ot hlt2
      have c0 := hB.out.cell (j := p) (by rw [oneL_length]; exact hlt2)
      have f0 := hB.out.frozen p
      have hs := Lib.hid (hB.out.store (j := p) 1)
      have z0 : (0 : Int) ≤ (p : Int) := by omega
      have z1 : (p : Int) < 4080 := by omega
      go_wp2
      go_roundw
      case rel => exact ⟨k + 1, by omega, by go_num, by rw [ot.out]; exact hs.out.1, hb.out.grown hs.out.2 hb.out.size (by intro j hj; injection hj with hj; omega)⟩
      case measure => simp [intOf]; omega
    · obtain rfl : k = l := by omega
      go_wp2
      go_ret
      have ho := Blk.own hB.out (Nat.le_refl _) (n := 4080) (by rw [oneL_length]; exact Nat.le_refl _) (by rw [oneL_length]; decide)
      rw [oneL_length, List.take_of_length_le (by rw [oneL_length]; exact Nat.le_refl _), List.take_of_length_le (by rw [HL.out]; exact Nat.le_refl _)] at ho
      exact ⟨_, rfl, ho, hb.out⟩
theorem at_none (w : World) : Calls Try.prog 21 #[.slice none 0 0] w fun e w' => ∃ v, e = .returned v ∧ Own w' w.heap.size v (oneL []) ∧ Below w.heap.size w w' :=
  at_any (ps := []) rfl 0 (.inl rfl) (fun p h => by cases h) (by decide)
theorem diff_lit (ps qs : List Nat) (U : List Nat) (hU : ((List.range 4080).filter fun i => decide (i ∈ ps) != decide (i ∈ qs)) = U) : diffL (oneL ps) (oneL qs) = (gfin (grp U)).map (cutP (oneL qs)) := by
  unfold diffL rngs
  rw [oneL_unl, hU]
theorem diff_awake : diffL (oneL []) (oneL [3, 11]) = [(3, [1, 0, 0, 0, 0, 0, 0, 0, 1])] := by
  rw [diff_lit [] [3, 11] [3, 11] (by decide +kernel)]
  decide +kernel
/-- Pieces that a literal lays. -/
theorem rdp_lit {w : World} {g : Nat} {a : Int} {u : Value} {X : List UInt8} (hg : g = w.heap.size) (ha : -9223372036854775808 ≤ a ∧ a ≤ 9223372036854775807) {C : Option Addr} {m c : Nat} (hu : u = .slice C m c) (hm : X.length = m) (hc : m ≤ c) (hml : m ≤ 140737488351232) (hr : Rd w C X) :
    RdP (w.alloc (.cells #[.int .i64 a, u] 36)) (some ⟨g, 0, none⟩) [(a, X)] := by
  subst hg; subst hu; subst hm
  refine .inr ⟨_, 0, rfl, fun i p hp => ?_⟩
  cases i with
  | succ i => simp at hp
  | zero =>
    simp at hp
    subst hp
    refine ⟨?_, C, c, ?_, hc, ⟨hml, ha.1, ha.2⟩, hr.alloc _⟩
    · rw [cell_of_row _ _ _ _ _ _ (heap_alloc_new w _)]; rfl
    · rw [cell_of_row _ _ _ _ _ _ (heap_alloc_new w _)]; rfl
def awk (b : List UInt8) : Prop := b.length = 4080 ∧ b[4079]? = some 7
theorem awk_lay : awk (layL (oneL []) [(4079, [7])]) := by
  unfold awk
  decide +kernel
set_option maxHeartbeats 1600000 in
set_option maxRecDepth 100000 in
theorem awake08_any (w : World) : Calls Try.prog 20 #[] w fun e w' => e = .returned (.bool true) ∧ Below w.heap.size w w' := by
  have e0 := oneL_length []
  have e1 := oneL_length [3, 11]
  have E0 := Lib.hid e0
  have E1 := Lib.hid e1
  clear e0 e1
  go_enter Try.func20, Try.ntmps20
  go_wp2_with fail
  refine (at_none _).mono ?_
  rintro e w1 ⟨rv, rfl, hvv, hbb⟩
  obtain ⟨A1, c1, rfl, hc1, _, hr⟩ := hvv.sliceN E0.out
  have R1 := Lib.hid hr
  have B1 := Lib.hid hbb
  clear hvv hbb hr
  go_wp2_with fail
  refine (at_any (ps := [3, 11]) rfl 2 (RdI.lit rfl rfl _) (by decide) (by decide)).mono ?_
  rintro e w2 ⟨rv, rfl, hvv, hbb⟩
  obtain ⟨A2, c2, rfl, hc2, _, hr⟩ := hvv.sliceN E1.out
  have R2 := Lib.hid hr
  have B2 := Lib.hid (bthen (balloc B1.out _) hbb)
  have B12 := Lib.hid hbb
  clear hvv hbb hr
  go_wp2_with fail
  refine (diff_any c1 c2 E0.out E1.out ((R1.out.alloc _).below B12.out) R2.out hc2).mono ?_
  rintro e w3 ⟨rv, rfl, hvv, hbb⟩
  rw [diff_awake] at hvv
  obtain ⟨A3, c3, rfl, hr⟩ := hvv.sl (by intro p hp; simp at hp; subst hp; exact ⟨by decide, by decide, by decide⟩)
  have R3 := Lib.hid hr
  have B3 := Lib.hid (bthen B2.out hbb)
  clear hvv hbb hr
  go_wp2_with fail
  refine (at_none _).mono ?_
  rintro e w4 ⟨rv, rfl, hvv, hbb⟩
  obtain ⟨A4, c4, rfl, hc4, _, hr⟩ := hvv.sliceN E0.out
  have R4 := Lib.hid hr
  have B4 := Lib.hid (bthen B3.out hbb)
  have R34 := Lib.hid (R3.out.below hbb)
  clear hvv hbb hr
  go_wp2_with fail
  refine (apply_ok E0.out c4 ((R4.out.alloc _).alloc _) (L := [(4079, [7])]) rfl 1 (rdp_lit (by simp) (by decide) rfl rfl (by decide) (by decide) (rd_lit [7] _ rfl)) (by decide) (by decide)).mono ?_
  rintro e w5 ⟨rv, rfl, hvv, hbb⟩
  have hk := awk_lay
  generalize layL (oneL []) [(4079, [7])] = F at hk hvv
  obtain ⟨A5, c5, rfl, hc5, _, hr⟩ := hvv.sliceN hk.1
  obtain ⟨b5, o5, rfl⟩ := hr.addr (by have := hk.1; omega)
  have k5 := hr.at' 4079 hk.2
  have B5 := Lib.hid (bthen (balloc (balloc B4.out _) _) hbb)
  obtain ⟨b3, o3, C3, d3, rfl, hp⟩ := (((R34.out.below (balloc (Below.refl _ _) _)).below (balloc (Below.refl _ _) _)).below hbb).at_ (i := 0) (by decide)
  have p0 : w5.cell? ⟨b3, o3, none⟩ = some (.int .i64 3) := hp.c0
  have p1 : w5.cell? ⟨b3, o3 + 1, none⟩ = some (.slice C3 9 d3) := hp.c1
  replace k5 : w5.cell? ⟨b5, o5 + 4079, none⟩ = some (.int .u8 7) := k5
  clear hvv hbb hr hk hp
  go_wp2_with fail
  go_ret
  exact ⟨rfl, B5.out⟩
end Go.Proofs.Ytobnomlbkhkodaa.Y
