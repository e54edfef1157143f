/-
  The walk of VerkeyNumbers.
-/
import Derived.Test.YtjenedfpjpiknaaV6
import Derived.Test.YtjenedfpjpiknaaYO
set_option linter.unusedVariables false
set_option linter.unusedSimpArgs false
namespace Go.Proofs.Ytjenedfpjpiknaa.Y
open Go.RowKit

/-- A slice that reads so. -/
def SliceOf (w : World) (u : Value) (L : List UInt8) : Prop := ∃ A c, u = .slice A L.length c ∧ L.length ≤ c ∧ Rd w A L
theorem SliceOf.alloc {w : World} {u : Value} {L : List UInt8} (h : SliceOf w u L) (o : Obj) : SliceOf (w.alloc o) u L := by
  obtain ⟨A, c, h1, h2, h3⟩ := h
  exact ⟨A, c, h1, h2, h3.alloc o⟩
theorem SliceOf.below {w w1 : World} {u : Value} {L : List UInt8} (h : SliceOf w u L) (hb : Below w.heap.size w w1) : SliceOf w1 u L := by
  obtain ⟨A, c, h1, h2, h3⟩ := h
  exact ⟨A, c, h1, h2, h3.below hb⟩
theorem SliceOf.new (w : World) (L : List UInt8) (cs : Array Value) (n : Nat) (h : cs = (bvs L).toArray) (hn : n = L.length) : SliceOf (w.alloc (.cells cs 5)) (.slice (some ⟨w.heap.size, 0, none⟩) n n) L := by
  subst hn
  exact ⟨_, _, rfl, Nat.le_refl _, rd_new rfl h⟩
theorem getD_listed {listed : Array Bool} {i : Nat} (h : listed.getD i true = false) (j : Nat) : (listed.setIfInBounds i true).getD j false = if j = i then true else listed.getD j false := by
  have hi : i < listed.size := by
    rcases Nat.lt_or_ge i listed.size with h' | h'
    · exact h'
    · rw [Array.getD_eq_getD_getElem?, Array.getElem?_eq_none h'] at h; simp at h
  simp only [Array.getD_eq_getD_getElem?, Array.getElem?_setIfInBounds]
  by_cases e : j = i
  · subst e; simp [hi]
  · rw [if_neg e, if_neg (fun q => e q.symm)]
theorem getD_rep (n k : Nat) : (Array.replicate n false).getD k false = false := by
  simp only [Array.getD_eq_getD_getElem?, Array.getElem?_replicate]
  split <;> rfl
theorem Fr.get' {a0 a : Act} {lo hi : Nat} {v : Nat → Value} (h : Fr a0 a lo hi v) (t : Nat) (h1 : lo ≤ t) (h2 : t ≤ hi) : a.tmps[t]?.getD undef = v t := by
  rw [← Array.getD_eq_getD_getElem?, h.get, if_pos ⟨h1, h2⟩]
theorem getD_not {listed : Array Bool} {i : Nat} (h : listed.getD i true = false) : listed.getD i false = false := by
  rcases Nat.lt_or_ge i listed.size with h' | h'
  · rw [Array.getD_eq_getD_getElem?, Array.getElem?_eq_getElem h'] at h ⊢; exact h
  · rw [Array.getD_eq_getD_getElem?, Array.getElem?_eq_none h'] at h; simp at h
theorem getD_size {listed : Array Bool} {i : Nat} (hs : i < listed.size) (h : listed.getD i false = false) : listed.getD i true = false := by
  rw [Array.getD_eq_getD_getElem?, Array.getElem?_eq_getElem hs] at h ⊢; exact h
theorem ready_nil {md : Region.Mode} {ops : Array Oper} {listed : Array Bool} (hr : Region.ready md ops listed = []) {i : Nat} (hs : i < listed.size) {o : Oper} (ho : ops[i]? = some o) (hd : ∀ e ∈ o.after, Region.binds md e = true → listed.getD e.on false = true) : listed.getD i false = true := by
  cases h : listed.getD i false with
  | true => rfl
  | false =>
    exfalso
    have hi : i < ops.size := (Array.getElem?_eq_some_iff.1 ho).1
    have : i ∈ Region.ready md ops listed := ready_iff.2 ⟨hi, getD_size hs h, o, ho, hd⟩
    rw [hr] at this
    cases this
def lit7 (k : Nat) : List UInt8 := match k with
  | 0 => [97, 0]
  | 1 => [97, 0, 1, 255, 255, 255, 255, 255, 255, 255, 250]
  | 2 => [0, 0, 255, 255, 255, 255, 255, 255, 255, 250]
  | 3 => [97, 0, 0, 0, 0, 0, 0, 0, 0, 0, 0]
  | 4 => [97, 0, 5, 0, 0, 255, 255, 255, 255, 255, 255, 255, 250]
  | 5 => zeros 10
  | 6 => zeros 11
  | _ => []
structure J7 (we : World) (listed : Array Bool) (v : Nat → Value) (w : World) : Prop where
  size : listed.size = 10
  below : Below we.heap.size we w
  lits : ∀ k, k < 7 → listed.getD k false = true → SliceOf w (v (101 + k)) (lit7 k)
  outer : listed.getD 7 false = true → (∀ k, k < 7 → listed.getD k false = true) ∧ ∃ G, v 108 = .slice (some ⟨G, 0, none⟩) 8 8 ∧ we.heap.size ≤ G ∧ w.heap[G]? = some (.cells #[.slice none 0 0, v 101, v 102, v 103, v 104, v 105, v 106, v 107] 22 (0, 0))
  len : listed.getD 8 false = true → v 109 = .int .i64 8
  start : listed.getD 9 false = true → v 110 = .int .i64 0
theorem J7.lit {we : World} {listed : Array Bool} {v : Nat → Value} {w : World} (h : J7 we listed v w) {k : Nat} (hk : k < 7) (hl : listed.getD k true = false) {u : Value} {o : Obj} (hu : SliceOf (w.alloc o) u (lit7 k)) :
    J7 we (listed.setIfInBounds k true) (fun t => if t = 101 + k then u else v t) (w.alloc o) := by
  refine ⟨by simp [h.size], balloc h.below o, fun j hj hjl => ?_, fun h7 => ?_, fun h8 => ?_, fun h9 => ?_⟩
  · rw [getD_listed hl] at hjl
    by_cases e : j = k
    · subst e; rw [if_pos rfl]; exact hu
    · rw [if_neg e] at hjl
      rw [if_neg (by omega)]
      exact (h.lits j hj hjl).alloc o
  · rw [getD_listed hl, if_neg (by omega)] at h7
    have := (h.outer h7).1 k hk
    rw [getD_not hl] at this
    cases this
  · rw [getD_listed hl, if_neg (by omega)] at h8
    show (if 109 = 101 + k then u else v 109) = _
    rw [if_neg (by omega)]
    exact h.len h8
  · rw [getD_listed hl, if_neg (by omega)] at h9
    show (if 110 = 101 + k then u else v 110) = _
    rw [if_neg (by omega)]
    exact h.start h9
theorem J7.out {we : World} {listed : Array Bool} {v : Nat → Value} {w : World} (h : J7 we listed v w) (hl : listed.getD 7 true = false) (hall : ∀ k, k < 7 → listed.getD k false = true) :
    J7 we (listed.setIfInBounds 7 true) (fun t => if t = 108 then .slice (some ⟨w.heap.size, 0, none⟩) 8 8 else v t) (w.alloc (.cells #[.slice none 0 0, v 101, v 102, v 103, v 104, v 105, v 106, v 107] 22)) := by
  refine ⟨by simp [h.size], balloc h.below _, fun j hj hjl => ?_, fun h7 => ⟨fun k hk => by rw [getD_listed hl, if_neg (by omega)]; exact hall k hk, w.heap.size, if_pos rfl, h.below.size, heap_alloc_new _ _⟩, fun h8 => ?_, fun h9 => ?_⟩
  · rw [if_neg (by omega)]
    exact (h.lits j hj (hall j hj)).alloc _
  · rw [getD_listed hl, if_neg (by omega)] at h8
    exact h.len h8
  · rw [getD_listed hl, if_neg (by omega)] at h9
    exact h.start h9
theorem J7.eight {we : World} {listed : Array Bool} {v : Nat → Value} {w : World} (h : J7 we listed v w) (hl : listed.getD 8 true = false) :
    J7 we (listed.setIfInBounds 8 true) (fun t => if t = 109 then .int .i64 8 else v t) w := by
  refine ⟨by simp [h.size], h.below, fun j hj hjl => ?_, fun h7 => ?_, fun h8 => if_pos rfl, fun h9 => ?_⟩
  · rw [getD_listed hl, if_neg (by omega)] at hjl
    rw [if_neg (by omega)]
    exact h.lits j hj hjl
  · rw [getD_listed hl, if_neg (by omega)] at h7
    exact ⟨fun k hk => by rw [getD_listed hl, if_neg (by omega)]; exact (h.outer h7).1 k hk, (h.outer h7).2⟩
  · rw [getD_listed hl, if_neg (by omega)] at h9
    exact h.start h9
theorem J7.nine {we : World} {listed : Array Bool} {v : Nat → Value} {w : World} (h : J7 we listed v w) (hl : listed.getD 9 true = false) :
    J7 we (listed.setIfInBounds 9 true) (fun t => if t = 110 then .int .i64 0 else v t) w := by
  refine ⟨by simp [h.size], h.below, fun j hj hjl => ?_, fun h7 => ?_, fun h8 => ?_, fun h9 => if_pos rfl⟩
  · rw [getD_listed hl, if_neg (by omega)] at hjl
    rw [if_neg (by omega)]
    exact h.lits j hj hjl
  · rw [getD_listed hl, if_neg (by omega)] at h7
    exact ⟨fun k hk => by rw [getD_listed hl, if_neg (by omega)]; exact (h.outer h7).1 k hk, (h.outer h7).2⟩
  · rw [getD_listed hl, if_neg (by omega)] at h8
    exact h.len h8
/-- What the region leaves. -/
def Eight (we : World) (s8 s9 s10 : Value) (w : World) : Prop := s9 = .int .i64 8 ∧ s10 = .int .i64 0 ∧ Below we.heap.size we w ∧ ∃ G, ∃ u : Nat → Value, s8 = .slice (some ⟨G, 0, none⟩) 8 8 ∧ we.heap.size ≤ G ∧ w.heap[G]? = some (.cells #[.slice none 0 0, u 0, u 1, u 2, u 3, u 4, u 5, u 6] 22 (0, 0)) ∧ ∀ k, k < 7 → SliceOf w (u k) (lit7 k)
theorem J7.done {we : World} {listed : Array Bool} {v : Nat → Value} {w : World} (h : J7 we listed v w) (hall : ∀ i, i < 10 → listed.getD i false = true) : Eight we (v 108) (v 109) (v 110) w := by
  obtain ⟨_, G, h1, h2, h3⟩ := h.outer (hall 7 (by decide))
  exact ⟨h.len (hall 8 (by decide)), h.start (hall 9 (by decide)), h.below, G, fun k => v (101 + k), h1, h2, h3, fun k hk => h.lits k hk (hall k (by omega))⟩
theorem lit7_bad (k : Nat) (hk : k < 7) : ¬ verOk (lit7 k) ∧ (lit7 k).length ≤ 16 := by
  match k, hk with
  | 0, _ => decide +kernel
  | 1, _ => decide +kernel
  | 2, _ => decide +kernel
  | 3, _ => decide +kernel
  | 4, _ => decide +kernel
  | 5, _ => decide +kernel
  | 6, _ => decide +kernel
theorem eight_at {wc wr : World} {G : Nat} {u : Nat → Value} (hrow : wc.heap[G]? = some (.cells #[.slice none 0 0, u 0, u 1, u 2, u 3, u 4, u 5, u 6] 22 (0, 0))) (hs : ∀ k, k < 7 → SliceOf wc (u k) (lit7 k)) (hb : Below wc.heap.size wc wr) {j : Nat} (hj : j < 8) :
    ∃ A n c L, wr.cell? ⟨G, j, none⟩ = some (.slice A n c) ∧ L.length = n ∧ n ≤ c ∧ Rd wr A L ∧ ¬ verOk L ∧ n ≤ 16 := by
  have hlt : G < wc.heap.size := (Array.getElem?_eq_some_iff.1 hrow).1
  have h2 : wr.cell? ⟨G, j, none⟩ = wc.cell? ⟨G, j, none⟩ := hb.cell hlt
  rw [h2, cell_of_row wc G j _ _ _ hrow]
  have H : ∀ k, k < 7 → ∃ A n c L, u k = .slice A n c ∧ L.length = n ∧ n ≤ c ∧ Rd wr A L ∧ ¬ verOk L ∧ n ≤ 16 := fun k hk => by
    obtain ⟨A, c, h1, h2, h3⟩ := (hs k hk).below hb
    exact ⟨A, _, c, lit7 k, h1, rfl, h2, h3, (lit7_bad k hk).1, (lit7_bad k hk).2⟩
  match j, hj with
  | 0, _ => exact ⟨none, 0, 0, [], rfl, rfl, Nat.le_refl _, Rd.nil _ _, by decide +kernel, by decide⟩
  | 1, _ => obtain ⟨A, n, c, L, e, r⟩ := H 0 (by decide); exact ⟨A, n, c, L, congrArg some e, r⟩
  | 2, _ => obtain ⟨A, n, c, L, e, r⟩ := H 1 (by decide); exact ⟨A, n, c, L, congrArg some e, r⟩
  | 3, _ => obtain ⟨A, n, c, L, e, r⟩ := H 2 (by decide); exact ⟨A, n, c, L, congrArg some e, r⟩
  | 4, _ => obtain ⟨A, n, c, L, e, r⟩ := H 3 (by decide); exact ⟨A, n, c, L, congrArg some e, r⟩
  | 5, _ => obtain ⟨A, n, c, L, e, r⟩ := H 4 (by decide); exact ⟨A, n, c, L, congrArg some e, r⟩
  | 6, _ => obtain ⟨A, n, c, L, e, r⟩ := H 5 (by decide); exact ⟨A, n, c, L, congrArg some e, r⟩
  | 7, _ => obtain ⟨A, n, c, L, e, r⟩ := H 6 (by decide); exact ⟨A, n, c, L, congrArg some e, r⟩
/-- The longest key with the greatest number. -/
def longB : List UInt8 := joinB (zeros 128) 4611686018427387904
theorem longB_length : longB.length = 266 := by decide +kernel
theorem longB_ok : verOk longB := by decide +kernel
theorem longB_n : pnB longB = 4611686018427387904 := by decide +kernel
theorem longB_k : pkB longB = zeros 128 := by decide +kernel
set_option maxHeartbeats 4000000 in
set_option maxRecDepth 100000 in
theorem verkeyNumbers_walk  (w : World)
     :
    Calls Try.prog 4 #[] w fun e w' => e = .returned (.bool true) ∧ Below w.heap.size w w' := by
  have hm1 := make_lit 128 128 rfl (by decide)
  have hm2 := make_lit 129 129 rfl (by decide)
  have hm3 := make_lit 10 10 rfl (by decide)
  have hm4 := make_lit 11 11 rfl (by decide)
  have hM := Lib.hid (show (4611686018427387904 : Int) = if verOk longB then pnB longB else 0 by rw [if_pos longB_ok, longB_n])
  have hK := Lib.hid (show zeros 128 = if verOk longB then pkB longB else [] by rw [if_pos longB_ok, longB_k])
  have ho := Lib.hid (show true = decide (verOk longB) by rw [decide_eq_true longB_ok])
  have eqs := eqB_self
  have f1 := Lib.hid (show firstB [97] = [97, 0, 0] by decide)
  have f2 := Lib.hid (show behindB [97] = [97, 0, 1] by decide)
  have f3 := Lib.hid (show firstB [] = [0, 0] by decide)
  go_enter Try.func4, Try.ntmps4
  go_wp2_with fail
  go_wp2_with fail
  refine (first_any (xs := [97]) rfl _ (by exact rd_new (by simp) rfl) (by decide)).mono ?_
  rintro e w_a ⟨rv, rfl, hvv, hbb⟩
  replace hvv : Own w_a _ rv (firstB [97]) := hvv
  rw [f1.out] at hvv
  obtain ⟨A_a, c_a, rfl, hc_a, hm_a, hr⟩ := hvv.sliceN (n := 3) rfl
  have R_a := Lib.hid hr
  have B_a := Lib.hid hbb
  clear hvv hbb hr
  go_wp2_with fail
  refine (sameBytes_any (xs := [97, 0, 0]) (ys := [97, 0, 0]) rfl rfl _ _ (by exact (R_a.out.alloc _)) (by exact rd_new (by simp) rfl)).mono ?_
  rintro e w' ⟨rfl, rfl⟩
  go_wp2_with fail
  go_wp2_with fail
  refine (behind_any (xs := [97]) rfl _ (by exact rd_new (by simp) rfl) (by decide)).mono ?_
  rintro e w_b ⟨rv, rfl, hvv, hbb⟩
  replace hvv : Own w_b _ rv (behindB [97]) := hvv
  rw [f2.out] at hvv
  obtain ⟨A_b, c_b, rfl, hc_b, hm_b, hr⟩ := hvv.sliceN (n := 3) rfl
  have R_b := Lib.hid hr
  have B_b := Lib.hid hbb
  clear hvv hbb hr
  go_wp2_with fail
  refine (sameBytes_any (xs := [97, 0, 1]) (ys := [97, 0, 1]) rfl rfl _ _ (by exact (R_b.out.alloc _)) (by exact rd_new (by simp) rfl)).mono ?_
  rintro e w' ⟨rfl, rfl⟩
  go_wp2_with fail
  refine (first_any (xs := []) rfl _ (Rd.nil _ _) (by decide)).mono ?_
  rintro e w_c ⟨rv, rfl, hvv, hbb⟩
  replace hvv : Own w_c _ rv (firstB []) := hvv
  rw [f3.out] at hvv
  obtain ⟨A_c, c_c, rfl, hc_c, hm_c, hr⟩ := hvv.sliceN (n := 2) rfl
  have R_c := Lib.hid hr
  have B_c := Lib.hid hbb
  clear hvv hbb hr
  go_wp2_with fail
  refine (sameBytes_any (xs := [0, 0]) (ys := [0, 0]) rfl rfl _ _ (by exact (R_c.out.alloc _)) (by exact rd_new (by simp) rfl)).mono ?_
  rintro e w' ⟨rfl, rfl⟩
  go_wp2_with fail
  refine (join_yes (xs := zeros 128) (by simp) _ (by exact rd_zeros (by simp)) 4611686018427387904 (by decide) (by decide) (by decide)).mono ?_
  rintro e w_d ⟨rv, rfl, hvv, hbb⟩
  replace hvv : Own w_d _ rv longB := hvv
  obtain ⟨A_d, c_d, rfl, hc_d, hm_d, hr⟩ := hvv.sliceN longB_length
  have R_d := Lib.hid hr
  have B_d := Lib.hid hbb
  clear hvv hbb hr
  go_wp2_with fail
  refine (join_no _ 1 (by decide) (by decide)).mono ?_
  rintro e w' ⟨rfl, rfl⟩
  go_wp2_with fail
  refine (join_no _ 1 (by decide) (by decide)).mono ?_
  rintro e w' ⟨rfl, rfl⟩
  go_wp2_with fail
  refine (join_no _ (-1) (by decide) (by decide)).mono ?_
  rintro e w' ⟨rfl, rfl⟩
  go_wp2_with fail
  refine (join_no _ 4611686018427387905 (by decide) (by decide)).mono ?_
  rintro e w' ⟨rfl, rfl⟩
  go_wp2_with fail
  refine (verPart_any longB_length _ (((R_d.out.alloc _).alloc _).alloc _) hc_d (by decide) 4611686018427387904 true (zeros 128) hM.out ho.out hK.out).mono ?_
  rintro e w_e ⟨rv, rfl, hvv, hbb⟩
  obtain ⟨A_e, c_e, rfl, hc_e, hm_e, hr⟩ := hvv.sliceN (n := 128) (by simp)
  have O_e := Lib.hid hvv
  have R_e := Lib.hid hr
  have B_e := Lib.hid hbb
  clear hvv hbb hr
  go_upto_region 9 with fail
  go_cut [101, 102, 103, 104, 105, 106, 107, 108, 109, 110] (fun s1 s2 s3 s4 s5 s6 s7 s8 s9 s10 wx => Eight w_e s8 s9 s10 wx)
  case first =>
    rename_i J K' hJJ hKK
    refine wp_region_any (by kernel_rfl) ?_
    change wpAny _ _ _ _ _ _ _ (World.drew _)
    refine wpAny_slots 101 110 _ _ (J7 w_e) ?h0 ?hstep ?hdone
    case h0 => exact ⟨by simp, bdrew (Below.refl _ _), fun k hk h => absurd h (by rw [getD_rep]; decide), fun h => absurd h (by rw [getD_rep]; decide), fun h => absurd h (by rw [getD_rep]; decide), fun h => absurd h (by rw [getD_rep]; decide)⟩
    case hstep =>
      intro listed a v w' hf hJ i hi hl hdep
      have hsz : 110 < 137 := by decide
      match i, hi, hl, hdep with
      | 0, _, hl, hdep =>
        refine wpOp_value rfl rfl (u := .slice (some ⟨w'.heap.size, 0, none⟩) 2 2) (w1 := w'.alloc (.cells #[.int .u8 97, .int .u8 0] 5)) ?_ ⟨_, hf.put _ (by decide) (by decide) (by exact Nat.le_of_ble_eq_true rfl), hJ.lit (k := 0) (by decide) hl (SliceOf.new _ _ _ _ rfl (by rfl))⟩
        go_simp
      | 1, _, hl, hdep =>
        refine wpOp_value rfl rfl (u := .slice (some ⟨w'.heap.size, 0, none⟩) 11 11) (w1 := w'.alloc (.cells #[.int .u8 97, .int .u8 0, .int .u8 1, .int .u8 255, .int .u8 255, .int .u8 255, .int .u8 255, .int .u8 255, .int .u8 255, .int .u8 255, .int .u8 250] 5)) ?_ ⟨_, hf.put _ (by decide) (by decide) (by exact Nat.le_of_ble_eq_true rfl), hJ.lit (k := 1) (by decide) hl (SliceOf.new _ _ _ _ rfl (by rfl))⟩
        go_simp
      | 2, _, hl, hdep =>
        refine wpOp_value rfl rfl (u := .slice (some ⟨w'.heap.size, 0, none⟩) 10 10) (w1 := w'.alloc (.cells #[.int .u8 0, .int .u8 0, .int .u8 255, .int .u8 255, .int .u8 255, .int .u8 255, .int .u8 255, .int .u8 255, .int .u8 255, .int .u8 250] 5)) ?_ ⟨_, hf.put _ (by decide) (by decide) (by exact Nat.le_of_ble_eq_true rfl), hJ.lit (k := 2) (by decide) hl (SliceOf.new _ _ _ _ rfl (by rfl))⟩
        go_simp
      | 3, _, hl, hdep =>
        refine wpOp_value rfl rfl (u := .slice (some ⟨w'.heap.size, 0, none⟩) 11 11) (w1 := w'.alloc (.cells #[.int .u8 97, .int .u8 0, .int .u8 0, .int .u8 0, .int .u8 0, .int .u8 0, .int .u8 0, .int .u8 0, .int .u8 0, .int .u8 0, .int .u8 0] 5)) ?_ ⟨_, hf.put _ (by decide) (by decide) (by exact Nat.le_of_ble_eq_true rfl), hJ.lit (k := 3) (by decide) hl (SliceOf.new _ _ _ _ rfl (by rfl))⟩
        go_simp
      | 4, _, hl, hdep =>
        refine wpOp_value rfl rfl (u := .slice (some ⟨w'.heap.size, 0, none⟩) 13 13) (w1 := w'.alloc (.cells #[.int .u8 97, .int .u8 0, .int .u8 5, .int .u8 0, .int .u8 0, .int .u8 255, .int .u8 255, .int .u8 255, .int .u8 255, .int .u8 255, .int .u8 255, .int .u8 255, .int .u8 250] 5)) ?_ ⟨_, hf.put _ (by decide) (by decide) (by exact Nat.le_of_ble_eq_true rfl), hJ.lit (k := 4) (by decide) hl (SliceOf.new _ _ _ _ rfl (by rfl))⟩
        go_simp
      | 5, _, hl, hdep =>
        refine wpOp_value rfl rfl (u := .slice (some ⟨w'.heap.size, 0, none⟩) 10 10) (w1 := w'.alloc (.cells (bvs (zeros 10)).toArray 5)) ?_ ⟨_, hf.put _ (by decide) (by decide) (by exact Nat.le_of_ble_eq_true rfl), hJ.lit (k := 5) (by decide) hl (SliceOf.new _ _ _ _ rfl (by show _ = (zeros _).length; simp))⟩
        go_simp
      | 6, _, hl, hdep =>
        refine wpOp_value rfl rfl (u := .slice (some ⟨w'.heap.size, 0, none⟩) 11 11) (w1 := w'.alloc (.cells (bvs (zeros 11)).toArray 5)) ?_ ⟨_, hf.put _ (by decide) (by decide) (by exact Nat.le_of_ble_eq_true rfl), hJ.lit (k := 6) (by decide) hl (SliceOf.new _ _ _ _ rfl (by show _ = (zeros _).length; simp))⟩
        go_simp
      | 7, _, hl, hdep =>
        have hd := hdep _ rfl
        have hall : ∀ k, k < 7 → listed.getD k false = true := fun k hk => by
          have e : (⟨k, .data⟩ : Edge) ∈ (#[⟨0, .data⟩, ⟨1, .data⟩, ⟨2, .data⟩, ⟨3, .data⟩, ⟨4, .data⟩, ⟨5, .data⟩, ⟨6, .data⟩] : Array Edge) := by
            match k, hk with
            | 0, _ => simp
            | 1, _ => simp
            | 2, _ => simp
            | 3, _ => simp
            | 4, _ => simp
            | 5, _ => simp
            | 6, _ => simp
            | (n + 7), h => exact absurd h (by omega)
          exact hd _ e rfl
        obtain ⟨A1, k1, e1, _⟩ := hJ.lits 0 (by decide) (hall 0 (by decide))
        obtain ⟨A2, k2, e2, _⟩ := hJ.lits 1 (by decide) (hall 1 (by decide))
        obtain ⟨A3, k3, e3, _⟩ := hJ.lits 2 (by decide) (hall 2 (by decide))
        obtain ⟨A4, k4, e4, _⟩ := hJ.lits 3 (by decide) (hall 3 (by decide))
        obtain ⟨A5, k5, e5, _⟩ := hJ.lits 4 (by decide) (hall 4 (by decide))
        obtain ⟨A6, k6, e6, _⟩ := hJ.lits 5 (by decide) (hall 5 (by decide))
        obtain ⟨A7, k7, e7, _⟩ := hJ.lits 6 (by decide) (hall 6 (by decide))
        have v1 := (hf.get' 101 (by decide) (by decide)).trans e1
        have v2 := (hf.get' 102 (by decide) (by decide)).trans e2
        have v3 := (hf.get' 103 (by decide) (by decide)).trans e3
        have v4 := (hf.get' 104 (by decide) (by decide)).trans e4
        have v5 := (hf.get' 105 (by decide) (by decide)).trans e5
        have v6 := (hf.get' 106 (by decide) (by decide)).trans e6
        have v7 := (hf.get' 107 (by decide) (by decide)).trans e7
        refine wpOp_value rfl rfl (u := .slice (some ⟨w'.heap.size, 0, none⟩) 8 8) (w1 := w'.alloc (.cells #[.slice none 0 0, v 101, v 102, v 103, v 104, v 105, v 106, v 107] 22)) ?_ ⟨_, hf.put _ (by decide) (by decide) (by exact Nat.le_of_ble_eq_true rfl), hJ.out hl hall⟩
        rw [show v 101 = _ from e1, show v 102 = _ from e2, show v 103 = _ from e3, show v 104 = _ from e4, show v 105 = _ from e5, show v 106 = _ from e6, show v 107 = _ from e7]
        clear e1 e2 e3 e4 e5 e6 e7 hd
        go_simp
      | 8, _, hl, hdep =>
        have h7 := hdep _ rfl ⟨7, .data⟩ (by simp) rfl
        obtain ⟨_, G, e8, _⟩ := hJ.outer h7
        have v8 := (hf.get' 108 (by decide) (by decide)).trans e8
        refine wpOp_value rfl rfl (u := .int .i64 8) (w1 := w') ?_ ⟨_, hf.put _ (by decide) (by decide) (by exact Nat.le_of_ble_eq_true rfl), hJ.eight hl⟩
        clear e8
        go_simp
      | 9, _, hl, hdep =>
        refine wpOp_value rfl rfl (u := .int .i64 0) (w1 := w') ?_ ⟨_, hf.put _ (by decide) (by decide) (by exact Nat.le_of_ble_eq_true rfl), hJ.nine hl⟩
        go_simp
      | (n + 10), hi, _, _ => exact absurd hi (by show ¬ (n + 10 < 10); omega)
    case hdone =>
      intro listed a v w' hf hJ hr
      have hs : listed.size = 10 := hJ.size
      have p0 := ready_nil hr (i := 0) (by rw [hs]; decide) rfl (by simp)
      have p1 := ready_nil hr (i := 1) (by rw [hs]; decide) rfl (by simp)
      have p2 := ready_nil hr (i := 2) (by rw [hs]; decide) rfl (by simp)
      have p3 := ready_nil hr (i := 3) (by rw [hs]; decide) rfl (by simp)
      have p4 := ready_nil hr (i := 4) (by rw [hs]; decide) rfl (by simp)
      have p5 := ready_nil hr (i := 5) (by rw [hs]; decide) rfl (by simp)
      have p6 := ready_nil hr (i := 6) (by rw [hs]; decide) rfl (by simp)
      have p9 := ready_nil hr (i := 9) (by rw [hs]; decide) rfl (by simp)
      have p7 := ready_nil hr (i := 7) (by rw [hs]; decide) rfl (by
        intro e he _
        have he' : e ∈ [(⟨0, .data⟩ : Edge), ⟨1, .data⟩, ⟨2, .data⟩, ⟨3, .data⟩, ⟨4, .data⟩, ⟨5, .data⟩, ⟨6, .data⟩] := by simpa using he
        simp only [List.mem_cons, List.not_mem_nil, or_false] at he'
        rcases he' with rfl | rfl | rfl | rfl | rfl | rfl | rfl <;> assumption)
      have p8 := ready_nil hr (i := 8) (by rw [hs]; decide) rfl (by
        intro e he _
        have he' : e ∈ [(⟨7, .data⟩ : Edge)] := by simpa using he
        simp only [List.mem_cons, List.not_mem_nil, or_false] at he'
        rcases he' with rfl
        assumption)
      have hE := hJ.done (fun i hi => by
        match i, hi with
        | 0, _ => exact p0
        | 1, _ => exact p1
        | 2, _ => exact p2
        | 3, _ => exact p3
        | 4, _ => exact p4
        | 5, _ => exact p5
        | 6, _ => exact p6
        | 7, _ => exact p7
        | 8, _ => exact p8
        | 9, _ => exact p9
        | (n + 10), h => exact absurd h (by omega))
      have e := hf.eq 10 rfl (by exact Nat.le_of_ble_eq_true rfl)
      subst e
      simp only [puts, List.range', List.foldl_cons, List.foldl_nil, Act.put, Nat.reduceAdd, List.setIfInBounds_toArray, List.set_cons_succ, List.set_cons_zero]
      refine hKK _ _ (Met.intro (hJJ _ _ ?_))
      (repeat apply Exists.intro)
      exact ⟨hE, rfl⟩
  case rest =>
    obtain ⟨rfl, rfl, hbc, G, u, rfl, hG, hrow, hs⟩ := hcut
    have HB := Lib.hid hbc
    have HR := Lib.hid (And.intro hrow hs)
    clear hbc hrow hs
    go_wp2_with fail
    go_loopw [110] (fun i wr => ∃ j : Nat, j ≤ 8 ∧ i = .int .i64 j ∧ Hid (Below wc.heap.size wc wr)) (fun i _ => 8 - (intOf i).toNat)
    case atStart => exact ⟨0, by decide, rfl, Below.refl _ _⟩
    case round =>
      obtain ⟨j, hj, rfl, hW⟩ := hrel
      by_cases hlt : j < 8
      · obtain ⟨A, n, c, L, hcell, hLn, hnc, hR, hbad, hn16⟩ := eight_at HR.out.1 HR.out.2 hW.out hlt
        have HLn := Lib.hid hLn
        have HRd := Lib.hid hR
        have HBad := Lib.hid hbad
        clear hLn hR hbad
        go_wp2_with fail
        refine (verPart_any HLn.out c HRd.out hnc (by omega) 0 false [] (by rw [if_neg HBad.out]) (by rw [decide_eq_false HBad.out]) (by rw [if_neg HBad.out])).mono ?_
        rintro e w_p ⟨rv, rfl, hvv, hbb⟩
        obtain ⟨A_p, c_p, rfl, hc_p, hm_p, _⟩ := hvv.sliceN (n := 0) rfl
        have BP := Lib.hid (bthen hW.out hbb)
        clear hvv hbb
        go_wp2_with fail
        go_roundw
        case rel => exact ⟨j + 1, by omega, by go_num, BP.out⟩
        case measure => simp [intOf]; omega
      · obtain rfl : j = 8 := by omega
        go_wp2_with fail
        refine (awake13_any _).mono ?_
        rintro e w_z ⟨rfl, hbb⟩
        have BZ := Lib.hid hbb
        clear hbb
        go_wp2_with fail
        go_ret
        exact ⟨rfl, bthen (bthen (bthen (bthen (balloc (balloc (balloc (bthen (balloc (balloc (bthen (balloc (bthen (balloc (balloc (bthen (balloc (Below.refl _ _) _) B_a.out) _) _) B_b.out) _) B_c.out) _) _) B_d.out) _) _) _) B_e.out) HB.out) hW.out) BZ.out⟩
end Go.Proofs.Ytjenedfpjpiknaa.Y
