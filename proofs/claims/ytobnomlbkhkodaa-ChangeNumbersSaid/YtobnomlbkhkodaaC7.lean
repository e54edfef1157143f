/-
  Rows of pieces that are read; change.Size, chancerylow.SamePieces, chancerylow.CopyPieces.
-/
import Derived.Test.YtobnomlbkhkodaaC6
set_option linter.unusedVariables false
set_option linter.unusedSimpArgs false
namespace Go.Proofs.Ytobnomlbkhkodaa.Y
open Go.RowKit
attribute [local go_sem ↓] Go.wp_at_zero Go.wp_at_succ

/-- A piece that can be. -/
structure Pok (p : Int × List UInt8) : Prop where
  len : p.2.length ≤ 140737488351232
  lo : -9223372036854775808 ≤ p.1
  hi : p.1 ≤ 9223372036854775807
/-- At this address these pieces stand, and their bytes can be read. -/
def RdP (w : World) (A : Option Addr) (L : List (Int × List UInt8)) : Prop :=
  L = [] ∨ ∃ b o, A = some ⟨b, o, none⟩ ∧ ∀ (i : Nat) p, L[i]? = some p → w.cell? ⟨b, o + i * 2, none⟩ = some (.int .i64 p.1) ∧ ∃ C c, w.cell? ⟨b, o + i * 2 + 1, none⟩ = some (.slice C p.2.length c) ∧ p.2.length ≤ c ∧ Pok p ∧ Rd w C p.2
theorem RdP.nil (w : World) (A : Option Addr) : RdP w A [] := .inl rfl
theorem RdP.below {w w1 : World} {A : Option Addr} {L : List (Int × List UInt8)} (h : RdP w A L) (hb : Below w.heap.size w w1) : RdP w1 A L := by
  rcases h with h | ⟨b, o, e, hc⟩
  · exact .inl h
  · refine .inr ⟨b, o, e, fun i p hp => ?_⟩
    obtain ⟨h1, C, c, h2, h3, h4, h5⟩ := hc i p hp
    exact ⟨(hb.cell (World.block_lt_of_cell? w _ h1)).trans h1, C, c, (hb.cell (World.block_lt_of_cell? w _ h2)).trans h2, h3, h4, h5.below hb⟩
theorem RdP.drew {w : World} {A : Option Addr} {L : List (Int × List UInt8)} (h : RdP w A L) : RdP w.drew A L := h
theorem RdP.drewN {w : World} {A : Option Addr} {L : List (Int × List UInt8)} (h : RdP w A L) (n : Nat) : RdP (w.drewN n) A L := h
/-- The piece at i. -/
structure PcAt (w : World) (b o i : Nat) (p : Int × List UInt8) (C : Option Addr) (c : Nat) : Prop where
  c0 : w.cell? ⟨b, o + i * 2, none⟩ = some (.int .i64 p.1)
  c1 : w.cell? ⟨b, o + i * 2 + 1, none⟩ = some (.slice C p.2.length c)
  fit : p.2.length ≤ c
  ok : Pok p
  rd : Rd w C p.2
theorem RdP.at_ {w : World} {A : Option Addr} {L : List (Int × List UInt8)} (h : RdP w A L) {i : Nat} (hi : i < L.length) : ∃ b o C c, A = some ⟨b, o, none⟩ ∧ PcAt w b o i L[i] C c := by
  rcases h with rfl | ⟨b, o, e, hc⟩
  · simp at hi
  · obtain ⟨h1, C, c, h2, h3, h4, h5⟩ := hc i L[i] (List.getElem?_eq_getElem hi)
    exact ⟨b, o, C, c, e, h1, h2, h3, h4, h5⟩
theorem RdP.ad {w : World} {A : Option Addr} {L : List (Int × List UInt8)} (h : RdP w A L) (hL : 0 < L.length) : ∃ b o, A = some ⟨b, o, none⟩ := by
  obtain ⟨b, o, _, _, e, _⟩ := h.at_ hL
  exact ⟨b, o, e⟩
theorem RdP.at' {w : World} {b o : Nat} {L : List (Int × List UInt8)} (h : RdP w (some ⟨b, o, none⟩) L) {i : Nat} (hi : i < L.length) : ∃ C c, PcAt w b o i L[i] C c := by
  obtain ⟨b', o', C, c, e, k⟩ := h.at_ hi
  injection e with e
  injection e with e1 e2
  subst e1; subst e2
  exact ⟨C, c, k⟩
theorem Pcs.rd {w : World} {B : Nat} {A : Option Addr} {n c : Nat} {L : List (Int × List UInt8)} (h : Pcs w B (.slice A n c) L) (hbd : ∀ p ∈ L, Pok p) : RdP w A L ∧ L.length = n := by
  obtain ⟨qs, h1, h2, h3⟩ := h
  rcases h2.2 with ⟨e, h0⟩ | ⟨g, cap, cur, e, _, hh, hn, hm, hcs, ht⟩
  · injection e with e1 e2 e3
    have : L = [] := List.eq_nil_of_length_eq_zero (by omega)
    subst this
    exact ⟨.inl rfl, by simp [e2]⟩
  · injection e with e1 e2 e3
    refine ⟨.inr ⟨g, 0, e1, fun i p hp => ?_⟩, by omega⟩
    have hiL : i < qs.length := by rw [h1]; exact (List.getElem?_eq_some_iff.1 hp).1
    have hq := List.getElem?_eq_getElem hiL
    obtain ⟨k1, k2⟩ := h3 i _ p hq hp
    obtain ⟨C, c', k3, k4, k5, k6⟩ := k2.slice
    have cell : ∀ j u, (qs.flatMap pcell)[j]? = some u → w.cell? ⟨g, j, none⟩ = some u := fun j u hu => by
      have := World.ownsRow.cells h2 (g := g) (by rw [e1, e2, e3]; rfl) j u hu
      rwa [add_plain, Nat.zero_add] at this
    have fm : ∀ (qs : List (Int × Value)) (i : Nat) (q : Int × Value), qs[i]? = some q → (qs.flatMap pcell)[i * 2]? = some (.int .i64 q.1) ∧ (qs.flatMap pcell)[i * 2 + 1]? = some q.2 := by
      intro qs
      induction qs with
      | nil => intro i q h; simp at h
      | cons a qs ih =>
        intro i q h
        cases i with
        | zero => simp at h; subst h; simp [pcell]
        | succ i =>
          have := ih i q (by simpa using h)
          rw [show (i + 1) * 2 = i * 2 + 1 + 1 from by omega, show i * 2 + 1 + 1 + 1 = (i * 2 + 1) + 1 + 1 from rfl]
          simpa [pcell] using this
    obtain ⟨f0, f1⟩ := fm qs i _ hq
    refine ⟨?_, C, c', ?_, k4, hbd p (List.mem_of_getElem? hp), k6⟩
    · rw [Nat.zero_add, cell _ _ f0, k1]
    · rw [Nat.zero_add, cell _ _ f1, k3]
/-- A slice of pieces that can be read. -/
theorem Pcs.sl {w : World} {B : Nat} {v : Value} {L : List (Int × List UInt8)} (h : Pcs w B v L) (hbd : ∀ p ∈ L, Pok p) : ∃ A c, v = .slice A L.length c ∧ RdP w A L := by
  obtain ⟨A, c, rfl⟩ := h.slice
  exact ⟨A, c, rfl, (h.rd hbd).1⟩

theorem sizeL_take {L : List (Int × List UInt8)} {k : Nat} (h : k < L.length) : sizeL (L.take (k + 1)) = sizeL (L.take k) + (4 + (L[k]).2.length) := by
  unfold sizeL
  rw [List.take_succ_eq_append_getElem h, List.map_append, List.sum_append]
  simp only [List.map_cons, List.map_nil, List.sum_cons, List.sum_nil, Nat.add_zero]
theorem wrap_add (a b : Int) : wrap64 (wrap64 a + b) = wrap64 (a + b) := by
  unfold wrap64
  omega
def sizeW (L : List (Int × List UInt8)) : Int := wrap64 (sizeL L : Int)
theorem sizeW_nil : sizeW [] = 0 := by unfold sizeW sizeL wrap64; simp
theorem sizeW_take {L : List (Int × List UInt8)} {k : Nat} (h : k < L.length) : wrap64 (sizeW (L.take k) + (4 + ((L[k]).2.length : Int))) = sizeW (L.take (k + 1)) := by
  unfold sizeW
  rw [wrap_add, sizeL_take h]
  congr 1
set_option maxHeartbeats 800000 in
theorem size_any {w : World} {A : Option Addr} {L : List (Int × List UInt8)} {l : Nat} (hL : L.length = l) (c : Nat) (hA : RdP w A L) (hl : l ≤ 140737488555328) :
    Calls Try.prog 22 #[.slice A l c] w fun e w' => e = .returned (.int .i64 (sizeW L)) ∧ Below w.heap.size w w' := by
  have HL := Lib.hid hL
  have HA := Lib.hid hA
  clear hL hA
  go_enter Try.func22, Try.ntmps22
  go_wp2
  go_loopw [3, 8] (fun t i wr => ∃ k : Nat, k ≤ l ∧ i = .int .i64 k ∧ t = .int .i64 (sizeW (L.take k)) ∧ Below w.heap.size w wr) (fun _ i _ => l - (intOf i).toNat)
  case atStart => exact ⟨0, Nat.zero_le _, rfl, by rw [List.take_zero, sizeW_nil], Below.refl _ _⟩
  case round =>
    obtain ⟨k, hk, rfl, rfl, hb⟩ := hrel
    by_cases hlt : k < l
    · obtain ⟨b, o, C, d, rfl, hp⟩ := (HA.out.below hb).at_ (i := k) (by rw [HL.out]; exact hlt)
      have p0 := hp.c0
      have p1 := hp.c1
      have q1 := hp.ok.len
      have st := Lib.hid (sizeW_take (L := L) (k := k) (by rw [HL.out]; exact hlt))
      obtain ⟨P, hP⟩ : ∃ P, P = L[k]'(by rw [HL.out]; exact hlt) := ⟨_, rfl⟩
      rw [← hP] at p0 p1 q1 st
      clear hP hp
      obtain ⟨m, hm⟩ : ∃ m, m = P.2.length := ⟨_, rfl⟩
      obtain ⟨a, ha⟩ : ∃ a, a = P.1 := ⟨_, rfl⟩
      rw [← hm] at p1 q1 st
      rw [← ha] at p0
      clear hm ha
      obtain ⟨t, ht⟩ : ∃ t, t = sizeW (L.take k) := ⟨_, rfl⟩
      rw [← ht] at st ⊢
      clear ht
      go_wp2
      all_goals
        go_roundw
        case rel => exact ⟨k + 1, by omega, by go_num, by rw [← st.out], balloc hb _⟩
        case measure => simp [intOf]; omega
    · obtain rfl : k = l := by omega
      go_wp2
      go_ret
      exact ⟨by have := HL.out; rw [List.take_of_length_le (by omega)]; rfl, hb⟩
/-- Are pieces the same? -/
def sameP (L M : List (Int × List UInt8)) : Bool := decide (L = M)
theorem sameP_iff {L M : List (Int × List UInt8)} : sameP L M = true ↔ L = M := by simp [sameP]
theorem sameP_self (L : List (Int × List UInt8)) : sameP L L = true := by simp [sameP]
theorem sameP_not {L M : List (Int × List UInt8)} : sameP L M = false ↔ L ≠ M := by simp [sameP]
theorem samePieces_len {w : World} {A A2 : Option Addr} {L M : List (Int × List UInt8)} {l m : Nat} (hL : L.length = l) (hM : M.length = m) (c c2 : Nat) (hne : l ≠ m) :
    Calls Try.prog 17 #[.slice A l c, .slice A2 m c2] w fun e w' => e = .returned (.bool (sameP L M)) ∧ Below w.heap.size w w' := by
  have hs : sameP L M = false := sameP_not.2 (by intro e; subst e; omega)
  rw [hs]
  have hq : ((l : Int) != (m : Int)) = true := by rw [bne_iff_ne]; omega
  have hq2 : (l != m) = true := by rw [bne_iff_ne]; omega
  clear hs hL hM hne
  go_enter Try.func17, Try.ntmps17
  go_wp2
  go_ret
  exact ⟨rfl, Below.refl _ _⟩
set_option maxHeartbeats 3200000 in
theorem samePieces_eqlen {w : World} {A A2 : Option Addr} {L M : List (Int × List UInt8)} {l : Nat} (hL : L.length = l) (hM : M.length = l) (c c2 : Nat) (hA : RdP w A L) (hA2 : RdP w A2 M) (hl : l ≤ 140737488555328) :
    Calls Try.prog 17 #[.slice A l c, .slice A2 l c2] w fun e w' => e = .returned (.bool (sameP L M)) ∧ Below w.heap.size w w' := by
  have HL := Lib.hid hL
  have HM := Lib.hid hM
  have HA := Lib.hid hA
  have HA2 := Lib.hid hA2
  have hq : ((l : Int) != (l : Int)) = false := by simp
  have hq2 : (l != l) = false := by simp
  clear hL hA hM hA2
  go_enter Try.func17, Try.ntmps17
  go_wp2
  go_loopw [5] (fun i wr => ∃ k n : Nat, k ≤ l ∧ i = .int .i64 k ∧ Hid (L.take k = M.take k) ∧ wr = w.drewN n) (fun i _ => l - (intOf i).toNat)
  case atStart => exact ⟨0, 0, Nat.zero_le _, rfl, rfl, rfl⟩
  case round =>
    obtain ⟨k, n, hk, rfl, htk, rfl⟩ := hrel
    by_cases hlt : k < l
    · obtain ⟨b, o, C, d, rfl, hp⟩ := HA.out.at_ (i := k) (by rw [HL.out]; exact hlt)
      obtain ⟨b2, o2, C2, d2, rfl, hr⟩ := HA2.out.at_ (i := k) (by rw [HM.out]; exact hlt)
      have t1 := Lib.hid (List.take_succ_eq_append_getElem (l := L) (i := k) (by rw [HL.out]; exact hlt))
      have t2 := Lib.hid (List.take_succ_eq_append_getElem (l := M) (i := k) (by rw [HM.out]; exact hlt))
      have gL := Lib.hid (List.getElem?_eq_getElem (l := L) (i := k) (by rw [HL.out]; exact hlt))
      have gM := Lib.hid (List.getElem?_eq_getElem (l := M) (i := k) (by rw [HM.out]; exact hlt))
      generalize L[k]'(by rw [HL.out]; exact hlt) = P at *
      generalize M[k]'(by rw [HM.out]; exact hlt) = R at *
      obtain ⟨a, X⟩ := P
      obtain ⟨a2, X2⟩ := R
      have p0 := hp.c0
      have p1 := hp.c1
      have r0 := hr.c0
      have r1 := hr.c1
      have R1 := Lib.hid hp.rd
      have R2 := Lib.hid hr.rd
      clear hp hr
      dsimp only at p0 p1 r0 r1 R1 R2
      obtain ⟨m, hm⟩ : ∃ m, m = X.length := ⟨_, rfl⟩
      obtain ⟨m2, hm2⟩ : ∃ m, m = X2.length := ⟨_, rfl⟩
      rw [← hm] at p1
      rw [← hm2] at r1
      have kk0 : (0 : Int) ≤ (k : Int) := by omega
      have kk1 : (k : Int) < (l : Int) := by omega
      have ks : IntKind.i64.wrap ((k : Int) + 1) = (k : Int) + 1 := by rw [IntKind.wrap_i64]; omega
      replace p0 : (w.drewN n).cell? ⟨b, o + k * 2, none⟩ = _ := p0
      replace p1 : (w.drewN n).cell? ⟨b, o + k * 2 + 1, none⟩ = _ := p1
      replace r0 : (w.drewN n).cell? ⟨b2, o2 + k * 2, none⟩ = _ := r0
      replace r1 : (w.drewN n).cell? ⟨b2, o2 + k * 2 + 1, none⟩ = _ := r1
      by_cases ha : a = a2
      · by_cases hX : X = X2
        · have he := eqB_iff.2 hX
          have hd : (a != a2) = false := by simp [ha]
          have hs : Hid (L.take (k + 1) = M.take (k + 1)) := by show _ = _; rw [t1.out, t2.out, htk.out, ha, hX]
          have HM1 := Lib.hid hm
          have HM2 := Lib.hid hm2
          clear ha hX hm hm2
          go_wp2
          refine wp_region_held_drew (S := (fun w' : World => w'.cell? ⟨b, o + k * 2, none⟩ = some (.int .i64 a) ∧ w'.cell? ⟨b, o + k * 2 + 1, none⟩ = some (.slice C m d) ∧ w'.cell? ⟨b2, o2 + k * 2, none⟩ = some (.int .i64 a2) ∧ w'.cell? ⟨b2, o2 + k * 2 + 1, none⟩ = some (.slice C2 m2 d2))) (by kernel_rfl) (⟨p0, p1, r0, r1⟩) (fun hHeld => ?_)
          refine take_op (i := 0) 17 (v := ?_) rfl rfl (by kernel_rfl) (by kernel_rfl) (by kernel_rfl) (fun _ _ _ h => h) (Or.inl ⟨by rfl, ?_⟩) (by assumption) ?_
          rotate_left
          · (intro w hSw; (try dsimp only at hSw); first | (go_simp; done) | (go_simp; with_reducible rfl))
          try simp only [Act.put, List.setIfInBounds_toArray, List.set_cons_zero, List.set_cons_succ]
          refine take_op (i := 1) 18 (v := ?_) rfl rfl (by kernel_rfl) (by kernel_rfl) (by kernel_rfl) (fun _ _ _ h => h) (Or.inl ⟨by rfl, ?_⟩) (by assumption) ?_
          rotate_left
          · (intro w hSw; (try dsimp only at hSw); first | (go_simp; done) | (go_simp; with_reducible rfl))
          try simp only [Act.put, List.setIfInBounds_toArray, List.set_cons_zero, List.set_cons_succ]
          refine take_op (i := 2) 19 (v := ?_) rfl rfl (by kernel_rfl) (by kernel_rfl) (by kernel_rfl) (fun _ _ _ h => h) (Or.inl ⟨by rfl, ?_⟩) (by assumption) ?_
          rotate_left
          · (intro w hSw; (try dsimp only at hSw); first | (go_simp; done) | (go_simp; with_reducible rfl))
          try simp only [Act.put, List.setIfInBounds_toArray, List.set_cons_zero, List.set_cons_succ]
          refine take_op (i := 3) 20 (v := ?_) rfl rfl (by kernel_rfl) (by kernel_rfl) (by kernel_rfl) (fun _ _ _ h => h) (Or.inl ⟨by rfl, ?_⟩) (by assumption) ?_
          rotate_left
          · (intro w hSw; (try dsimp only at hSw); first | (go_simp; done) | (go_simp; with_reducible rfl))
          try simp only [Act.put, List.setIfInBounds_toArray, List.set_cons_zero, List.set_cons_succ]
          refine take_op (i := 4) 21 (v := ?_) rfl rfl (by kernel_rfl) (by kernel_rfl) (by kernel_rfl) (fun _ _ _ h => h) (Or.inl ⟨by rfl, ?_⟩) (by assumption) ?_
          rotate_left
          · (intro w hSw; (try dsimp only at hSw); first | (go_simp; done) | (go_simp; with_reducible rfl))
          try simp only [Act.put, List.setIfInBounds_toArray, List.set_cons_zero, List.set_cons_succ]
          refine take_op (i := 5) 22 (v := ?_) rfl rfl (by kernel_rfl) (by kernel_rfl) (by kernel_rfl) (fun _ _ _ h => h) (Or.inl ⟨by rfl, ?_⟩) (by assumption) ?_
          rotate_left
          · (intro w hSw; (try dsimp only at hSw); first | (go_simp; done) | (go_simp; with_reducible rfl))
          try simp only [Act.put, List.setIfInBounds_toArray, List.set_cons_zero, List.set_cons_succ]
          refine take_op (i := 6) 23 (v := ?_) rfl rfl (by kernel_rfl) (by kernel_rfl) (by kernel_rfl) (fun _ _ _ h => h) (Or.inl ⟨by rfl, ?_⟩) (by assumption) ?_
          rotate_left
          · (intro w hSw; (try dsimp only at hSw); first | (go_simp; done) | (go_simp; with_reducible rfl))
          try simp only [Act.put, List.setIfInBounds_toArray, List.set_cons_zero, List.set_cons_succ]
          refine take_op (i := 7) 24 (v := ?_) rfl rfl (by kernel_rfl) (by kernel_rfl) (by kernel_rfl) (fun _ _ _ h => h) (Or.inl ⟨by rfl, ?_⟩) (by assumption) ?_
          rotate_left
          · (intro w hSw; (try dsimp only at hSw); first | (go_simp; done) | (go_simp; with_reducible rfl))
          try simp only [Act.put, List.setIfInBounds_toArray, List.set_cons_zero, List.set_cons_succ]
          refine take_op (i := 8) 25 (v := ?_) rfl rfl (by kernel_rfl) (by kernel_rfl) (by kernel_rfl) (fun _ _ _ h => h) (Or.inl ⟨by rfl, ?_⟩) (by assumption) ?_
          rotate_left
          · (intro w hSw; (try dsimp only at hSw); first | (go_simp; done) | (go_simp; with_reducible rfl))
          try simp only [Act.put, List.setIfInBounds_toArray, List.set_cons_zero, List.set_cons_succ]
          refine take_op (i := 9) 26 (v := ?_) rfl rfl (by kernel_rfl) (by kernel_rfl) (by kernel_rfl) (fun _ _ _ h => h) (Or.inl ⟨by rfl, ?_⟩) (by assumption) ?_
          rotate_left
          · (intro w hSw; (try dsimp only at hSw); first | (go_simp; done) | (go_simp; with_reducible rfl))
          try simp only [Act.put, List.setIfInBounds_toArray, List.set_cons_zero, List.set_cons_succ]
          refine take_op (i := 10) 27 (v := ?_) rfl rfl (by kernel_rfl) (by kernel_rfl) (by kernel_rfl) (fun _ _ _ h => h) (Or.inl ⟨by rfl, ?_⟩) (by assumption) ?_
          rotate_left
          · (intro w hSw; (try dsimp only at hSw); first | (go_simp; done) | (go_simp; with_reducible rfl))
          try simp only [Act.put, List.setIfInBounds_toArray, List.set_cons_zero, List.set_cons_succ]
          refine take_op (i := 11) 28 (v := ?_) rfl rfl (by kernel_rfl) (by kernel_rfl) (by kernel_rfl) (fun _ _ _ h => h) (Or.inl ⟨by rfl, ?_⟩) (by assumption) ?_
          rotate_left
          · (intro w hSw; (try dsimp only at hSw); first | (go_simp; done) | (go_simp; with_reducible rfl))
          try simp only [Act.put, List.setIfInBounds_toArray, List.set_cons_zero, List.set_cons_succ]
          refine take_op (i := 12) 29 (v := ?_) rfl rfl (by kernel_rfl) (by kernel_rfl) (by kernel_rfl) (fun _ _ _ h => h) (Or.inl ⟨by rfl, ?_⟩) (by assumption) ?_
          rotate_left
          · (intro w hSw; (try dsimp only at hSw); first | (go_simp; done) | (go_simp; with_reducible rfl))
          try simp only [Act.put, List.setIfInBounds_toArray, List.set_cons_zero, List.set_cons_succ]
          refine take_op (i := 13) 30 (v := ?_) rfl rfl (by kernel_rfl) (by kernel_rfl) (by kernel_rfl) (fun _ _ _ h => h) (Or.inl ⟨by rfl, ?_⟩) (by assumption) ?_
          rotate_left
          · (intro w hSw; (try dsimp only at hSw); first | (go_simp; done) | (go_simp; with_reducible rfl))
          try simp only [Act.put, List.setIfInBounds_toArray, List.set_cons_zero, List.set_cons_succ]
          refine take_op (i := 14) 31 (v := ?_) rfl rfl (by kernel_rfl) (by kernel_rfl) (by kernel_rfl) (fun _ _ _ h => h) (Or.inl ⟨by rfl, ?_⟩) (by assumption) ?_
          rotate_left
          · (intro w hSw; (try dsimp only at hSw); first | (go_simp; done) | (go_simp; with_reducible rfl))
          try simp only [Act.put, List.setIfInBounds_toArray, List.set_cons_zero, List.set_cons_succ]
          refine take_op (i := 15) 32 (v := ?_) rfl rfl (by kernel_rfl) (by kernel_rfl) (by kernel_rfl) (fun _ _ _ h => h) (Or.inl ⟨by rfl, ?_⟩) (by assumption) ?_
          rotate_left
          · (intro w hSw; (try dsimp only at hSw); first | (go_simp; done) | (go_simp; with_reducible rfl))
          try simp only [Act.put, List.setIfInBounds_toArray, List.set_cons_zero, List.set_cons_succ]
          refine take_op (i := 16) 33 (v := ?_) rfl rfl (by kernel_rfl) (by kernel_rfl) (by kernel_rfl) (fun _ _ _ h => h) (Or.inl ⟨by rfl, ?_⟩) (by assumption) ?_
          rotate_left
          · (intro w hSw; (try dsimp only at hSw); first | (go_simp; done) | (go_simp; with_reducible rfl))
          try simp only [Act.put, List.setIfInBounds_toArray, List.set_cons_zero, List.set_cons_succ]
          refine take_op (i := 17) 34 (v := ?_) rfl rfl (by kernel_rfl) (by kernel_rfl) (by kernel_rfl) (fun _ _ _ h => h) (Or.inl ⟨by rfl, ?_⟩) (by assumption) ?_
          rotate_left
          · (intro w hSw; (try dsimp only at hSw); first | (go_simp; done) | (go_simp; with_reducible rfl))
          try simp only [Act.put, List.setIfInBounds_toArray, List.set_cons_zero, List.set_cons_succ]
          refine take_op (i := 18) 35 (v := ?_) rfl rfl (by kernel_rfl) (by kernel_rfl) (by kernel_rfl) (fun _ _ _ h => h) (Or.inl ⟨by rfl, ?_⟩) (by assumption) ?_
          rotate_left
          · (intro w hSw; (try dsimp only at hSw); first | (go_simp; done) | (go_simp; with_reducible rfl))
          try simp only [Act.put, List.setIfInBounds_toArray, List.set_cons_zero, List.set_cons_succ]
          refine take_op (i := 19) 36 (v := ?_) rfl rfl (by kernel_rfl) (by kernel_rfl) (by kernel_rfl) (fun _ _ _ h => h) (Or.inl ⟨by rfl, ?_⟩) (by assumption) ?_
          rotate_left
          · (intro w hSw; (try dsimp only at hSw); first | (go_simp; done) | (go_simp; with_reducible rfl))
          try simp only [Act.put, List.setIfInBounds_toArray, List.set_cons_zero, List.set_cons_succ]
          refine take_op (i := 20) 37 (v := ?_) rfl rfl (by kernel_rfl) (by kernel_rfl) (by kernel_rfl) (fun _ _ _ h => h) (Or.inl ⟨by rfl, ?_⟩) (by assumption) ?_
          rotate_left
          · (intro w hSw; (try dsimp only at hSw); first | (go_simp; done) | (go_simp; with_reducible rfl))
          try simp only [Act.put, List.setIfInBounds_toArray, List.set_cons_zero, List.set_cons_succ]
          refine take_op (i := 21) 38 (v := ?_) rfl rfl (by kernel_rfl) (by kernel_rfl) (by kernel_rfl) (fun _ _ _ h => h) (Or.inl ⟨by rfl, ?_⟩) (by assumption) ?_
          rotate_left
          · (intro w hSw; (try dsimp only at hSw); first | (go_simp; done) | (go_simp; with_reducible rfl))
          try simp only [Act.put, List.setIfInBounds_toArray, List.set_cons_zero, List.set_cons_succ]
          refine ready_one 22 (by kernel_rfl) rfl (fun K hK => ?_)
          (go_simp; go_at_call 18; refine (sameBytes_any HM1.out.symm HM2.out.symm _ _ (show Rd (w.drewN n).drew C X from R1.out) (show Rd (w.drewN n).drew C2 X2 from R2.out)).mono ?_; rintro e w' ⟨rfl, rfl⟩)
          refine hK.out _ _ ?_ (fun hHeld => ?_)
          · exact ⟨p0, p1, r0, r1⟩
          clear hK K
          try simp only [Act.put, List.setIfInBounds_toArray, List.set_cons_zero, List.set_cons_succ]
          refine take_op (i := 23) 40 (v := ?_) rfl rfl (by kernel_rfl) (by kernel_rfl) (by kernel_rfl) (fun _ _ _ h => h) (Or.inl ⟨by rfl, ?_⟩) (by assumption) ?_
          rotate_left
          · (intro w hSw; (try dsimp only at hSw); first | (go_simp; done) | (go_simp; with_reducible rfl))
          try simp only [Act.put, List.setIfInBounds_toArray, List.set_cons_zero, List.set_cons_succ]
          refine take_op (i := 24) 41 (v := ?_) rfl rfl (by kernel_rfl) (by kernel_rfl) (by kernel_rfl) (fun _ _ _ h => h) (Or.inl ⟨by rfl, ?_⟩) (by assumption) ?_
          rotate_left
          · (intro w hSw; (try dsimp only at hSw); first | (go_simp; done) | (go_simp; with_reducible rfl))
          try simp only [Act.put, List.setIfInBounds_toArray, List.set_cons_zero, List.set_cons_succ]
          refine wpAnyH_done (by kernel_rfl) ?_ _
          go_wp2
          go_roundw
          case rel => exact ⟨k + 1, n + 1, by omega, by go_num, hs, rfl⟩
          case measure => simp [intOf]; omega
        · have he := eqB_not.2 hX
          have hd : (a != a2) = false := by simp [ha]
          have hs : Hid (sameP L M = false) := sameP_not.2 (fun e => hX (by have h1 := gL.out; have h2 := gM.out; rw [e] at h1; rw [h1] at h2; injection h2 with h2; injection h2))
          have HM1 := Lib.hid hm
          have HM2 := Lib.hid hm2
          clear ha hX hm hm2
          go_wp2
          refine wp_region_held_drew (S := (fun w' : World => w'.cell? ⟨b, o + k * 2, none⟩ = some (.int .i64 a) ∧ w'.cell? ⟨b, o + k * 2 + 1, none⟩ = some (.slice C m d) ∧ w'.cell? ⟨b2, o2 + k * 2, none⟩ = some (.int .i64 a2) ∧ w'.cell? ⟨b2, o2 + k * 2 + 1, none⟩ = some (.slice C2 m2 d2))) (by kernel_rfl) (⟨p0, p1, r0, r1⟩) (fun hHeld => ?_)
          refine take_op (i := 0) 17 (v := ?_) rfl rfl (by kernel_rfl) (by kernel_rfl) (by kernel_rfl) (fun _ _ _ h => h) (Or.inl ⟨by rfl, ?_⟩) (by assumption) ?_
          rotate_left
          · (intro w hSw; (try dsimp only at hSw); first | (go_simp; done) | (go_simp; with_reducible rfl))
          try simp only [Act.put, List.setIfInBounds_toArray, List.set_cons_zero, List.set_cons_succ]
          refine take_op (i := 1) 18 (v := ?_) rfl rfl (by kernel_rfl) (by kernel_rfl) (by kernel_rfl) (fun _ _ _ h => h) (Or.inl ⟨by rfl, ?_⟩) (by assumption) ?_
          rotate_left
          · (intro w hSw; (try dsimp only at hSw); first | (go_simp; done) | (go_simp; with_reducible rfl))
          try simp only [Act.put, List.setIfInBounds_toArray, List.set_cons_zero, List.set_cons_succ]
          refine take_op (i := 2) 19 (v := ?_) rfl rfl (by kernel_rfl) (by kernel_rfl) (by kernel_rfl) (fun _ _ _ h => h) (Or.inl ⟨by rfl, ?_⟩) (by assumption) ?_
          rotate_left
          · (intro w hSw; (try dsimp only at hSw); first | (go_simp; done) | (go_simp; with_reducible rfl))
          try simp only [Act.put, List.setIfInBounds_toArray, List.set_cons_zero, List.set_cons_succ]
          refine take_op (i := 3) 20 (v := ?_) rfl rfl (by kernel_rfl) (by kernel_rfl) (by kernel_rfl) (fun _ _ _ h => h) (Or.inl ⟨by rfl, ?_⟩) (by assumption) ?_
          rotate_left
          · (intro w hSw; (try dsimp only at hSw); first | (go_simp; done) | (go_simp; with_reducible rfl))
          try simp only [Act.put, List.setIfInBounds_toArray, List.set_cons_zero, List.set_cons_succ]
          refine take_op (i := 4) 21 (v := ?_) rfl rfl (by kernel_rfl) (by kernel_rfl) (by kernel_rfl) (fun _ _ _ h => h) (Or.inl ⟨by rfl, ?_⟩) (by assumption) ?_
          rotate_left
          · (intro w hSw; (try dsimp only at hSw); first | (go_simp; done) | (go_simp; with_reducible rfl))
          try simp only [Act.put, List.setIfInBounds_toArray, List.set_cons_zero, List.set_cons_succ]
          refine take_op (i := 5) 22 (v := ?_) rfl rfl (by kernel_rfl) (by kernel_rfl) (by kernel_rfl) (fun _ _ _ h => h) (Or.inl ⟨by rfl, ?_⟩) (by assumption) ?_
          rotate_left
          · (intro w hSw; (try dsimp only at hSw); first | (go_simp; done) | (go_simp; with_reducible rfl))
          try simp only [Act.put, List.setIfInBounds_toArray, List.set_cons_zero, List.set_cons_succ]
          refine take_op (i := 6) 23 (v := ?_) rfl rfl (by kernel_rfl) (by kernel_rfl) (by kernel_rfl) (fun _ _ _ h => h) (Or.inl ⟨by rfl, ?_⟩) (by assumption) ?_
          rotate_left
          · (intro w hSw; (try dsimp only at hSw); first | (go_simp; done) | (go_simp; with_reducible rfl))
          try simp only [Act.put, List.setIfInBounds_toArray, List.set_cons_zero, List.set_cons_succ]
          refine take_op (i := 7) 24 (v := ?_) rfl rfl (by kernel_rfl) (by kernel_rfl) (by kernel_rfl) (fun _ _ _ h => h) (Or.inl ⟨by rfl, ?_⟩) (by assumption) ?_
          rotate_left
          · (intro w hSw; (try dsimp only at hSw); first | (go_simp; done) | (go_simp; with_reducible rfl))
          try simp only [Act.put, List.setIfInBounds_toArray, List.set_cons_zero, List.set_cons_succ]
          refine take_op (i := 8) 25 (v := ?_) rfl rfl (by kernel_rfl) (by kernel_rfl) (by kernel_rfl) (fun _ _ _ h => h) (Or.inl ⟨by rfl, ?_⟩) (by assumption) ?_
          rotate_left
          · (intro w hSw; (try dsimp only at hSw); first | (go_simp; done) | (go_simp; with_reducible rfl))
          try simp only [Act.put, List.setIfInBounds_toArray, List.set_cons_zero, List.set_cons_succ]
          refine take_op (i := 9) 26 (v := ?_) rfl rfl (by kernel_rfl) (by kernel_rfl) (by kernel_rfl) (fun _ _ _ h => h) (Or.inl ⟨by rfl, ?_⟩) (by assumption) ?_
          rotate_left
          · (intro w hSw; (try dsimp only at hSw); first | (go_simp; done) | (go_simp; with_reducible rfl))
          try simp only [Act.put, List.setIfInBounds_toArray, List.set_cons_zero, List.set_cons_succ]
          refine take_op (i := 10) 27 (v := ?_) rfl rfl (by kernel_rfl) (by kernel_rfl) (by kernel_rfl) (fun _ _ _ h => h) (Or.inl ⟨by rfl, ?_⟩) (by assumption) ?_
          rotate_left
          · (intro w hSw; (try dsimp only at hSw); first | (go_simp; done) | (go_simp; with_reducible rfl))
          try simp only [Act.put, List.setIfInBounds_toArray, List.set_cons_zero, List.set_cons_succ]
          refine take_op (i := 11) 28 (v := ?_) rfl rfl (by kernel_rfl) (by kernel_rfl) (by kernel_rfl) (fun _ _ _ h => h) (Or.inl ⟨by rfl, ?_⟩) (by assumption) ?_
          rotate_left
          · (intro w hSw; (try dsimp only at hSw); first | (go_simp; done) | (go_simp; with_reducible rfl))
          try simp only [Act.put, List.setIfInBounds_toArray, List.set_cons_zero, List.set_cons_succ]
          refine take_op (i := 12) 29 (v := ?_) rfl rfl (by kernel_rfl) (by kernel_rfl) (by kernel_rfl) (fun _ _ _ h => h) (Or.inl ⟨by rfl, ?_⟩) (by assumption) ?_
          rotate_left
          · (intro w hSw; (try dsimp only at hSw); first | (go_simp; done) | (go_simp; with_reducible rfl))
          try simp only [Act.put, List.setIfInBounds_toArray, List.set_cons_zero, List.set_cons_succ]
          refine take_op (i := 13) 30 (v := ?_) rfl rfl (by kernel_rfl) (by kernel_rfl) (by kernel_rfl) (fun _ _ _ h => h) (Or.inl ⟨by rfl, ?_⟩) (by assumption) ?_
          rotate_left
          · (intro w hSw; (try dsimp only at hSw); first | (go_simp; done) | (go_simp; with_reducible rfl))
          try simp only [Act.put, List.setIfInBounds_toArray, List.set_cons_zero, List.set_cons_succ]
          refine take_op (i := 14) 31 (v := ?_) rfl rfl (by kernel_rfl) (by kernel_rfl) (by kernel_rfl) (fun _ _ _ h => h) (Or.inl ⟨by rfl, ?_⟩) (by assumption) ?_
          rotate_left
          · (intro w hSw; (try dsimp only at hSw); first | (go_simp; done) | (go_simp; with_reducible rfl))
          try simp only [Act.put, List.setIfInBounds_toArray, List.set_cons_zero, List.set_cons_succ]
          refine take_op (i := 15) 32 (v := ?_) rfl rfl (by kernel_rfl) (by kernel_rfl) (by kernel_rfl) (fun _ _ _ h => h) (Or.inl ⟨by rfl, ?_⟩) (by assumption) ?_
          rotate_left
          · (intro w hSw; (try dsimp only at hSw); first | (go_simp; done) | (go_simp; with_reducible rfl))
          try simp only [Act.put, List.setIfInBounds_toArray, List.set_cons_zero, List.set_cons_succ]
          refine take_op (i := 16) 33 (v := ?_) rfl rfl (by kernel_rfl) (by kernel_rfl) (by kernel_rfl) (fun _ _ _ h => h) (Or.inl ⟨by rfl, ?_⟩) (by assumption) ?_
          rotate_left
          · (intro w hSw; (try dsimp only at hSw); first | (go_simp; done) | (go_simp; with_reducible rfl))
          try simp only [Act.put, List.setIfInBounds_toArray, List.set_cons_zero, List.set_cons_succ]
          refine take_op (i := 17) 34 (v := ?_) rfl rfl (by kernel_rfl) (by kernel_rfl) (by kernel_rfl) (fun _ _ _ h => h) (Or.inl ⟨by rfl, ?_⟩) (by assumption) ?_
          rotate_left
          · (intro w hSw; (try dsimp only at hSw); first | (go_simp; done) | (go_simp; with_reducible rfl))
          try simp only [Act.put, List.setIfInBounds_toArray, List.set_cons_zero, List.set_cons_succ]
          refine take_op (i := 18) 35 (v := ?_) rfl rfl (by kernel_rfl) (by kernel_rfl) (by kernel_rfl) (fun _ _ _ h => h) (Or.inl ⟨by rfl, ?_⟩) (by assumption) ?_
          rotate_left
          · (intro w hSw; (try dsimp only at hSw); first | (go_simp; done) | (go_simp; with_reducible rfl))
          try simp only [Act.put, List.setIfInBounds_toArray, List.set_cons_zero, List.set_cons_succ]
          refine take_op (i := 19) 36 (v := ?_) rfl rfl (by kernel_rfl) (by kernel_rfl) (by kernel_rfl) (fun _ _ _ h => h) (Or.inl ⟨by rfl, ?_⟩) (by assumption) ?_
          rotate_left
          · (intro w hSw; (try dsimp only at hSw); first | (go_simp; done) | (go_simp; with_reducible rfl))
          try simp only [Act.put, List.setIfInBounds_toArray, List.set_cons_zero, List.set_cons_succ]
          refine take_op (i := 20) 37 (v := ?_) rfl rfl (by kernel_rfl) (by kernel_rfl) (by kernel_rfl) (fun _ _ _ h => h) (Or.inl ⟨by rfl, ?_⟩) (by assumption) ?_
          rotate_left
          · (intro w hSw; (try dsimp only at hSw); first | (go_simp; done) | (go_simp; with_reducible rfl))
          try simp only [Act.put, List.setIfInBounds_toArray, List.set_cons_zero, List.set_cons_succ]
          refine take_op (i := 21) 38 (v := ?_) rfl rfl (by kernel_rfl) (by kernel_rfl) (by kernel_rfl) (fun _ _ _ h => h) (Or.inl ⟨by rfl, ?_⟩) (by assumption) ?_
          rotate_left
          · (intro w hSw; (try dsimp only at hSw); first | (go_simp; done) | (go_simp; with_reducible rfl))
          try simp only [Act.put, List.setIfInBounds_toArray, List.set_cons_zero, List.set_cons_succ]
          refine ready_one 22 (by kernel_rfl) rfl (fun K hK => ?_)
          (go_simp; go_at_call 18; refine (sameBytes_any HM1.out.symm HM2.out.symm _ _ (show Rd (w.drewN n).drew C X from R1.out) (show Rd (w.drewN n).drew C2 X2 from R2.out)).mono ?_; rintro e w' ⟨rfl, rfl⟩)
          refine hK.out _ _ ?_ (fun hHeld => ?_)
          · exact ⟨p0, p1, r0, r1⟩
          clear hK K
          try simp only [Act.put, List.setIfInBounds_toArray, List.set_cons_zero, List.set_cons_succ]
          refine take_op (i := 23) 40 (v := ?_) rfl rfl (by kernel_rfl) (by kernel_rfl) (by kernel_rfl) (fun _ _ _ h => h) (Or.inl ⟨by rfl, ?_⟩) (by assumption) ?_
          rotate_left
          · (intro w hSw; (try dsimp only at hSw); first | (go_simp; done) | (go_simp; with_reducible rfl))
          try simp only [Act.put, List.setIfInBounds_toArray, List.set_cons_zero, List.set_cons_succ]
          refine take_op (i := 24) 41 (v := ?_) rfl rfl (by kernel_rfl) (by kernel_rfl) (by kernel_rfl) (fun _ _ _ h => h) (Or.inl ⟨by rfl, ?_⟩) (by assumption) ?_
          rotate_left
          · (intro w hSw; (try dsimp only at hSw); first | (go_simp; done) | (go_simp; with_reducible rfl))
          try simp only [Act.put, List.setIfInBounds_toArray, List.set_cons_zero, List.set_cons_succ]
          refine wpAnyH_done (by kernel_rfl) ?_ _
          go_wp2
          go_ret
          exact ⟨by rw [hs.out]; rfl, bdrewN (Below.refl _ _) (n + 1)⟩
      · have hd : (a != a2) = true := by simp [ha]
        have hs : Hid (sameP L M = false) := sameP_not.2 (fun e => ha (by have h1 := gL.out; have h2 := gM.out; rw [e] at h1; rw [h1] at h2; injection h2 with h2; injection h2))
        clear ha hm hm2
        go_wp2
        refine wp_region_held_drew (S := (fun w' : World => w'.cell? ⟨b, o + k * 2, none⟩ = some (.int .i64 a) ∧ w'.cell? ⟨b, o + k * 2 + 1, none⟩ = some (.slice C m d) ∧ w'.cell? ⟨b2, o2 + k * 2, none⟩ = some (.int .i64 a2) ∧ w'.cell? ⟨b2, o2 + k * 2 + 1, none⟩ = some (.slice C2 m2 d2))) (by kernel_rfl) (⟨p0, p1, r0, r1⟩) (fun hHeld => ?_)
        refine take_op (i := 0) 17 (v := ?_) rfl rfl (by kernel_rfl) (by kernel_rfl) (by kernel_rfl) (fun _ _ _ h => h) (Or.inl ⟨by rfl, ?_⟩) (by assumption) ?_
        rotate_left
        · (intro w hSw; (try dsimp only at hSw); first | (go_simp; done) | (go_simp; with_reducible rfl))
        try simp only [Act.put, List.setIfInBounds_toArray, List.set_cons_zero, List.set_cons_succ]
        refine take_op (i := 1) 18 (v := ?_) rfl rfl (by kernel_rfl) (by kernel_rfl) (by kernel_rfl) (fun _ _ _ h => h) (Or.inl ⟨by rfl, ?_⟩) (by assumption) ?_
        rotate_left
        · (intro w hSw; (try dsimp only at hSw); first | (go_simp; done) | (go_simp; with_reducible rfl))
        try simp only [Act.put, List.setIfInBounds_toArray, List.set_cons_zero, List.set_cons_succ]
        refine take_op (i := 2) 19 (v := ?_) rfl rfl (by kernel_rfl) (by kernel_rfl) (by kernel_rfl) (fun _ _ _ h => h) (Or.inl ⟨by rfl, ?_⟩) (by assumption) ?_
        rotate_left
        · (intro w hSw; (try dsimp only at hSw); first | (go_simp; done) | (go_simp; with_reducible rfl))
        try simp only [Act.put, List.setIfInBounds_toArray, List.set_cons_zero, List.set_cons_succ]
        refine take_op (i := 3) 20 (v := ?_) rfl rfl (by kernel_rfl) (by kernel_rfl) (by kernel_rfl) (fun _ _ _ h => h) (Or.inl ⟨by rfl, ?_⟩) (by assumption) ?_
        rotate_left
        · (intro w hSw; (try dsimp only at hSw); first | (go_simp; done) | (go_simp; with_reducible rfl))
        try simp only [Act.put, List.setIfInBounds_toArray, List.set_cons_zero, List.set_cons_succ]
        refine take_op (i := 4) 21 (v := ?_) rfl rfl (by kernel_rfl) (by kernel_rfl) (by kernel_rfl) (fun _ _ _ h => h) (Or.inl ⟨by rfl, ?_⟩) (by assumption) ?_
        rotate_left
        · (intro w hSw; (try dsimp only at hSw); first | (go_simp; done) | (go_simp; with_reducible rfl))
        try simp only [Act.put, List.setIfInBounds_toArray, List.set_cons_zero, List.set_cons_succ]
        refine take_op (i := 5) 22 (v := ?_) rfl rfl (by kernel_rfl) (by kernel_rfl) (by kernel_rfl) (fun _ _ _ h => h) (Or.inl ⟨by rfl, ?_⟩) (by assumption) ?_
        rotate_left
        · (intro w hSw; (try dsimp only at hSw); first | (go_simp; done) | (go_simp; with_reducible rfl))
        try simp only [Act.put, List.setIfInBounds_toArray, List.set_cons_zero, List.set_cons_succ]
        refine take_op (i := 6) 23 (v := ?_) rfl rfl (by kernel_rfl) (by kernel_rfl) (by kernel_rfl) (fun _ _ _ h => h) (Or.inl ⟨by rfl, ?_⟩) (by assumption) ?_
        rotate_left
        · (intro w hSw; (try dsimp only at hSw); first | (go_simp; done) | (go_simp; with_reducible rfl))
        try simp only [Act.put, List.setIfInBounds_toArray, List.set_cons_zero, List.set_cons_succ]
        refine take_op (i := 7) 24 (v := ?_) rfl rfl (by kernel_rfl) (by kernel_rfl) (by kernel_rfl) (fun _ _ _ h => h) (Or.inl ⟨by rfl, ?_⟩) (by assumption) ?_
        rotate_left
        · (intro w hSw; (try dsimp only at hSw); first | (go_simp; done) | (go_simp; with_reducible rfl))
        try simp only [Act.put, List.setIfInBounds_toArray, List.set_cons_zero, List.set_cons_succ]
        refine take_op (i := 8) 25 (v := ?_) rfl rfl (by kernel_rfl) (by kernel_rfl) (by kernel_rfl) (fun _ _ _ h => h) (Or.inl ⟨by rfl, ?_⟩) (by assumption) ?_
        rotate_left
        · (intro w hSw; (try dsimp only at hSw); first | (go_simp; done) | (go_simp; with_reducible rfl))
        try simp only [Act.put, List.setIfInBounds_toArray, List.set_cons_zero, List.set_cons_succ]
        refine take_op (i := 9) 26 (v := ?_) rfl rfl (by kernel_rfl) (by kernel_rfl) (by kernel_rfl) (fun _ _ _ h => h) (Or.inl ⟨by rfl, ?_⟩) (by assumption) ?_
        rotate_left
        · (intro w hSw; (try dsimp only at hSw); first | (go_simp; done) | (go_simp; with_reducible rfl))
        try simp only [Act.put, List.setIfInBounds_toArray, List.set_cons_zero, List.set_cons_succ]
        refine take_op (i := 10) 27 (v := ?_) rfl rfl (by kernel_rfl) (by kernel_rfl) (by kernel_rfl) (fun _ _ _ h => h) (Or.inl ⟨by rfl, ?_⟩) (by assumption) ?_
        rotate_left
        · (intro w hSw; (try dsimp only at hSw); first | (go_simp; done) | (go_simp; with_reducible rfl))
        try simp only [Act.put, List.setIfInBounds_toArray, List.set_cons_zero, List.set_cons_succ]
        refine take_op (i := 11) 28 (v := ?_) rfl rfl (by kernel_rfl) (by kernel_rfl) (by kernel_rfl) (fun _ _ _ h => h) (Or.inl ⟨by rfl, ?_⟩) (by assumption) ?_
        rotate_left
        · (intro w hSw; (try dsimp only at hSw); first | (go_simp; done) | (go_simp; with_reducible rfl))
        try simp only [Act.put, List.setIfInBounds_toArray, List.set_cons_zero, List.set_cons_succ]
        refine take_op (i := 12) 29 (v := undef) rfl rfl (by kernel_rfl) (by kernel_rfl) (by kernel_rfl) (fun _ _ _ h => h) (Or.inr ⟨by rfl, rfl⟩) (by assumption) ?_
        try simp only [Act.put, List.setIfInBounds_toArray, List.set_cons_zero, List.set_cons_succ]
        refine take_op (i := 13) 30 (v := undef) rfl rfl (by kernel_rfl) (by kernel_rfl) (by kernel_rfl) (fun _ _ _ h => h) (Or.inr ⟨by rfl, rfl⟩) (by assumption) ?_
        try simp only [Act.put, List.setIfInBounds_toArray, List.set_cons_zero, List.set_cons_succ]
        refine take_op (i := 14) 31 (v := undef) rfl rfl (by kernel_rfl) (by kernel_rfl) (by kernel_rfl) (fun _ _ _ h => h) (Or.inr ⟨by rfl, rfl⟩) (by assumption) ?_
        try simp only [Act.put, List.setIfInBounds_toArray, List.set_cons_zero, List.set_cons_succ]
        refine take_op (i := 15) 32 (v := undef) rfl rfl (by kernel_rfl) (by kernel_rfl) (by kernel_rfl) (fun _ _ _ h => h) (Or.inr ⟨by rfl, rfl⟩) (by assumption) ?_
        try simp only [Act.put, List.setIfInBounds_toArray, List.set_cons_zero, List.set_cons_succ]
        refine take_op (i := 16) 33 (v := undef) rfl rfl (by kernel_rfl) (by kernel_rfl) (by kernel_rfl) (fun _ _ _ h => h) (Or.inr ⟨by rfl, rfl⟩) (by assumption) ?_
        try simp only [Act.put, List.setIfInBounds_toArray, List.set_cons_zero, List.set_cons_succ]
        refine take_op (i := 17) 34 (v := undef) rfl rfl (by kernel_rfl) (by kernel_rfl) (by kernel_rfl) (fun _ _ _ h => h) (Or.inr ⟨by rfl, rfl⟩) (by assumption) ?_
        try simp only [Act.put, List.setIfInBounds_toArray, List.set_cons_zero, List.set_cons_succ]
        refine take_op (i := 18) 35 (v := undef) rfl rfl (by kernel_rfl) (by kernel_rfl) (by kernel_rfl) (fun _ _ _ h => h) (Or.inr ⟨by rfl, rfl⟩) (by assumption) ?_
        try simp only [Act.put, List.setIfInBounds_toArray, List.set_cons_zero, List.set_cons_succ]
        refine take_op (i := 19) 36 (v := undef) rfl rfl (by kernel_rfl) (by kernel_rfl) (by kernel_rfl) (fun _ _ _ h => h) (Or.inr ⟨by rfl, rfl⟩) (by assumption) ?_
        try simp only [Act.put, List.setIfInBounds_toArray, List.set_cons_zero, List.set_cons_succ]
        refine take_op (i := 20) 37 (v := undef) rfl rfl (by kernel_rfl) (by kernel_rfl) (by kernel_rfl) (fun _ _ _ h => h) (Or.inr ⟨by rfl, rfl⟩) (by assumption) ?_
        try simp only [Act.put, List.setIfInBounds_toArray, List.set_cons_zero, List.set_cons_succ]
        refine take_op (i := 21) 38 (v := undef) rfl rfl (by kernel_rfl) (by kernel_rfl) (by kernel_rfl) (fun _ _ _ h => h) (Or.inr ⟨by rfl, rfl⟩) (by assumption) ?_
        try simp only [Act.put, List.setIfInBounds_toArray, List.set_cons_zero, List.set_cons_succ]
        refine take_op (i := 22) 39 (v := undef) rfl rfl (by kernel_rfl) (by kernel_rfl) (by kernel_rfl) (fun _ _ _ h => h) (Or.inr ⟨by rfl, rfl⟩) (by assumption) ?_
        try simp only [Act.put, List.setIfInBounds_toArray, List.set_cons_zero, List.set_cons_succ]
        refine take_op (i := 23) 40 (v := undef) rfl rfl (by kernel_rfl) (by kernel_rfl) (by kernel_rfl) (fun _ _ _ h => h) (Or.inr ⟨by rfl, rfl⟩) (by assumption) ?_
        try simp only [Act.put, List.setIfInBounds_toArray, List.set_cons_zero, List.set_cons_succ]
        refine take_op (i := 24) 41 (v := ?_) rfl rfl (by kernel_rfl) (by kernel_rfl) (by kernel_rfl) (fun _ _ _ h => h) (Or.inl ⟨by rfl, ?_⟩) (by assumption) ?_
        rotate_left
        · (intro w hSw; (try dsimp only at hSw); first | (go_simp; done) | (go_simp; with_reducible rfl))
        try simp only [Act.put, List.setIfInBounds_toArray, List.set_cons_zero, List.set_cons_succ]
        refine wpAnyH_done (by kernel_rfl) ?_ _
        go_wp2
        go_ret
        exact ⟨by rw [hs.out]; rfl, bdrewN (Below.refl _ _) (n + 1)⟩
    · have hs : Hid (sameP L M = true) := sameP_iff.2 (by
        have h1 := htk.out
        rw [List.take_of_length_le (by rw [HL.out]; omega), List.take_of_length_le (by rw [HM.out]; omega)] at h1
        exact h1)
      obtain rfl : k = l := by omega
      go_wp2
      go_ret
      exact ⟨by rw [hs.out]; rfl, bdrewN (Below.refl _ _) n⟩
theorem samePieces_any {w : World} {A A2 : Option Addr} {L M : List (Int × List UInt8)} {l m : Nat} (hL : L.length = l) (hM : M.length = m) (c c2 : Nat) (hA : RdP w A L) (hA2 : RdP w A2 M) (hl : l ≤ 140737488555328) :
    Calls Try.prog 17 #[.slice A l c, .slice A2 m c2] w fun e w' => e = .returned (.bool (sameP L M)) ∧ Below w.heap.size w w' := by
  by_cases h : l = m
  · subst h
    exact samePieces_eqlen hL hM c c2 hA hA2 hl
  · exact samePieces_len hL hM c c2 h
theorem pcs_take {L : List (Int × List UInt8)} {k : Nat} {a : Int} {X : List UInt8} (h : L[k]? = some (a, X)) : L.take (k + 1) = L.take k ++ [(a, X)] := by
  obtain ⟨h1, h2⟩ := List.getElem?_eq_some_iff.1 h
  rw [List.take_succ_eq_append_getElem h1, h2]
theorem pcs_step {W w wr w1 w2 : World} {v : Value} {L : List (Int × List UInt8)} {o : Obj} (hb : Below W.heap.size W wr) (hp : Pcs wr W.heap.size v L) (h1 : Below wr.heap.size wr w1) (hg : (w1.alloc o).grownBy w2 v.ownBlock) :
    Below W.heap.size W w2 := by
  have k1 : Below W.heap.size W (w1.alloc o) := balloc (bthen hb h1) o
  refine k1.grown hg ?_ (fun k e => hp.base k e)
  have := hb.size; have := h1.size; simp; omega
set_option maxHeartbeats 1600000 in
theorem copyPieces_any {w : World} {A : Option Addr} {L : List (Int × List UInt8)} {l : Nat} (hL : L.length = l) (c : Nat) (hA : RdP w A L) (hl : l ≤ 4398046510976) :
    Calls Try.prog 24 #[.slice A l c] w fun e w' => ∃ r, e = .returned r ∧ Pcs w' w.heap.size r L ∧ Below w.heap.size w w' := by
  have HL := Lib.hid hL
  have HA := Lib.hid hA
  clear hL hA
  go_enter Try.func24, Try.ntmps24
  go_wp2
  go_loopw [3, 4] (fun v i wr => ∃ k : Nat, k ≤ l ∧ i = .int .i64 k ∧ Hid (Pcs wr w.heap.size v (L.take k)) ∧ Hid (Below w.heap.size w wr)) (fun _ i _ => l - (intOf i).toNat)
  case atStart => exact ⟨0, Nat.zero_le _, rfl, Pcs.nil _ _, Below.refl _ _⟩
  case round =>
    obtain ⟨k, hk, rfl, hv, hb⟩ := hrel
    by_cases hlt : k < l
    · obtain ⟨b, o, C, d, rfl, hp⟩ := HA.out.at_ (i := k) (by rw [HL.out]; exact hlt)
      have gL := Lib.hid (List.getElem?_eq_getElem (l := L) (i := k) (by rw [HL.out]; exact hlt))
      generalize L[k]'(by rw [HL.out]; exact hlt) = P at *
      obtain ⟨a, X⟩ := P
      have HC := Lib.hid (show w.cell? ⟨b, o + k * 2, none⟩ = some (.int .i64 a) ∧ w.cell? ⟨b, o + k * 2 + 1, none⟩ = some (.slice C X.length d) from ⟨hp.c0, hp.c1⟩)
      have R1 := Lib.hid (hp.rd.below hb.out)
      have hmx := hp.ok.len
      clear hp
      dsimp only at R1 hmx
      obtain ⟨m, hm⟩ : ∃ m, m = X.length := ⟨_, rfl⟩
      rw [← hm] at HC hmx
      have HM := Lib.hid hm
      have hbk : k < L.length := by rw [HL.out]; exact hlt
      clear hm
      obtain ⟨Av, cv, rfl⟩ := hv.out.sliceN (n := k) (by rw [List.length_take]; omega)
      have kk0 : (0 : Int) ≤ (k : Int) := by omega
      have kk1 : (k : Int) < (l : Int) := by omega
      have ks : IntKind.i64.wrap ((k : Int) + 1) = (k : Int) + 1 := by rw [IntKind.wrap_i64]; omega
      have hts := Lib.hid (pcs_take gL.out)
      have keep : ∀ W', Below w.heap.size w W' → W'.cell? ⟨b, o + k * 2, none⟩ = some (.int .i64 a) ∧ W'.cell? ⟨b, o + k * 2 + 1, none⟩ = some (.slice C m d) := fun W' h => ⟨(h.cell (World.block_lt_of_cell? w _ HC.out.1)).trans HC.out.1, (h.cell (World.block_lt_of_cell? w _ HC.out.2)).trans HC.out.2⟩
      replace keep := Lib.hid keep
      go_wp2
      refine wp_region_held_drew (S := (fun w' : World => w'.cell? ⟨b, o + k * 2, none⟩ = some (.int .i64 a) ∧ w'.cell? ⟨b, o + k * 2 + 1, none⟩ = some (.slice C m d))) (by kernel_rfl) (keep.out _ (bdrew hb.out)) (fun hHeld => ?_)
      refine take_op (i := 0) 11 (v := ?_) rfl rfl (by kernel_rfl) (by kernel_rfl) (by kernel_rfl) (fun _ _ _ h => h) (Or.inl ⟨by rfl, ?_⟩) (by assumption) ?_
      rotate_left
      · (intro w hSw; (try dsimp only at hSw); first | (go_simp; done) | (go_simp; with_reducible rfl))
      try simp only [Act.put, List.setIfInBounds_toArray, List.set_cons_zero, List.set_cons_succ]
      refine take_op (i := 1) 12 (v := ?_) rfl rfl (by kernel_rfl) (by kernel_rfl) (by kernel_rfl) (fun _ _ _ h => h) (Or.inl ⟨by rfl, ?_⟩) (by assumption) ?_
      rotate_left
      · (intro w hSw; (try dsimp only at hSw); first | (go_simp; done) | (go_simp; with_reducible rfl))
      try simp only [Act.put, List.setIfInBounds_toArray, List.set_cons_zero, List.set_cons_succ]
      refine take_op (i := 2) 13 (v := ?_) rfl rfl (by kernel_rfl) (by kernel_rfl) (by kernel_rfl) (fun _ _ _ h => h) (Or.inl ⟨by rfl, ?_⟩) (by assumption) ?_
      rotate_left
      · (intro w hSw; (try dsimp only at hSw); first | (go_simp; done) | (go_simp; with_reducible rfl))
      try simp only [Act.put, List.setIfInBounds_toArray, List.set_cons_zero, List.set_cons_succ]
      refine take_op (i := 3) 14 (v := ?_) rfl rfl (by kernel_rfl) (by kernel_rfl) (by kernel_rfl) (fun _ _ _ h => h) (Or.inl ⟨by rfl, ?_⟩) (by assumption) ?_
      rotate_left
      · (intro w hSw; (try dsimp only at hSw); first | (go_simp; done) | (go_simp; with_reducible rfl))
      try simp only [Act.put, List.setIfInBounds_toArray, List.set_cons_zero, List.set_cons_succ]
      refine take_op (i := 4) 15 (v := ?_) rfl rfl (by kernel_rfl) (by kernel_rfl) (by kernel_rfl) (fun _ _ _ h => h) (Or.inl ⟨by rfl, ?_⟩) (by assumption) ?_
      rotate_left
      · (intro w hSw; (try dsimp only at hSw); first | (go_simp; done) | (go_simp; with_reducible rfl))
      try simp only [Act.put, List.setIfInBounds_toArray, List.set_cons_zero, List.set_cons_succ]
      refine take_op (i := 5) 16 (v := ?_) rfl rfl (by kernel_rfl) (by kernel_rfl) (by kernel_rfl) (fun _ _ _ h => h) (Or.inl ⟨by rfl, ?_⟩) (by assumption) ?_
      rotate_left
      · (intro w hSw; (try dsimp only at hSw); first | (go_simp; done) | (go_simp; with_reducible rfl))
      try simp only [Act.put, List.setIfInBounds_toArray, List.set_cons_zero, List.set_cons_succ]
      refine take_op (i := 6) 17 (v := ?_) rfl rfl (by kernel_rfl) (by kernel_rfl) (by kernel_rfl) (fun _ _ _ h => h) (Or.inl ⟨by rfl, ?_⟩) (by assumption) ?_
      rotate_left
      · (intro w hSw; (try dsimp only at hSw); first | (go_simp; done) | (go_simp; with_reducible rfl))
      try simp only [Act.put, List.setIfInBounds_toArray, List.set_cons_zero, List.set_cons_succ]
      refine take_op (i := 7) 18 (v := ?_) rfl rfl (by kernel_rfl) (by kernel_rfl) (by kernel_rfl) (fun _ _ _ h => h) (Or.inl ⟨by rfl, ?_⟩) (by assumption) ?_
      rotate_left
      · (intro w hSw; (try dsimp only at hSw); first | (go_simp; done) | (go_simp; with_reducible rfl))
      try simp only [Act.put, List.setIfInBounds_toArray, List.set_cons_zero, List.set_cons_succ]
      refine take_op (i := 8) 19 (v := ?_) rfl rfl (by kernel_rfl) (by kernel_rfl) (by kernel_rfl) (fun _ _ _ h => h) (Or.inl ⟨by rfl, ?_⟩) (by assumption) ?_
      rotate_left
      · (intro w hSw; (try dsimp only at hSw); first | (go_simp; done) | (go_simp; with_reducible rfl))
      try simp only [Act.put, List.setIfInBounds_toArray, List.set_cons_zero, List.set_cons_succ]
      refine take_op (i := 9) 20 (v := ?_) rfl rfl (by kernel_rfl) (by kernel_rfl) (by kernel_rfl) (fun _ _ _ h => h) (Or.inl ⟨by rfl, ?_⟩) (by assumption) ?_
      rotate_left
      · (intro w hSw; (try dsimp only at hSw); first | (go_simp; done) | (go_simp; with_reducible rfl))
      try simp only [Act.put, List.setIfInBounds_toArray, List.set_cons_zero, List.set_cons_succ]
      refine take_op (i := 10) 21 (v := ?_) rfl rfl (by kernel_rfl) (by kernel_rfl) (by kernel_rfl) (fun _ _ _ h => h) (Or.inl ⟨by rfl, ?_⟩) (by assumption) ?_
      rotate_left
      · (intro w hSw; (try dsimp only at hSw); first | (go_simp; done) | (go_simp; with_reducible rfl))
      try simp only [Act.put, List.setIfInBounds_toArray, List.set_cons_zero, List.set_cons_succ]
      refine ready_one 11 (by kernel_rfl) rfl (fun K hK => ?_)
      (go_simp; go_at_call 29; refine (copyBytes_any (w := wr.drew) HM.out.symm _ (show Rd wr.drew C X from R1.out) (by omega)).mono ?_; rintro e w1 ⟨rv, rfl, hvv, hbb⟩; obtain ⟨A1, k1, rfl, _, _, _⟩ := hvv.sliceN HM.out.symm; have OC : Hid (Own w1 w.heap.size _ _) := Own.mono hvv (show w.heap.size ≤ wr.heap.size from hb.out.size); have BC : Hid (Below wr.heap.size wr w1) := bthen (bdrew (Below.refl _ _)) hbb; clear hvv hbb)
      refine hK.out _ _ ?_ (fun hHeld => ?_)
      · exact keep.out _ (bthen hb.out BC.out)
      clear hK K
      try simp only [Act.put, List.setIfInBounds_toArray, List.set_cons_zero, List.set_cons_succ]
      refine take_op (i := 12) 23 (v := ?_) rfl rfl (by kernel_rfl) (by kernel_rfl) (by kernel_rfl) (fun _ _ _ h => h) (Or.inl ⟨by rfl, ?_⟩) (by assumption) ?_
      rotate_left
      · (intro w hSw; (try dsimp only at hSw); first | (go_simp; done) | (go_simp; with_reducible rfl))
      try simp only [Act.put, List.setIfInBounds_toArray, List.set_cons_zero, List.set_cons_succ]
      refine ready_one 13 (by kernel_rfl) rfl (fun K hK => ?_)
      (go_simp)
      refine hK.out _ _ ?_ (fun hHeld => ?_)
      · exact keep.out _ (balloc (bthen hb.out BC.out) _)
      clear hK K
      try simp only [Act.put, List.setIfInBounds_toArray, List.set_cons_zero, List.set_cons_succ]
      refine ready_one 14 (by kernel_rfl) rfl (fun K hK => ?_)
      (refine step_append_piece rfl (.tmp 11) (.tmp 24) rfl w.heap.size _ (L.take k) rfl ((hv.out.below BC.out).alloc _) a _ X (OC.out.alloc _) w1.heap.size rfl (heap_alloc_new _ _) (by rw [List.length_take]; omega) (by have := BC.out.size; have := hb.out.size; simp; omega) ?_; intro v2 w2 hp2 hg2; rw [← hts.out] at hp2; have P2 := Lib.hid hp2; have B2 := Lib.hid (pcs_step (w := w) hb.out hv.out BC.out hg2); clear hp2 hg2)
      refine hK.out _ _ ?_ (fun hHeld => ?_)
      · exact keep.out _ B2.out
      clear hK K
      try simp only [Act.put, List.setIfInBounds_toArray, List.set_cons_zero, List.set_cons_succ]
      refine take_op (i := 15) 3 (v := ?_) rfl rfl (by kernel_rfl) (by kernel_rfl) (by kernel_rfl) (fun _ _ _ h => h) (Or.inl ⟨by rfl, ?_⟩) (by assumption) ?_
      rotate_left
      · (intro w hSw; (try dsimp only at hSw); first | (go_simp; done) | (go_simp; with_reducible rfl))
      try simp only [Act.put, List.setIfInBounds_toArray, List.set_cons_zero, List.set_cons_succ]
      refine wpAnyH_done (by kernel_rfl) ?_ _
      go_wp2
      go_roundw
      case rel => exact ⟨k + 1, by omega, by go_num, P2, B2⟩
      case measure => simp [intOf]; omega
    · obtain rfl : k = l := by omega
      go_wp2
      go_ret
      have hv' := hv.out
      rw [List.take_of_length_le (by rw [HL.out]; exact Nat.le_refl _)] at hv'
      exact ⟨_, rfl, hv', hb.out⟩
end Go.Proofs.Ytobnomlbkhkodaa.Y
