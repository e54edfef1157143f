/-
  Totals of the package change; the walk of ChangeTells.
-/
import Derived.Test.YtobnomlbkhkodaaCD
import Derived.Test.YtobnomlbkhkodaaYQ
set_option linter.unusedVariables false
set_option linter.unusedSimpArgs false
namespace Go.Proofs.Ytobnomlbkhkodaa.Y
open Go.RowKit

def both (l m : Nat) : Bool := decide (l = 4080) && decide (m = 4080)
def diffC (l m : Nat) : Int := if both l m = true then 0 else 2
def diffT (xs ys : List UInt8) : List (Int × List UInt8) := if both xs.length ys.length = true then diffL xs ys else []
theorem both_true {l m : Nat} (h : both l m = true) : l = 4080 ∧ m = 4080 := by simpa [both] using h
theorem both_false {l m : Nat} (h : ¬ both l m = true) : l ≠ 4080 ∨ m ≠ 4080 := by
  by_cases h1 : l = 4080
  · by_cases h2 : m = 4080
    · exact absurd (by simp [both, h1, h2]) h
    · exact .inr h2
  · exact .inl h1
theorem diffT_pok (xs ys : List UInt8) : ∀ p ∈ diffT xs ys, Pok p := by
  unfold diffT
  split
  · rename_i h; exact diffL_pok (both_true h).2
  · intro p hp; cases hp
theorem diffT_length (xs ys : List UInt8) : (diffT xs ys).length ≤ 4081 := by
  unfold diffT
  split
  · exact diffL_length xs ys
  · simp
theorem diff_tot {w : World} {A B : Option Addr} {xs ys : List UInt8} {l m : Nat} (hl : xs.length = l) (hm : ys.length = m) (c d : Nat) (hA : Rd w A xs) (hB : Rd w B ys) (hd : m ≤ d) (bl : l ≤ 140737488555328) (bm : m ≤ 140737488555328) :
    Calls Try.prog 15 #[.slice A l c, .slice B m d] w fun e w' => ∃ r, e = .returned (.tuple #[r, .int .i64 (diffC l m)]) ∧ Pcs w' w.heap.size r (diffT xs ys) ∧ Below w.heap.size w w' := by
  unfold diffC diffT
  rw [hl, hm]
  by_cases h : both l m = true
  · obtain ⟨rfl, rfl⟩ := both_true h
    rw [if_pos h, if_pos h]
    exact diff_any c d hl hm hA hB hd
  · rw [if_neg h, if_neg h]
    refine (diff_arg c d bl bm (both_false h)).mono ?_
    rintro e w' ⟨rfl, hb⟩
    exact ⟨_, rfl, Pcs.nil _ _, hb⟩
theorem refDiff_tot {w : World} {A B : Option Addr} {xs ys : List UInt8} {l m : Nat} (hl : xs.length = l) (hm : ys.length = m) (c d : Nat) (hA : Rd w A xs) (hB : Rd w B ys) (hd : m ≤ d) (bl : l ≤ 140737488555328) (bm : m ≤ 140737488555328) :
    Calls Try.prog 25 #[.slice A l c, .slice B m d] w fun e w' => ∃ r, e = .returned (.tuple #[r, .int .i64 (diffC l m)]) ∧ Pcs w' w.heap.size r (diffT xs ys) ∧ Below w.heap.size w w' := by
  unfold diffC diffT
  rw [hl, hm]
  by_cases h : both l m = true
  · obtain ⟨rfl, rfl⟩ := both_true h
    rw [if_pos h, if_pos h]
    exact refDiff_any c d hl hm hA hB hd
  · rw [if_neg h, if_neg h]
    refine (refDiff_arg c d bl bm (both_false h)).mono ?_
    rintro e w' ⟨rfl, hb⟩
    exact ⟨_, rfl, Pcs.nil _ _, hb⟩
theorem rdp_pok {w : World} {A : Option Addr} {L : List (Int × List UInt8)} (h : RdP w A L) : ∀ p ∈ L, Pok p := fun p hp => by
  obtain ⟨i, hi, rfl⟩ := List.mem_iff_getElem.1 hp
  obtain ⟨b, o, C, c, _, k⟩ := h.at_ hi
  exact k.ok
def appOk (l : Nat) (L : List (Int × List UInt8)) : Bool := decide (l = 4080) && okP L
def appC (l : Nat) (L : List (Int × List UInt8)) : Int := if appOk l L = true then 0 else 2
def appT (xs : List UInt8) (L : List (Int × List UInt8)) : List UInt8 := if appOk xs.length L = true then layL xs L else []
theorem apply_tot {w : World} {A0 A : Option Addr} {xs : List UInt8} {L : List (Int × List UInt8)} {l n : Nat} (hl : xs.length = l) (c0 : Nat) (h0 : Rd w A0 xs) (hn : L.length = n) (c : Nat) (hA : RdP w A L) (bl : l ≤ 140737488555328) (bn : n ≤ 140737488555328) :
    Calls Try.prog 16 #[.slice A0 l c0, .slice A n c] w fun e w' => ∃ r, e = .returned (.tuple #[r, .int .i64 (appC l L)]) ∧ Own w' w.heap.size r (appT xs L) ∧ Below w.heap.size w w' := by
  unfold appC appT
  rw [hl]
  unfold appOk
  by_cases h : l = 4080
  · subst h
    by_cases hok : okP L = true
    · rw [hok]
      exact apply_ok hl c0 h0 hn c hA bn hok
    · have hok : okP L = false := by simpa using hok
      rw [hok]
      refine (apply_bad hl c0 h0 hn c hA bn hok).mono ?_
      rintro e w' ⟨rfl, hb⟩
      exact ⟨_, rfl, Own.nil _ _, hb⟩
  · rw [decide_eq_false h]
    refine (apply_arg c0 c bl h).mono ?_
    rintro e w' ⟨rfl, hb⟩
    exact ⟨_, rfl, Own.nil _ _, hb⟩
theorem refApply_tot {w : World} {A0 A : Option Addr} {xs : List UInt8} {L : List (Int × List UInt8)} {l n : Nat} (hl : xs.length = l) (c0 : Nat) (h0 : Rd w A0 xs) (hn : L.length = n) (c : Nat) (hA : RdP w A L) (bl : l ≤ 140737488555328) (bn : n ≤ 140737488555328) :
    Calls Try.prog 26 #[.slice A0 l c0, .slice A n c] w fun e w' => ∃ r, e = .returned (.tuple #[r, .int .i64 (appC l L)]) ∧ Own w' w.heap.size r (appT xs L) ∧ Below w.heap.size w w' := by
  unfold appC appT
  rw [hl]
  unfold appOk
  by_cases h : l = 4080
  · subst h
    by_cases hok : okP L = true
    · rw [hok]
      exact refApply_ok hl c0 h0 hn c hA bn hok
    · have hok : okP L = false := by simpa using hok
      rw [hok]
      refine (refApply_bad hl c0 h0 hn c hA bn hok).mono ?_
      rintro e w' ⟨rfl, hb⟩
      exact ⟨_, rfl, Own.nil _ _, hb⟩
  · rw [decide_eq_false h]
    refine (refApply_arg c0 c bl h).mono ?_
    rintro e w' ⟨rfl, hb⟩
    exact ⟨_, rfl, Own.nil _ _, hb⟩
set_option maxHeartbeats 6400000 in
set_option maxRecDepth 100000 in
theorem changeTells_walk (A0 : Option Addr) (c0 : Nat) (l0 : List UInt8) (A1 : Option Addr) (c1 : Nat) (l1 : List UInt8) (A2 : Option Addr) (c2 : Nat) (l2 : List (Int × List UInt8)) (w : World)
    (r0 : Rd w A0 l0) (h0 : l0.length ≤ c0) (m0 : c0 ≤ maxLen) (y0 : l0.length ≤ 140737488351232) (r1 : Rd w A1 l1) (h1 : l1.length ≤ c1) (m1 : c1 ≤ maxLen) (y1 : l1.length ≤ 140737488351232) (r2 : RdP w A2 l2) (h2 : l2.length ≤ c2) (m2 : c2 ≤ maxLen) (y2 : l2.length ≤ 4398046510976) :
    Calls Try.prog 5 #[.slice A0 l0.length c0, .slice A1 l1.length c1, .slice A2 l2.length c2] w fun e w' => e = .returned (.bool true) ∧ Below w.heap.size w w' := by
  have R0 := Lib.hid r0
  have R1 := Lib.hid r1
  have R2 := Lib.hid r2
  have eqs := eqB_self
  have ps := sameP_self
  clear r0 r1 r2
  obtain ⟨D, hD⟩ : ∃ D, D = diffT l0 l1 := ⟨_, rfl⟩
  obtain ⟨nd, hnd⟩ : ∃ n, n = D.length := ⟨_, rfl⟩
  have HD := Lib.hid hD
  have HND := Lib.hid hnd
  have zd : nd ≤ 4081 := by rw [hnd, hD]; exact diffT_length _ _
  have PD : Hid (∀ p ∈ D, Pok p) := by show ∀ p ∈ D, Pok p; rw [hD]; exact diffT_pok _ _
  obtain ⟨F, hF⟩ : ∃ F, F = appT l0 l2 := ⟨_, rfl⟩
  obtain ⟨nf, hnf⟩ : ∃ n, n = F.length := ⟨_, rfl⟩
  have HF := Lib.hid hF
  have HNF := Lib.hid hnf
  obtain ⟨e1, he1⟩ : ∃ e, e = diffC l0.length l1.length := ⟨_, rfl⟩
  obtain ⟨e2, he2⟩ : ∃ e, e = appC l0.length l2 := ⟨_, rfl⟩
  have E1 := Lib.hid he1
  have E2 := Lib.hid he2
  clear hD hnd hF hnf he1 he2
  obtain ⟨n2, hn2⟩ : ∃ n, n = l2.length := ⟨_, rfl⟩
  rw [← hn2] at h2 y2 ⊢
  have N2 := Lib.hid hn2.symm
  clear hn2
  go_enter Try.func5, Try.ntmps5
  go_wp2_with fail
  refine (lent_any rfl _ R0.out (by omega)).mono ?_
  rintro e w_a ⟨rv, rfl, hvv, hbb⟩
  have L_a := Lib.hid hvv
  obtain ⟨A_a, c_a, rfl, hc_a, hm_a, hr⟩ := hvv.slice
  have R_a := Lib.hid hr
  have B_a := Lib.hid hbb
  clear hvv hbb hr
  go_wp2_with fail
  refine (lent_any rfl _ (R1.out.below B_a.out) (by omega)).mono ?_
  rintro e w_b ⟨rv, rfl, hvv, hbb⟩
  have L_b := Lib.hid hvv
  obtain ⟨A_b, c_b, rfl, hc_b, hm_b, hr⟩ := hvv.slice
  have R_b := Lib.hid hr
  have B_b := Lib.hid hbb
  clear hvv hbb hr
  have P2 : Hid (∀ p ∈ l2, Pok p) := rdp_pok R2.out
  go_wp2_with fail
  refine (copyPieces_any N2.out c2 ((R2.out.below B_a.out).below B_b.out) (by omega)).mono ?_
  rintro e w_p ⟨rv, rfl, hvv, hbb⟩
  obtain ⟨A_p, c_p, rfl⟩ := hvv.sliceN N2.out
  have R_p := Lib.hid ((hvv.rd P2.out).1)
  have B_p := Lib.hid hbb
  clear hvv hbb
  go_wp2_with fail
  refine (diff_tot rfl rfl c_a c_b ((R_a.out.below B_b.out).below B_p.out) (R_b.out.below B_p.out) hc_b (by omega) (by omega)).mono ?_
  rintro e w_x ⟨rv, rfl, hvv, hbb⟩
  rw [← HD.out] at hvv
  obtain ⟨A_x, c_x, rfl⟩ := hvv.sliceN HND.out.symm
  have R_x := Lib.hid ((hvv.rd PD.out).1)
  have B_x := Lib.hid hbb
  clear hvv hbb
  rw [← E1.out]
  go_wp2_with fail
  refine (refDiff_tot rfl rfl c0 c1 ((((R0.out.below B_a.out).below B_b.out).below B_p.out).below B_x.out) ((((R1.out.below B_a.out).below B_b.out).below B_p.out).below B_x.out) h1 (by omega) (by omega)).mono ?_
  rintro e w_y ⟨rv, rfl, hvv, hbb⟩
  rw [← HD.out] at hvv
  obtain ⟨A_y, c_y, rfl⟩ := hvv.sliceN HND.out.symm
  have R_y := Lib.hid ((hvv.rd PD.out).1)
  have B_y := Lib.hid hbb
  clear hvv hbb
  rw [← E1.out]
  go_wp2_with fail
  refine (apply_tot rfl c_a ((((R_a.out.below B_b.out).below B_p.out).below B_x.out).below B_y.out) N2.out c_p ((R_p.out.below B_x.out).below B_y.out) (by omega) (by omega)).mono ?_
  rintro e w_c ⟨rv, rfl, hvv, hbb⟩
  rw [← HF.out] at hvv
  obtain ⟨A_c, c_c, rfl, hc_c, _, hr⟩ := hvv.sliceN HNF.out.symm
  have R_c := Lib.hid hr
  have B_c := Lib.hid hbb
  clear hvv hbb hr
  rw [← E2.out]
  go_wp2_with fail
  refine (refApply_tot rfl c0 ((((((R0.out.below B_a.out).below B_b.out).below B_p.out).below B_x.out).below B_y.out).below B_c.out) N2.out c2 ((((((R2.out.below B_a.out).below B_b.out).below B_p.out).below B_x.out).below B_y.out).below B_c.out) (by omega) (by omega)).mono ?_
  rintro e w_d ⟨rv, rfl, hvv, hbb⟩
  rw [← HF.out] at hvv
  obtain ⟨A_d, c_d, rfl, hc_d, _, hr⟩ := hvv.sliceN HNF.out.symm
  have R_d := Lib.hid hr
  have B_d := Lib.hid hbb
  clear hvv hbb hr
  rw [← E2.out]
  go_wp2_with fail
  refine (samePieces_any HND.out.symm HND.out.symm c_x c_y (((R_x.out.below B_y.out).below B_c.out).below B_d.out) ((R_y.out.below B_c.out).below B_d.out) (by omega)).mono ?_
  rintro e w_s0 ⟨rfl, hbb⟩
  have B_s0 := Lib.hid hbb
  clear hbb
  go_wp2_with fail
  refine (sameBytes_any HNF.out.symm HNF.out.symm _ _ ((R_c.out.below B_d.out).below B_s0.out) (R_d.out.below B_s0.out)).mono ?_
  rintro e w' ⟨rfl, rfl⟩
  go_wp2_with fail
  refine (size_any N2.out c_p (((((R_p.out.below B_x.out).below B_y.out).below B_c.out).below B_d.out).below B_s0.out) (by omega)).mono ?_
  rintro e w_s1 ⟨rfl, hbb⟩
  have B_s1 := Lib.hid hbb
  clear hbb
  go_wp2_with fail
  refine (refSize_any N2.out c2 (((((((((R2.out.below B_a.out).below B_b.out).below B_p.out).below B_x.out).below B_y.out).below B_c.out).below B_d.out).below B_s0.out).below B_s1.out) (by omega)).mono ?_
  rintro e w_s2 ⟨rfl, hbb⟩
  have B_s2 := Lib.hid hbb
  clear hbb
  go_wp2_with fail
  refine (kept_any rfl _ (by omega) (((((((((L_a.out.below B_b.out).below B_p.out).below B_x.out).below B_y.out).below B_c.out).below B_d.out).below B_s0.out).below B_s1.out).below B_s2.out) ((((((((((R0.out.below B_a.out).below B_b.out).below B_p.out).below B_x.out).below B_y.out).below B_c.out).below B_d.out).below B_s0.out).below B_s1.out).below B_s2.out)).mono ?_
  rintro e w' ⟨rfl, rfl⟩
  go_wp2_with fail
  refine (kept_any rfl _ (by omega) ((((((((L_b.out.below B_p.out).below B_x.out).below B_y.out).below B_c.out).below B_d.out).below B_s0.out).below B_s1.out).below B_s2.out) ((((((((((R1.out.below B_a.out).below B_b.out).below B_p.out).below B_x.out).below B_y.out).below B_c.out).below B_d.out).below B_s0.out).below B_s1.out).below B_s2.out)).mono ?_
  rintro e w' ⟨rfl, rfl⟩
  go_wp2_with fail
  refine (samePieces_any N2.out N2.out c_p c2 (((((((R_p.out.below B_x.out).below B_y.out).below B_c.out).below B_d.out).below B_s0.out).below B_s1.out).below B_s2.out) ((((((((((R2.out.below B_a.out).below B_b.out).below B_p.out).below B_x.out).below B_y.out).below B_c.out).below B_d.out).below B_s0.out).below B_s1.out).below B_s2.out) (by omega)).mono ?_
  rintro e w_s3 ⟨rfl, hbb⟩
  have B_s3 := Lib.hid hbb
  clear hbb
  go_wp2_with fail
  refine (awake08_any _).mono ?_
  rintro e w_z ⟨rfl, hbb⟩
  have B_z := Lib.hid hbb
  clear hbb
  go_wp2_with fail
  go_ret
  exact ⟨rfl, (bthen (bthen (bthen (bthen (bthen (bthen (bthen (bthen (bthen (bthen (bthen (bthen (Below.refl _ _) B_a.out) B_b.out) B_p.out) B_x.out) B_y.out) B_c.out) B_d.out) B_s0.out) B_s1.out) B_s2.out) B_s3.out) B_z.out)⟩
end Go.Proofs.Ytobnomlbkhkodaa.Y
