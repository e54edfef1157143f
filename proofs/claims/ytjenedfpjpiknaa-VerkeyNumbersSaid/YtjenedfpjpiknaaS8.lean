/-
  The walk of StampTorn.
-/
import Derived.Test.YtjenedfpjpiknaaS6
set_option linter.unusedVariables false
set_option linter.unusedSimpArgs false
namespace Go.Proofs.Ytjenedfpjpiknaa.Y
open Go.RowKit

theorem torn_drop {X Y : List UInt8} {C k : Nat} (hY : C ≤ Y.length) (hk : C ≤ k) : (Y.take C ++ X.drop C).drop k = X.drop k := by
  have hl : (Y.take C).length = C := by rw [List.length_take]; omega
  rw [List.drop_append, hl, List.drop_of_length_le (by omega), List.nil_append, List.drop_drop]
  congr 1
  omega
theorem torn_take {X Y : List UInt8} {C k : Nat} (hY : C ≤ Y.length) (hk : k ≤ C) : (Y.take C ++ X.drop C).take k = Y.take k := by
  have hl : (Y.take C).length = C := by rw [List.length_take]; omega
  rw [List.take_append_of_le_length (by omega), List.take_take, Nat.min_eq_left hk]
theorem torn_any {X Y : List UInt8} {C : Nat} (hX : X.length = 4096) (hY : Y.length = 4096) (hC : C ≤ 4096) (eX : X.take 8 = X.drop 4088) (eY : Y.take 8 = Y.drop 4088) (hne : X.take 8 ≠ Y.take 8)
    (h1 : Y.take C ++ X.drop C ≠ X) (h2 : Y.take C ++ X.drop C ≠ Y) : (Y.take C ++ X.drop C).take 8 ≠ (Y.take C ++ X.drop C).drop 4088 := by
  intro h
  by_cases a : C < 8
  · rw [torn_drop (by omega) (by omega), ← eX] at h
    apply h1
    rw [← List.take_append_drop 8 (Y.take C ++ X.drop C), h, torn_drop (by omega) (by omega), List.take_append_drop]
  · by_cases b : 4088 < C
    · rw [torn_take (by omega) (by omega)] at h
      apply h2
      rw [← List.take_append_drop 4088 (Y.take C ++ X.drop C), ← h, torn_take (by omega) (by omega), eY, List.take_append_drop]
    · rw [torn_drop (by omega) (by omega), torn_take (by omega) (by omega), ← eX] at h
      exact hne h.symm
theorem torn_bad {xs ys : List UInt8} {a b C : Nat} (hx : xs.length ≤ 4080) (hy : ys.length ≤ 4080) (ha : a < 18446744073709551616) (hb : b < 18446744073709551616) (hab : a ≠ b) (hC : C ≤ 4096)
    (h1 : (sealB ys b).take C ++ (sealB xs a).drop C ≠ sealB xs a) (h2 : (sealB ys b).take C ++ (sealB xs a).drop C ≠ sealB ys b) :
    ((sealB ys b).take C ++ (sealB xs a).drop C).take 8 ≠ ((sealB ys b).take C ++ (sealB xs a).drop C).drop 4088 :=
  torn_any (sealB_len a hx) (sealB_len b hy) hC (by rw [sealB_take8, sealB_end a hx]) (by rw [sealB_take8, sealB_end b hy]) (by rw [sealB_take8, sealB_take8]; exact fun e => hab (leB8_inj ha hb e)) h1 h2

section
variable {P : Program} {ops : Array Oper} {o : Oper} {a : Act} {Q : Exit → Act → World → Prop} {w : World}
/-- append of what is read onto a row of the call's own, as one step of a region that draws. -/
theorem step_append_bytes {K : Act → World → Prop} {E : Prop} (hgd : o.guard = none) (s x : Operand) (t : TypeId)
    (ho : o.op = .call { callee := .builtin .append, args := #[s, x], argTypes := #[t, t] })
    (base : Nat) (ht : P.underlying t = some (.slice 5)) (hinfo : (P.info? 5).map (fun i => (i.zero, i.size, i.bytes)) = some (some (.int .u8 0), 1, 1))
    (v : Value) (xs ys : List UInt8) (hs : a.eval s = v) (hown : Own w base v xs) (A : Option Addr) (m c : Nat) (hx : a.eval x = .slice A m c) (hm : ys.length = m) (hr : Rd w A ys)
    (hbytes : xs.length + m ≤ 211106232532992) (hbase : base ≤ w.heap.size)
    (h : ∀ v' w', Own w' base v' (xs ++ ys) → w.grownBy w' v.ownBlock → K (a.put o.dst v') w') :
    if Region.wanted o (yielded ops a.tmps) = true then Oper.wp P o a w K Q else E := by
  rw [if_pos (by simp [Region.wanted, hgd])]
  obtain ⟨v', w', hr, h2, h3, h4, h5⟩ := append_bytes_run (P := P) (w := w) base t o.type ht hinfo v xs ys hown A m c hm hr hbytes hbase
  unfold Oper.wp execOp
  simp only [ho, resolve, invoke, builtin, Sem.run_bind, Sem.run_pure, Result.andThen_ok, List.map_toArray, List.map_cons, List.map_nil, hs, hx, hr]
  exact h v' w' h2 h3
end

set_option maxHeartbeats 4000000 in
set_option maxRecDepth 100000 in
theorem stampTorn_walk (A0 : Option Addr) (c0 : Nat) (l0 : List UInt8) (A1 : Option Addr) (c1 : Nat) (l1 : List UInt8) (a2 : Int) (a3 : Int) (a4 : Int) (w : World)
    (r0 : Rd w A0 l0) (h0 : l0.length ≤ c0) (m0 : c0 ≤ maxLen) (y0 : l0.length ≤ 140737488351232) (r1 : Rd w A1 l1) (h1 : l1.length ≤ c1) (m1 : c1 ≤ maxLen) (y1 : l1.length ≤ 140737488351232) (w2 : (Lit.int .u64 a2).wf = true) (w3 : (Lit.int .u64 a3).wf = true) (w4 : (Lit.int .i64 a4).wf = true) :
    Calls Try.prog 5 #[.slice A0 l0.length c0, .slice A1 l1.length c1, .int .u64 a2, .int .u64 a3, .int .i64 a4] w fun e w' => e = .returned (.bool true) ∧ Below w.heap.size w w' := by
  have R0 := Lib.hid r0
  have R1 := Lib.hid r1
  obtain ⟨a, rfl⟩ := Int.eq_ofNat_of_zero_le (wf_u64 w2).1
  obtain ⟨b, rfl⟩ := Int.eq_ofNat_of_zero_le (wf_u64 w3).1
  have ha : a < 18446744073709551616 := by have := wf_u64 w2; omega
  have hb : b < 18446744073709551616 := by have := wf_u64 w3; omega
  have hw4 := wf_i64 w4
  clear r0 r1 m0 m1 w2 w3 w4
  by_cases hl0 : 4080 < l0.length
  · go_enter Try.func5, Try.ntmps5
    go_wp2_with fail
    refine (awake04_any _).mono ?_
    rintro e w3 ⟨rfl, hb3⟩
    go_wp2_with fail
    go_ret
    exact ⟨rfl, hb3⟩
  by_cases hl1 : 4080 < l1.length
  · go_enter Try.func5, Try.ntmps5
    go_wp2_with fail
    refine (awake04_any _).mono ?_
    rintro e w3 ⟨rfl, hb3⟩
    go_wp2_with fail
    go_ret
    exact ⟨rfl, hb3⟩
  by_cases hab : a = b
  · have hq : ((a : Int) == (b : Int)) = true := by rw [beq_iff_eq, hab]
    have hq2 : (a == b) = true := by rw [beq_iff_eq, hab]
    clear hab
    go_enter Try.func5, Try.ntmps5
    go_wp2_with fail
    refine (awake04_any _).mono ?_
    rintro e w3 ⟨rfl, hb3⟩
    go_wp2_with fail
    go_ret
    exact ⟨rfl, hb3⟩
  have hq : ((a : Int) == (b : Int)) = false := by rw [beq_eq_false_iff_ne]; omega
  have hq2 : (a == b) = false := by rw [beq_eq_false_iff_ne]; exact hab
  replace hl0 : l0.length ≤ 4080 := by omega
  replace hl1 : l1.length ≤ 4080 := by omega
  have HL0 := Lib.hid hl0
  have HL1 := Lib.hid hl1
  have HA := Lib.hid ha
  have HB := Lib.hid hb
  obtain ⟨C, hC⟩ := Int.eq_ofNat_of_zero_le (Int.emod_nonneg a4 (by decide : ((4097 : Nat) : Int) ≠ 0))
  have hC4 : C ≤ 4096 := by have := Int.emod_lt_of_pos a4 (by decide : (0 : Int) < ((4097 : Nat) : Int)); omega
  have bad := Lib.hid (torn_bad hl0 hl1 ha hb hab hC4)
  obtain ⟨X, hX⟩ : ∃ X, X = sealB l0 a := ⟨_, rfl⟩
  obtain ⟨Y, hY⟩ : ∃ Y, Y = sealB l1 b := ⟨_, rfl⟩
  have hXl := Lib.hid (sealB_len a hl0)
  have hYl := Lib.hid (sealB_len b hl1)
  rw [← hX] at bad hXl
  rw [← hY] at bad hYl
  have HX := Lib.hid hX
  have HY := Lib.hid hY
  have hp0 : Hid ((l0 ++ zeros (4080 - l0.length)).length = 4080) := by show _ = _; simp; omega
  have hp1 : Hid ((l1 ++ zeros (4080 - l1.length)).length = 4080) := by show _ = _; simp; omega
  have HC := Lib.hid hC
  obtain ⟨T, hT⟩ : ∃ T, T = Y.take C ++ X.drop C := ⟨_, rfl⟩
  have hTl : Hid (T.length = 4096) := by show _ = _; rw [hT, List.length_append, List.length_take, List.length_drop, hXl.out, hYl.out]; omega
  rw [← hT] at bad
  have HT := Lib.hid hT
  have hYC : Hid ((Y.take C).length = C) := by show _ = _; rw [List.length_take, hYl.out]; omega
  have hXC : Hid ((X.drop C).length = 4096 - C) := by show _ = _; rw [List.length_drop, hXl.out]
  have eqs := eqB_self
  clear hX hY hC hT hab
  have hCi : (C : Int) ≤ 4096 := by omega
  go_enter Try.func5, Try.ntmps5
  go_wp2_with fail
  refine (seal_any rfl _ R0.out a HL0.out).mono ?_
  rintro e w_x ⟨rv, rfl, hvv, hbb⟩
  rw [← HX.out] at hvv
  obtain ⟨A_x, c_x, rfl, hc_x, hm_x, hr⟩ := hvv.sliceN hXl.out
  have O_x := Lib.hid hvv
  have R_x := Lib.hid hr
  have B_x := Lib.hid hbb
  clear hvv hbb hr
  go_wp2_with fail
  refine (seal_any rfl _ (R1.out.below B_x.out) b HL1.out).mono ?_
  rintro e w_y ⟨rv, rfl, hvv, hbb⟩
  rw [← HY.out] at hvv
  obtain ⟨A_y, c_y, rfl, hc_y, hm_y, hr⟩ := hvv.sliceN hYl.out
  have O_y := Lib.hid hvv
  have R_y := Lib.hid hr
  have B_y := Lib.hid hbb
  clear hvv hbb hr
  go_wp2_with fail
  refine (pick_any a4 4097 (by decide) (by decide) (by omega) (by omega)).mono ?_
  rintro e w' ⟨rfl, rfl⟩
  rw [HC.out]
  have z1 : (C : Int) ≤ c_y := by omega
  have z2 : (C : Int) ≤ c_x := by omega
  go_wp2_with fail
  have Ry := Lib.hid (R_y.out.take C)
  have Rx := Lib.hid ((R_x.out.below B_y.out).cut C c_x (by have := hXl.out; omega))
  go_region_law (first | (refine step_append_bytes rfl (.tmp 54) (.tmp 57) 22 rfl w_y.heap.size Try.underlying22 info_u8 rv (Y.take C) (X.drop C) rfl O_t.out (cutA A_x c_x C) (4096 - C) (c_x - C) rfl hXC.out (Rx.out.below B_t.out) (by have := hYC.out; omega) B_t.out.size ?_; intro r2 w_T hvv hg; have B_T := Lib.hid (B_t.out.grown hg B_t.out.size (Own.base O_t.out)); rw [← HT.out] at hvv; have O_T := Lib.hid hvv; clear hvv hg) | (go_simp; go_at_call 17; refine (copyBytes_any (w := w_y.drew) (xs := Y.take C) hYC.out _ (show Rd w_y.drew _ _ from Ry.out) (by omega)).mono ?_; rintro e w_t ⟨rv, rfl, hvv, hbb⟩; have O_t : Hid (Own w_t w_y.heap.size rv (Y.take C)) := hvv; have B_t : Hid (Below w_y.heap.size w_y w_t) := bthen (bdrew (Below.refl _ _)) hbb; clear hvv hbb))
  obtain ⟨A_T, c_T, rfl, hc_T, hm_T, hr⟩ := O_T.out.sliceN hTl.out
  have R_T := Lib.hid hr
  clear hr
  by_cases hx : T = X
  · have hTX : Hid (T = sealB l0 a) := hx.trans HX.out
    have hc := R_T.out
    rw [hTX.out] at hc
    have R_c := Lib.hid hc
    clear hc
    clear hx
    have hT1 : Hid (T = X) := by show T = X; rw [hTX.out, HX.out]
    go_wp2_with fail
    refine (open_seal HL0 HA _ R_c.out hc_T).mono ?_
    rintro e w_p0 ⟨rv, rfl, hvv, hbb⟩
    obtain ⟨A_p0, c_p0, rfl, hc_p0, hm_p0, hr⟩ := hvv.sliceN hp0.out
    have O_p0 := Lib.hid hvv
    have R_p0 := Lib.hid hr
    have B_p0 := Lib.hid hbb
    clear hvv hbb hr
    go_wp2_with fail
    have rT := (R_T.out.below B_p0.out)
    rw [hT1.out] at rT
    refine (sameBytes_any hXl.out hXl.out _ _ rT (((R_x.out.below B_y.out).below B_T.out).below B_p0.out)).mono ?_
    rintro e w' ⟨rfl, rfl⟩
    clear rT
    go_wp2_with fail
    have rt := R_p0.out.take l0.length
    rw [List.take_append_of_le_length (Nat.le_refl _), List.take_of_length_le (Nat.le_refl _)] at rt
    refine (sameBytes_any rfl rfl _ _ rt ((((R0.out.below B_x.out).below B_y.out).below B_T.out).below B_p0.out)).mono ?_
    rintro e w' ⟨rfl, rfl⟩
    clear rt
    go_wp2_with fail
    refine (awake04_any _).mono ?_
    rintro e w_z0 ⟨rfl, hbb⟩
    have B_z0 := Lib.hid hbb
    clear hbb
    go_wp2_with fail
    go_ret
    exact ⟨rfl, (bthen (bthen (bthen (bthen (bthen (Below.refl _ _) B_x.out) B_y.out) B_T.out) B_p0.out) B_z0.out)⟩
  by_cases hy : T = Y
  · have hTY : Hid (T = sealB l1 b) := hy.trans HY.out
    have hc := R_T.out
    rw [hTY.out] at hc
    have R_c := Lib.hid hc
    clear hc
    have hn1 := eqB_not.2 hx
    clear hx hy
    have hT1 : Hid (T = Y) := by show T = Y; rw [hTY.out, HY.out]
    go_wp2_with fail
    refine (open_seal HL1 HB _ R_c.out hc_T).mono ?_
    rintro e w_p1 ⟨rv, rfl, hvv, hbb⟩
    obtain ⟨A_p1, c_p1, rfl, hc_p1, hm_p1, hr⟩ := hvv.sliceN hp1.out
    have O_p1 := Lib.hid hvv
    have R_p1 := Lib.hid hr
    have B_p1 := Lib.hid hbb
    clear hvv hbb hr
    go_wp2_with fail
    refine (sameBytes_any hTl.out hXl.out _ _ (R_T.out.below B_p1.out) (((R_x.out.below B_y.out).below B_T.out).below B_p1.out)).mono ?_
    rintro e w' ⟨rfl, rfl⟩
    go_wp2_with fail
    have rT := (R_T.out.below B_p1.out)
    rw [hT1.out] at rT
    refine (sameBytes_any hYl.out hYl.out _ _ rT ((R_y.out.below B_T.out).below B_p1.out)).mono ?_
    rintro e w' ⟨rfl, rfl⟩
    clear rT
    go_wp2_with fail
    have rt := R_p1.out.take l1.length
    rw [List.take_append_of_le_length (Nat.le_refl _), List.take_of_length_le (Nat.le_refl _)] at rt
    refine (sameBytes_any rfl rfl _ _ rt ((((R1.out.below B_x.out).below B_y.out).below B_T.out).below B_p1.out)).mono ?_
    rintro e w' ⟨rfl, rfl⟩
    clear rt
    go_wp2_with fail
    refine (awake04_any _).mono ?_
    rintro e w_z1 ⟨rfl, hbb⟩
    have B_z1 := Lib.hid hbb
    clear hbb
    go_wp2_with fail
    go_ret
    exact ⟨rfl, (bthen (bthen (bthen (bthen (bthen (Below.refl _ _) B_x.out) B_y.out) B_T.out) B_p1.out) B_z1.out)⟩
  · have hb2 := Lib.hid (bad.out hx hy)
    have hn1 := eqB_not.2 hx
    have hn2 := eqB_not.2 hy
    clear hx hy
    go_wp2_with fail
    refine (open_bad hTl _ (Lib.hid R_T.out) hc_T hb2).mono ?_
    rintro e w_b ⟨rfl, hbb⟩
    have B_b := Lib.hid hbb
    clear hbb
    go_wp2_with fail
    refine (sameBytes_any hTl.out hXl.out _ _ (R_T.out.below B_b.out) (((R_x.out.below B_y.out).below B_T.out).below B_b.out)).mono ?_
    rintro e w' ⟨rfl, rfl⟩
    go_wp2_with fail
    refine (sameBytes_any hTl.out hYl.out _ _ (R_T.out.below B_b.out) ((R_y.out.below B_T.out).below B_b.out)).mono ?_
    rintro e w' ⟨rfl, rfl⟩
    go_wp2_with fail
    refine (awake04_any _).mono ?_
    rintro e w_z2 ⟨rfl, hbb⟩
    have B_z2 := Lib.hid hbb
    clear hbb
    go_wp2_with fail
    go_ret
    exact ⟨rfl, (bthen (bthen (bthen (bthen (bthen (Below.refl _ _) B_x.out) B_y.out) B_T.out) B_b.out) B_z2.out)⟩
end Go.Proofs.Ytjenedfpjpiknaa.Y
