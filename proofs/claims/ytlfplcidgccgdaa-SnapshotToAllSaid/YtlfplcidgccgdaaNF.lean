/-
  SnapshotToAll's walk.
-/
import Derived.Test.YtlfplcidgccgdaaNE
set_option linter.unusedVariables false
set_option linter.unusedSimpArgs false
namespace Go.Proofs.Ytlfplcidgccgdaa.Y
open Go.RowKit Go.Maps
attribute [local go_sem ↓] Go.wp_at_zero Go.wp_at_succ

/-- The table, and the numbers that all see. -/
structure TB (w0 : World) (base : Int) (g bo bc bd bg k : Nat) (s : TS) (w : World) (v : Value) (xs : List Int) : Prop where
  fst : FST w0 base g bo bc bd bg k s w
  tx : TX s
  row : AllI w w0.heap.size v xs
  all : ∀ x ∈ xs, All s x
section
variable {w0 w : World} {base : Int} {g bo bc bd bg k : Nat} {s : TS} {v : Value} {xs : List Int}
theorem TB.below {w1 : World} (h : TB w0 base g bo bc bd bg k s w v xs) (hb : Below w.heap.size w w1) : TB w0 base g bo bc bd bg k s w1 v xs := ⟨h.fst.below hb, h.tx, h.row.below hb, h.all⟩
theorem TB.low (h : TB w0 base g bo bc bd bg k s w v xs) : Below w0.heap.size w0 w := h.fst.low
theorem tb_begin (h : TB w0 base g bo bc bd bg k s w v xs) (hk : k ≤ 1000) (hN : base ≤ 1000) : Calls Try.prog 18 #[.pointer (some ⟨g, 0, none⟩)] w fun e w' => (∃ n r, e = .returned (.tuple #[.int .i64 n, .int .i64 r])) ∧ ∃ s', TB w0 base g bo bc bd bg (k + 1) s' w' v xs := by
  by_cases hs : s.so < 16
  · refine (fs_begin h.fst hs hk hN).mono ?_
    rintro e w' ⟨rfl, h1, h2⟩
    exact ⟨⟨_, _, rfl⟩, _, h1, h.tx.begin h.fst.tab.ok, h.row.own h.fst.tab h2, fun x hx => (h.all x hx).begin h.tx⟩
  · refine (begin_full h.fst.tab (by have := h.fst.tab.ok.so16; omega)).mono ?_
    rintro e w' ⟨rfl, rfl⟩
    exact ⟨⟨_, _, rfl⟩, _, h.fst.more, h.tx, h.row, h.all⟩
theorem tb_commit (h : TB w0 base g bo bc bd bg k s w v xs) (hk : k ≤ 1000) (tx p : Int) (hx : wf64 tx) (ho : s.op tx = some p) : Calls Try.prog 19 #[.pointer (some ⟨g, 0, none⟩), .int .i64 tx] w fun e w' => e = .returned (.int .i64 0) ∧ ∃ s', TB w0 base g bo bc bd bg (k + 1) s' w' v xs := by
  refine (fs_commit h.fst hk tx p hx ho).mono ?_
  rintro e w' ⟨rfl, h1, h2⟩
  exact ⟨rfl, _, h1, h.tx.commit ho h.fst.tab.ok, h.row.own h.fst.tab h2, fun x hx => (h.all x hx).commit h.tx ho⟩
theorem tb_abort (h : TB w0 base g bo bc bd bg k s w v xs) (hk : k ≤ 1000) (tx p : Int) (hx : wf64 tx) (ho : s.op tx = some p) : Calls Try.prog 20 #[.pointer (some ⟨g, 0, none⟩), .int .i64 tx] w fun e w' => e = .returned (.int .i64 0) ∧ ∃ s', TB w0 base g bo bc bd bg (k + 1) s' w' v xs := by
  refine (fs_abort h.fst hk tx p hx ho).mono ?_
  rintro e w' ⟨rfl, h1, h2⟩
  exact ⟨rfl, _, h1, h.tx.abort tx, h.row.own h.fst.tab h2, fun x hx => (h.all x hx).abort h.tx ho⟩
theorem tb_all (h : TB w0 base g bo bc bd bg k s w v xs) (x : Int) (hx : wf64 x) : Calls Try.prog 62 #[.pointer (some ⟨g, 0, none⟩), .int .i64 x] w fun e w' => ∃ r : Bool, e = .returned (.bool r) ∧ (r = true ↔ allP s x) ∧ Below w.heap.size w w' :=
  toAll_any h.fst.tab x hx
theorem tb_vis (h : TB w0 base g bo bc bd bg k s w v xs) (a x : Int) (ha : wf64 a) (hx : wf64 x) : Calls Try.prog 22 #[.pointer (some ⟨g, 0, none⟩), .int .i64 a, .int .i64 x] w fun e w' => e = .returned (.bool (visB s a x)) ∧ Below w.heap.size w w' := by
  refine (visible_any h.fst.tab a x ha hx).mono ?_
  rintro e w' ⟨rfl, q, rfl⟩
  exact ⟨rfl, bdrewN (Below.refl _ _) q⟩
/-- The row grows. -/
theorem TB.grow {w1 : World} {v1 : Value} {x : Int} (h : TB w0 base g bo bc bd bg k s w v xs) (hr : AllI w1 w0.heap.size v1 (xs ++ [x])) (hx : All s x) (hg : w.grownBy w1 v.ownBlock) : TB w0 base g bo bc bd bg k s w1 v1 (xs ++ [x]) := by
  have hT := (Tch.refl (fun j => v.ownBlock = some j) w).grown hg (fun j e => .inl e)
  refine ⟨⟨h.fst.tab.kept hT (fun j hf e => AllI.ft h.fst.tab h.row j e hf), h.fst.cml, h.fst.sc, h.fst.sg, h.fst.nx, h.fst.low.trans (hT.toBelow h.fst.low.size (fun j hj => (h.row.lt hj).1)), h.fst.own⟩, h.tx, hr, fun y hy => ?_⟩
  rcases List.mem_append.1 hy with hy | hy
  · exact h.all y hy
  · rw [List.mem_singleton] at hy
    rw [hy]
    exact hx
end
theorem AllI.rd {w : World} {B n c : Nat} {A : Option Addr} {xs : List Int} (h : AllI w B (.slice A n c) xs) : RdI w A xs := by
  obtain ⟨A', c', e, hR, -⟩ := h.slice
  injection e with e1 _ _
  rw [e1]
  exact hR
theorem OwnI.rd {w : World} {B n c : Nat} {A : Option Addr} {xs : List Int} (h : OwnI w B (.slice A n c) xs) : RdI w A xs := by
  obtain ⟨A', c', e, hR⟩ := h.slice
  injection e with e1 _ _
  rw [e1]
  exact hR
/-- The first m of the open ones see x. -/
def EachTo (s : TS) (ss : List Int) (x : Int) (m : Nat) : Prop := ∀ (i : Nat) y, i < m → ss[i]? = some y → visB s y x = true ∧ y ≠ x
theorem EachTo.zero (s : TS) (ss : List Int) (x : Int) : EachTo s ss x 0 := fun i y h => absurd h (Nat.not_lt_zero _)
theorem EachTo.step {s : TS} {ss : List Int} {x y : Int} {m : Nat} (hy : ss[m]? = some y) : EachTo s ss x (m + 1) ↔ (EachTo s ss x m ∧ visB s y x = true ∧ y ≠ x) := by
  constructor
  · intro h
    exact ⟨fun i u hi hu => h i u (by omega) hu, h m y (by omega) hy⟩
  · rintro ⟨h1, h2⟩ i u hi hu
    by_cases e : i = m
    · subst e
      rw [hy] at hu
      injection hu with hu
      rw [← hu]
      exact h2
    · exact h1 i u (by omega) hu
theorem EachTo.each {s : TS} {ss : List Int} {x : Int} {m : Nat} (hm : ss.length = m) : EachTo s ss x m ↔ Each s ss x := by
  constructor
  · intro h k hk
    obtain ⟨i, hi, rfl⟩ := List.getElem_of_mem hk
    exact h i _ (by omega) (List.getElem?_eq_getElem hi)
  · intro h i y _ hy
    exact h y (List.mem_of_getElem? hy)
set_option maxHeartbeats 25600000 in
set_option maxRecDepth 100000 in
theorem snapshotToAll_walk (x : Int) (A1 : Option Addr) (c1 : Nat) (l1 : List Int) (w : World) (v0 : (Lit.int .i64 x).wf = true)
    (r1 : RdI w A1 l1) (i1 : Ints l1) (h1 : l1.length ≤ c1) (m1 : c1 ≤ maxLen) (y1 : l1.length ≤ 17592186043904) :
    Calls Try.prog 13 #[.int .i64 x, .slice A1 l1.length c1] w fun e w' => e = .returned (.bool true) ∧ Below w.heap.size w w' := by
  obtain ⟨l, hl⟩ : ∃ l, l = l1.length := ⟨_, rfl⟩
  rw [← hl] at h1 y1 ⊢
  have HL := Lib.hid hl.symm
  have HR := Lib.hid r1
  have HI := Lib.hid i1
  obtain ⟨x1, x2⟩ := int_wf64 v0
  have PK := Lib.hid (pick_any (w := w) x 9 (by decide) (by decide) x1 x2)
  obtain ⟨m, hm⟩ := Int.eq_ofNat_of_zero_le (show 0 ≤ x % ((9 : Nat) : Int) by omega)
  have hm9 : m < 9 := by omega
  have HM := Lib.hid hm
  obtain ⟨N, hN⟩ : ∃ N : Nat, N = m + 1 := ⟨_, rfl⟩
  have HN : Hid (1 + (m : Int) = (N : Int)) := by show _ = _; rw [hN]; omega
  have hN1 : 1 ≤ N := by omega
  have hN9 : N ≤ 9 := by omega
  have N0 : (0 : Int) ≤ (N : Int) := by omega
  clear hl r1 i1 m1 v0 x1 x2 hm hN
  go_enter Try.func13, Try.ntmps13
  go_wp2_with fail
  refine PK.out.mono ?_
  rintro e w' ⟨rfl, rfl⟩
  rw [HM.out]
  go_wp2_with fail
  rw [HN.out]
  refine (tnew_nil (N : Int) (by omega) (by omega) none 0).mono ?_
  rintro e w2 ⟨g, bo, bc, bd, bg, rfl, hh, hf, hb⟩
  have T0 : Hid (TB w (N : Int) g bo bc bd bg 0 (newS (N : Int)) w2 (.slice none 0 0) []) := by
    show TB _ _ _ _ _ _ _ _ _ _ _ _
    exact ⟨⟨hh, fun k v e => (by cases e), Nat.le_refl _, Nat.le_refl _, by show (N : Int) ≤ N + ((0 : Nat) : Int); omega, hb, hf⟩, TX.new _, AllI.nil _ _, fun x hx => (by cases hx)⟩
  clear hh hf hb
  go_wp2_with fail
  go_loopw [7, 8] (fun v i wr => ∃ (k : Nat) (s : TS) (xs : List Int), k ≤ l ∧ k ≤ 40 ∧ i = .int .i64 k ∧ Hid (TB w (N : Int) g bo bc bd bg k s wr v xs ∧ xs.length ≤ 200)) (fun _ i _ => 40 - (intOf i).toNat)
  case atStart => exact ⟨0, _, _, Nat.zero_le _, Nat.zero_le _, rfl, T0.out, Nat.zero_le _⟩
  case round =>
    obtain ⟨k, s, xs, hk, hk2, rfl, hi⟩ := hrel
    obtain ⟨hT, h200⟩ := hi.out
    have T1 := Lib.hid hT
    obtain ⟨Aa, ca, rfl, -, hca, hcm⟩ := hT.row.slice
    obtain ⟨n, hn⟩ : ∃ n, n = xs.length := ⟨_, rfl⟩
    rw [← hn] at T1 h200 hca ⊢
    have HX := Lib.hid hn.symm
    clear hi hT hn
    by_cases hgo : k < l ∧ k < 40
    · obtain ⟨hlt, hlt2⟩ := hgo
      have z0 : (0 : Int) ≤ (k : Int) := by omega
      have z1 : (k : Int) < (l : Int) := by omega
      have hkl : k < l1.length := by rw [HL.out]; exact hlt
      obtain ⟨b, o, rfl, p0⟩ := (HR.out.below T1.out.low).at_ hkl
      obtain ⟨hx1, hx2⟩ := HI.out _ (List.getElem_mem hkl)
      generalize l1[k]'hkl = z at *
      obtain ⟨y, hy⟩ : ∃ y, y = z % ((1000003 : Nat) : Int) := ⟨_, rfl⟩
      have PK2 := Lib.hid (pick_big (w := wr) z 1000003 (by decide) (by decide) hx1 hx2)
      have hy0 : 0 ≤ y := by omega
      have hy1 : y ≤ 1000002 := by omega
      rw [← hy] at PK2
      clear hx1 hx2 hy
      go_wp2_with fail
      refine PK2.out.mono ?_
      rintro e w' ⟨rfl, rfl⟩
      go_wp2_with fail
      refine (open_any T1.out.fst.tab).mono ?_
      rintro e w3 ⟨v3, ss, rfl, hK, hO, hb⟩
      have T2 := Lib.hid (T1.out.below hb)
      have KO := Lib.hid hK
      obtain ⟨Al, cl, rfl, hR⟩ := hO.slice
      obtain ⟨q, hq⟩ : ∃ q, q = ss.length := ⟨_, rfl⟩
      have q16 : q ≤ 16 := by have h1 := hK.len; have h2 := T1.out.fst.tab.ok.so16; omega
      have RL := Lib.hid hR
      have HQ := Lib.hid hq.symm
      rw [← hq]
      clear hK hO hR hb hq p0
      obtain ⟨c3, hc3⟩ : ∃ c3, c3 = y % 3 := ⟨_, rfl⟩
      have h3 : c3 = 0 ∨ c3 = 1 ∨ c3 = 2 := by omega
      rcases h3 with rfl | rfl | rfl
      · have e3 : y % 3 = 0 := hc3.symm
        clear hc3
        go_wp2_with fail
        refine (tb_begin T2.out (by omega) (by omega)).mono ?_
        rintro e w4 ⟨⟨rn, rr, rfl⟩, s1, hT4⟩
        have T4 := Lib.hid hT4
        clear hT4
        as_aux_lemma =>
          go_wp2_with fail
          go_loopw [11] (fun i wr => ∃ j : Nat, j ≤ n ∧ i = .int .i64 j ∧ Hid (TB w (N : Int) g bo bc bd bg (k + 1) s1 wr (.slice Aa n ca) xs)) (fun i _ => n - (intOf i).toNat)
          case atStart => exact ⟨0, Nat.zero_le _, rfl, T4.out⟩
          case round =>
            obtain ⟨j2, hj2, rfl, T5⟩ := hrel
            by_cases hjn : j2 < n
            · have z2 : (0 : Int) ≤ (j2 : Int) := by omega
              have z3 : (j2 : Int) < (n : Int) := by omega
              have hjx : j2 < xs.length := by rw [HX.out]; exact hjn
              obtain ⟨b5, o5, rfl, p5⟩ := T5.out.row.rd.at_ hjx
              have hmem := List.getElem_mem hjx
              generalize xs[j2]'hjx = t5 at *
              have HA := Lib.hid (T5.out.all t5 hmem)
              have W5 : Hid (wf64 t5) := by show wf64 _; have h1 := HA.out.lo; have h2 := HA.out.hi; have h3 := T5.out.fst.nx; exact ⟨by omega, by omega⟩
              clear hmem
              go_wp2_with fail
              refine (tb_all T5.out t5 W5.out).mono ?_
              rintro e w6 ⟨r, rfl, hr, hb⟩
              obtain rfl : r = true := hr.2 HA.out.all
              have T6 := Lib.hid (T5.out.below hb)
              clear hr hb p5
              go_wp2_with fail
              go_roundw
              case rel => exact ⟨j2 + 1, by omega, by go_num, T6.out⟩
              case measure => simp [intOf]; omega
            · obtain rfl : n = j2 := by omega
              go_wp2_with fail
              refine (open_any T5.out.fst.tab).mono ?_
              rintro e w6 ⟨v6, s6, rfl, hK6, hO6, hb6⟩
              have T6 := Lib.hid (T5.out.below hb6)
              have K6 := Lib.hid hK6
              obtain ⟨A6, c6, rfl, -⟩ := hO6.slice
              obtain ⟨q6, hq6⟩ : ∃ q6, q6 = s6.length := ⟨_, rfl⟩
              obtain ⟨B6, hB6⟩ : ∃ B6, B6 = wr.heap.size := ⟨_, rfl⟩
              rw [← hq6, ← hB6] at hO6
              rw [← hq6]
              have O6 := Lib.hid hO6
              have L6 := Lib.hid hq6.symm
              have q616 : q6 ≤ 16 := by have h1 := hK6.len; have h2 := T5.out.fst.tab.ok.so16; omega
              have AP : Hid (∀ b, (Value.slice A6 q6 c6).ownBlock = some b → (Value.slice Aa n ca).ownBlock ≠ some b) := by
                show ∀ b, _ → _
                intro b hb e
                have h1 := (World.ownsRow.lt hO6 b hb).1
                have h2 := (T5.out.row.lt e).2
                omega
              obtain ⟨nN, hnN⟩ : ∃ nN : Nat, (nN : Int) = s1.next := ⟨s1.next.toNat, by have h1 := T5.out.fst.tab.ok.f1; have h2 := T5.out.fst.tab.ok.fn; omega⟩
              have HN6 := Lib.hid hnN.symm
              have nN1 : 1 ≤ nN := by have h1 := T5.out.fst.tab.ok.f1; have h2 := T5.out.fst.tab.ok.fn; omega
              have nN2 : nN ≤ 60 := by have h1 := T5.out.fst.nx; omega
              clear hK6 hO6 hb6 hq6 hB6 hnN
              go_wp2_with fail
              go_loopw [7, 13] (fun v i wr => ∃ (ys : List Int) (j : Nat), 1 ≤ j ∧ j ≤ nN ∧ i = .int .i64 j ∧ Hid (TB w (N : Int) g bo bc bd bg (k + 1) s1 wr v ys ∧ OwnI wr B6 (.slice A6 q6 c6) s6 ∧ ys.length ≤ 200 + j ∧ (∀ b, (Value.slice A6 q6 c6).ownBlock = some b → v.ownBlock ≠ some b))) (fun _ i _ => nN - (intOf i).toNat)
              case atStart => exact ⟨xs, 1, Nat.le_refl _, nN1, rfl, T6.out, O6.out, by have := HX.out; omega, AP.out⟩
              case round =>
                obtain ⟨ys, j3, hj3, hj3n, rfl, hI⟩ := hrel
                obtain ⟨hT, hO, hl7, hap⟩ := hI.out
                have T7 := Lib.hid hT
                have O7 := Lib.hid hO
                have AP7 := Lib.hid hap
                obtain ⟨A7, c7, rfl, -, hc7, hm7⟩ := hT.row.slice
                obtain ⟨n7, hn7⟩ : ∃ n7, n7 = ys.length := ⟨_, rfl⟩
                rw [← hn7] at T7 AP7 hl7 hc7 ⊢
                have HY := Lib.hid hn7.symm
                clear hI hT hO hap hn7
                go_wp2_with fail
                refine (next_any T7.out.fst.tab).mono ?_
                rintro e w' ⟨rfl, rfl⟩
                rw [HN6.out]
                by_cases hjn3 : j3 < nN
                · have z4 : (0 : Int) ≤ (j3 : Int) := by omega
                  have z5 : (j3 : Int) < (nN : Int) := by omega
                  have WJ : Hid (wf64 (j3 : Int)) := by show wf64 _; exact ⟨by omega, by omega⟩
                  go_wp2_with fail
                  go_loopw [14, 15] (fun e i wr => ∃ (m : Nat) (b : Bool), m ≤ q6 ∧ e = .bool b ∧ i = .int .i64 m ∧ Hid ((b = true ↔ EachTo s1 s6 (j3 : Int) m) ∧ TB w (N : Int) g bo bc bd bg (k + 1) s1 wr (.slice A7 n7 c7) ys ∧ OwnI wr B6 (.slice A6 q6 c6) s6)) (fun _ i _ => q6 - (intOf i).toNat)
                  case atStart => exact ⟨0, true, Nat.zero_le _, rfl, rfl, ⟨fun _ => EachTo.zero _ _ _, fun _ => rfl⟩, T7.out, O7.out⟩
                  case round =>
                    obtain ⟨m4, b4, hm4, rfl, rfl, hI⟩ := hrel
                    by_cases hmq : m4 < q6
                    · have z6 : (0 : Int) ≤ (m4 : Int) := by omega
                      have z7 : (m4 : Int) < (q6 : Int) := by omega
                      have hms : m4 < s6.length := by rw [L6.out]; exact hmq
                      cases b4 with
                      | false =>
                        have F4 : Hid (false = true ↔ EachTo s1 s6 (j3 : Int) (m4 + 1)) := by show _ ↔ _; rw [EachTo.step (List.getElem?_eq_getElem hms), ← hI.out.1]; simp
                        go_wp2_with fail
                        go_roundw
                        case rel => exact ⟨m4 + 1, false, by omega, by go_num, by go_num, F4.out, hI.out.2.1, hI.out.2.2⟩
                        case measure => simp [intOf]; omega
                      | true =>
                        obtain ⟨b8, o8, rfl, p8⟩ := hI.out.2.2.rd.at_ hms
                        have hmem := List.getElem_mem hms
                        have hy4 := List.getElem?_eq_getElem hms
                        generalize s6[m4]'hms = y4 at *
                        have HY4 := Lib.hid hy4
                        have S4 : Hid (∀ b : Bool, (b = true ↔ (visB s1 y4 (j3 : Int) = true ∧ y4 ≠ (j3 : Int))) → (b = true ↔ EachTo s1 s6 (j3 : Int) (m4 + 1))) := by
                          show ∀ b : Bool, _ → _
                          intro b h
                          rw [h, EachTo.step hy4, ← hI.out.1]
                          simp
                        have WY := Lib.hid (K6.out.wf y4 hmem)
                        clear hmem hy4
                        go_wp2_with fail
                        refine (tb_vis hI.out.2.1 y4 (j3 : Int) WY.out WJ.out).mono ?_
                        rintro e w9 ⟨rfl, hb⟩
                        have T9 := Lib.hid (hI.out.2.1.below hb)
                        have O9 := Lib.hid (hI.out.2.2.below hb)
                        clear hb p8
                        obtain ⟨vb, hvb⟩ : ∃ vb, vb = visB s1 y4 (j3 : Int) := ⟨_, rfl⟩
                        rw [← hvb] at S4 ⊢
                        clear hvb
                        cases vb with
                        | false =>
                          have F4 := Lib.hid (S4.out false (by simp))
                          go_wp2_with fail
                          go_roundw
                          case rel => exact ⟨m4 + 1, false, by omega, by go_num, by go_num, F4.out, T9.out, O9.out⟩
                          case measure => simp [intOf]; omega
                        | true =>
                          have p9 := O9.out.rd.cell_at (j := m4) (x := y4) HY4.out
                          by_cases hne : y4 = (j3 : Int)
                          · have qn : (y4 == (j3 : Int)) = true := by rw [beq_iff_eq]; exact hne
                            have F4 := Lib.hid (S4.out false (by simp [hne]))
                            have HNE := Lib.hid hne
                            clear hne
                            go_wp2_with fail
                            go_roundw
                            case rel => exact ⟨m4 + 1, false, by omega, by first | rfl | (have h := HNE.out; simp [h]), by go_num, by simpa using F4.out, T9.out, O9.out⟩
                            case measure => simp [intOf]; omega
                          · have qn : (y4 == (j3 : Int)) = false := by rw [beq_eq_false_iff_ne]; exact hne
                            have F4 := Lib.hid (S4.out true (by simp [hne]))
                            have HNE := Lib.hid hne
                            clear hne
                            go_wp2_with fail
                            go_roundw
                            case rel => exact ⟨m4 + 1, true, by omega, by first | rfl | (have h := HNE.out; simp [h]), by go_num, by simpa using F4.out, T9.out, O9.out⟩
                            case measure => simp [intOf]; omega
                    · obtain rfl : q6 = m4 := by omega
                      have EB : (b4 = true ↔ Each s1 s6 (j3 : Int)) := hI.out.1.trans (EachTo.each L6.out)
                      go_wp2_with fail
                      refine (tb_all hI.out.2.1 (j3 : Int) WJ.out).mono ?_
                      rintro e w9 ⟨r, rfl, hr, hb⟩
                      have T9 := Lib.hid (hI.out.2.1.below hb)
                      have O9 := Lib.hid (hI.out.2.2.below hb)
                      have f1 : r = true → b4 = true := fun h => EB.2 ((hr.1 h).each T9.out.tx K6.out)
                      have f2 : 0 < q6 → b4 = true → r = true := fun h1 h2 => hr.2 ((EB.1 h2).allP K6.out (by rw [← K6.out.len, L6.out]; exact h1))
                      clear EB hb
                      by_cases hq6 : q6 = 0
                      · subst hq6
                        clear f2
                        cases r with
                        | false =>
                          have NA : Hid (¬ allP s1 (j3 : Int)) := Lib.hid (fun h => absurd (hr.2 h) (by decide))
                          clear f1 hr
                          go_wp2_with fail
                          refine (tb_all T9.out (j3 : Int) WJ.out).mono ?_
                          rintro e w10 ⟨r3, rfl, hr3, hb⟩
                          obtain rfl : r3 = false := by
                            cases r3
                            · rfl
                            · exact absurd (hr3.1 rfl) NA.out
                          have T10 := Lib.hid (T9.out.below hb)
                          have O10 := Lib.hid (O9.out.below hb)
                          clear hb hr3
                          go_wp2_with fail
                          go_roundw
                          case rel => exact ⟨ys, j3 + 1, by omega, by omega, by go_num, T10.out, O10.out, by have := HY.out; omega, AP7.out⟩
                          case measure => simp [intOf]; omega

                        | true =>
                          obtain rfl : b4 = true := f1 rfl
                          have PA := Lib.hid (hr.1 rfl)
                          have AL : Hid (All s1 (j3 : Int)) := ⟨by omega, by rw [HN6.out]; omega, hr.1 rfl⟩
                          clear f1 hr
                          go_wp2_with fail
                          refine (tb_all T9.out (j3 : Int) WJ.out).mono ?_
                          rintro e w10 ⟨r3, rfl, hr3, hb⟩
                          obtain rfl : r3 = true := by
                            cases r3
                            · exact absurd (hr3.2 PA.out) (by decide)
                            · rfl
                          have T10 := Lib.hid (T9.out.below hb)
                          have O10 := Lib.hid (O9.out.below hb)
                          clear hb hr3
                          have A11 : Hid (AllI (w10.alloc (.cells #[.int .i64 (j3 : Int)] 3)) w.heap.size (.slice A7 n7 c7) ys) := by show AllI _ _ _ _; exact T10.out.row.below (balloc (Below.refl _ _) _)
                          go_wp2_with (at_builtin; go_loud (refine wpList_append_all rfl (.tmp 146) (.tmp 148) 22 rfl w.heap.size Try.underlying22 info_int (.slice A7 n7 c7) ys rfl A11.out w10.heap.size rfl (j3 : Int) (by rw [cell_of_row _ _ _ _ _ _ (heap_alloc_new w10 _)]; rfl) (by rw [HY.out]; omega) (balloc T10.out.low _).size ?_; intro v12 w12 ha12 hg12 ho12; have T12 := Lib.hid ((T10.out.below (balloc (Below.refl _ _) (.cells #[.int .i64 (j3 : Int)] 3))).grow ha12 AL.out hg12); have O11 := O10.out.below (balloc (Below.refl _ _) (.cells #[.int .i64 (j3 : Int)] 3)); have AP12 := Lib.hid (fun b (hb : (Value.slice A6 0 c6).ownBlock = some b) (e : v12.ownBlock = some b) => (ho12 b e).elim (fun e => AP7.out b hb e) (fun e => absurd (World.ownsRow.lt O11 b hb).2 (Nat.not_lt.2 e))); have O12 := Lib.hid (O11.kept ((Tch.refl (fun j => (Value.slice A7 n7 c7).ownBlock = some j) _).grown hg12 (fun j e => .inl e)) (fun b hb e => AP7.out b hb e)); clear ha12 hg12 ho12 O11))
                          go_roundw
                          case rel => exact ⟨ys ++ [(j3 : Int)], j3 + 1, by omega, by omega, by go_num, T12.out, O12.out, by have := HY.out; simp; omega, AP12.out⟩
                          case measure => simp [intOf]; omega

                      · have q0 : 0 < q6 := by omega
                        have qi : (0 : Int) < (q6 : Int) := by omega
                        cases r with
                        | false =>
                          obtain rfl : b4 = false := by
                            cases b4
                            · rfl
                            · exact absurd (f2 q0 rfl) (by decide)
                          have NA : Hid (¬ allP s1 (j3 : Int)) := Lib.hid (fun h => absurd (hr.2 h) (by decide))
                          clear f1 f2 hr
                          go_wp2_with fail
                          refine (tb_all T9.out (j3 : Int) WJ.out).mono ?_
                          rintro e w10 ⟨r3, rfl, hr3, hb⟩
                          obtain rfl : r3 = false := by
                            cases r3
                            · rfl
                            · exact absurd (hr3.1 rfl) NA.out
                          have T10 := Lib.hid (T9.out.below hb)
                          have O10 := Lib.hid (O9.out.below hb)
                          clear hb hr3
                          go_wp2_with fail
                          go_roundw
                          case rel => exact ⟨ys, j3 + 1, by omega, by omega, by go_num, T10.out, O10.out, by have := HY.out; omega, AP7.out⟩
                          case measure => simp [intOf]; omega

                        | true =>
                          obtain rfl : b4 = true := f1 rfl
                          have PA := Lib.hid (hr.1 rfl)
                          have AL : Hid (All s1 (j3 : Int)) := ⟨by omega, by rw [HN6.out]; omega, hr.1 rfl⟩
                          clear f1 f2 hr
                          go_wp2_with fail
                          refine (tb_all T9.out (j3 : Int) WJ.out).mono ?_
                          rintro e w9b ⟨r2, rfl, hr2, hb⟩
                          obtain rfl : r2 = true := by
                            cases r2
                            · exact absurd (hr2.2 PA.out) (by decide)
                            · rfl
                          have T9b := Lib.hid (T9.out.below hb)
                          have O9b := Lib.hid (O9.out.below hb)
                          clear hb hr2

                          go_wp2_with fail
                          refine (tb_all T9b.out (j3 : Int) WJ.out).mono ?_
                          rintro e w10 ⟨r3, rfl, hr3, hb⟩
                          obtain rfl : r3 = true := by
                            cases r3
                            · exact absurd (hr3.2 PA.out) (by decide)
                            · rfl
                          have T10 := Lib.hid (T9b.out.below hb)
                          have O10 := Lib.hid (O9b.out.below hb)
                          clear hb hr3
                          have A11 : Hid (AllI (w10.alloc (.cells #[.int .i64 (j3 : Int)] 3)) w.heap.size (.slice A7 n7 c7) ys) := by show AllI _ _ _ _; exact T10.out.row.below (balloc (Below.refl _ _) _)
                          go_wp2_with (at_builtin; go_loud (refine wpList_append_all rfl (.tmp 146) (.tmp 148) 22 rfl w.heap.size Try.underlying22 info_int (.slice A7 n7 c7) ys rfl A11.out w10.heap.size rfl (j3 : Int) (by rw [cell_of_row _ _ _ _ _ _ (heap_alloc_new w10 _)]; rfl) (by rw [HY.out]; omega) (balloc T10.out.low _).size ?_; intro v12 w12 ha12 hg12 ho12; have T12 := Lib.hid ((T10.out.below (balloc (Below.refl _ _) (.cells #[.int .i64 (j3 : Int)] 3))).grow ha12 AL.out hg12); have O11 := O10.out.below (balloc (Below.refl _ _) (.cells #[.int .i64 (j3 : Int)] 3)); have AP12 := Lib.hid (fun b (hb : (Value.slice A6 q6 c6).ownBlock = some b) (e : v12.ownBlock = some b) => (ho12 b e).elim (fun e => AP7.out b hb e) (fun e => absurd (World.ownsRow.lt O11 b hb).2 (Nat.not_lt.2 e))); have O12 := Lib.hid (O11.kept ((Tch.refl (fun j => (Value.slice A7 n7 c7).ownBlock = some j) _).grown hg12 (fun j e => .inl e)) (fun b hb e => AP7.out b hb e)); clear ha12 hg12 ho12 O11))
                          go_roundw
                          case rel => exact ⟨ys ++ [(j3 : Int)], j3 + 1, by omega, by omega, by go_num, T12.out, O12.out, by have := HY.out; simp; omega, AP12.out⟩
                          case measure => simp [intOf]; omega


                · obtain rfl : nN = j3 := by omega
                  by_cases h2 : 200 < n7
                  · have i2 : (200 : Int) < (n7 : Int) := by omega
                    obtain ⟨d, hd⟩ : ∃ d : Nat, (n7 : Int) - 100 = (d : Int) := ⟨n7 - 100, by omega⟩
                    have d0 : (0 : Int) ≤ (d : Int) := by omega
                    have d1 : (d : Int) ≤ (n7 : Int) := by omega
                    have d2 : (n7 : Int) ≤ (c7 : Int) := by omega
                    have dn : n7 - d = 100 := by omega
                    have hcut : AllI wr w.heap.size (.slice A7 ys.length c7) ys := by rw [HY.out]; exact T7.out.row
                    obtain ⟨g7, o7, rfl, hc⟩ := hcut.cut (n := d) (by rw [HY.out]; omega) (by rw [HY.out]; omega)
                    rw [HY.out, dn] at hc
                    have HC := Lib.hid hc
                    have HD : Hid ((ys.drop d).length = 100) := by show _ = _; rw [List.length_drop, HY.out, dn]
                    clear hcut hc
                    go_wp2_with fail
                    go_roundw
                    case rel => exact ⟨k + 1, s1, ys.drop d, by omega, by omega, by go_num, ⟨T7.out.fst, T7.out.tx, HC.out, fun x hx => T7.out.all x (List.mem_of_mem_drop hx)⟩, by rw [HD.out]; omega⟩
                    case measure => simp [intOf]; omega
                  · have i2 : decide ((200 : Int) < (n7 : Int)) = false := decide_eq_false (by omega)
                    go_wp2_with fail
                    go_roundw
                    case rel => exact ⟨k + 1, s1, ys, by omega, by omega, by go_num, T7.out, by rw [HY.out]; omega⟩
                    case measure => simp [intOf]; omega

      · have e3 : y % 3 = 1 := hc3.symm
        clear hc3
        by_cases hq0 : q = 0
        · subst hq0
          go_wp2_with fail
          refine (tb_begin T2.out (by omega) (by omega)).mono ?_
          rintro e w4 ⟨⟨rn, rr, rfl⟩, s1, hT4⟩
          have T4 := Lib.hid hT4
          clear hT4
          as_aux_lemma =>
            go_wp2_with fail
            go_loopw [11] (fun i wr => ∃ j : Nat, j ≤ n ∧ i = .int .i64 j ∧ Hid (TB w (N : Int) g bo bc bd bg (k + 1) s1 wr (.slice Aa n ca) xs)) (fun i _ => n - (intOf i).toNat)
            case atStart => exact ⟨0, Nat.zero_le _, rfl, T4.out⟩
            case round =>
              obtain ⟨j2, hj2, rfl, T5⟩ := hrel
              by_cases hjn : j2 < n
              · have z2 : (0 : Int) ≤ (j2 : Int) := by omega
                have z3 : (j2 : Int) < (n : Int) := by omega
                have hjx : j2 < xs.length := by rw [HX.out]; exact hjn
                obtain ⟨b5, o5, rfl, p5⟩ := T5.out.row.rd.at_ hjx
                have hmem := List.getElem_mem hjx
                generalize xs[j2]'hjx = t5 at *
                have HA := Lib.hid (T5.out.all t5 hmem)
                have W5 : Hid (wf64 t5) := by show wf64 _; have h1 := HA.out.lo; have h2 := HA.out.hi; have h3 := T5.out.fst.nx; exact ⟨by omega, by omega⟩
                clear hmem
                go_wp2_with fail
                refine (tb_all T5.out t5 W5.out).mono ?_
                rintro e w6 ⟨r, rfl, hr, hb⟩
                obtain rfl : r = true := hr.2 HA.out.all
                have T6 := Lib.hid (T5.out.below hb)
                clear hr hb p5
                go_wp2_with fail
                go_roundw
                case rel => exact ⟨j2 + 1, by omega, by go_num, T6.out⟩
                case measure => simp [intOf]; omega
              · obtain rfl : n = j2 := by omega
                go_wp2_with fail
                refine (open_any T5.out.fst.tab).mono ?_
                rintro e w6 ⟨v6, s6, rfl, hK6, hO6, hb6⟩
                have T6 := Lib.hid (T5.out.below hb6)
                have K6 := Lib.hid hK6
                obtain ⟨A6, c6, rfl, -⟩ := hO6.slice
                obtain ⟨q6, hq6⟩ : ∃ q6, q6 = s6.length := ⟨_, rfl⟩
                obtain ⟨B6, hB6⟩ : ∃ B6, B6 = wr.heap.size := ⟨_, rfl⟩
                rw [← hq6, ← hB6] at hO6
                rw [← hq6]
                have O6 := Lib.hid hO6
                have L6 := Lib.hid hq6.symm
                have q616 : q6 ≤ 16 := by have h1 := hK6.len; have h2 := T5.out.fst.tab.ok.so16; omega
                have AP : Hid (∀ b, (Value.slice A6 q6 c6).ownBlock = some b → (Value.slice Aa n ca).ownBlock ≠ some b) := by
                  show ∀ b, _ → _
                  intro b hb e
                  have h1 := (World.ownsRow.lt hO6 b hb).1
                  have h2 := (T5.out.row.lt e).2
                  omega
                obtain ⟨nN, hnN⟩ : ∃ nN : Nat, (nN : Int) = s1.next := ⟨s1.next.toNat, by have h1 := T5.out.fst.tab.ok.f1; have h2 := T5.out.fst.tab.ok.fn; omega⟩
                have HN6 := Lib.hid hnN.symm
                have nN1 : 1 ≤ nN := by have h1 := T5.out.fst.tab.ok.f1; have h2 := T5.out.fst.tab.ok.fn; omega
                have nN2 : nN ≤ 60 := by have h1 := T5.out.fst.nx; omega
                clear hK6 hO6 hb6 hq6 hB6 hnN
                go_wp2_with fail
                go_loopw [7, 13] (fun v i wr => ∃ (ys : List Int) (j : Nat), 1 ≤ j ∧ j ≤ nN ∧ i = .int .i64 j ∧ Hid (TB w (N : Int) g bo bc bd bg (k + 1) s1 wr v ys ∧ OwnI wr B6 (.slice A6 q6 c6) s6 ∧ ys.length ≤ 200 + j ∧ (∀ b, (Value.slice A6 q6 c6).ownBlock = some b → v.ownBlock ≠ some b))) (fun _ i _ => nN - (intOf i).toNat)
                case atStart => exact ⟨xs, 1, Nat.le_refl _, nN1, rfl, T6.out, O6.out, by have := HX.out; omega, AP.out⟩
                case round =>
                  obtain ⟨ys, j3, hj3, hj3n, rfl, hI⟩ := hrel
                  obtain ⟨hT, hO, hl7, hap⟩ := hI.out
                  have T7 := Lib.hid hT
                  have O7 := Lib.hid hO
                  have AP7 := Lib.hid hap
                  obtain ⟨A7, c7, rfl, -, hc7, hm7⟩ := hT.row.slice
                  obtain ⟨n7, hn7⟩ : ∃ n7, n7 = ys.length := ⟨_, rfl⟩
                  rw [← hn7] at T7 AP7 hl7 hc7 ⊢
                  have HY := Lib.hid hn7.symm
                  clear hI hT hO hap hn7
                  go_wp2_with fail
                  refine (next_any T7.out.fst.tab).mono ?_
                  rintro e w' ⟨rfl, rfl⟩
                  rw [HN6.out]
                  by_cases hjn3 : j3 < nN
                  · have z4 : (0 : Int) ≤ (j3 : Int) := by omega
                    have z5 : (j3 : Int) < (nN : Int) := by omega
                    have WJ : Hid (wf64 (j3 : Int)) := by show wf64 _; exact ⟨by omega, by omega⟩
                    go_wp2_with fail
                    go_loopw [14, 15] (fun e i wr => ∃ (m : Nat) (b : Bool), m ≤ q6 ∧ e = .bool b ∧ i = .int .i64 m ∧ Hid ((b = true ↔ EachTo s1 s6 (j3 : Int) m) ∧ TB w (N : Int) g bo bc bd bg (k + 1) s1 wr (.slice A7 n7 c7) ys ∧ OwnI wr B6 (.slice A6 q6 c6) s6)) (fun _ i _ => q6 - (intOf i).toNat)
                    case atStart => exact ⟨0, true, Nat.zero_le _, rfl, rfl, ⟨fun _ => EachTo.zero _ _ _, fun _ => rfl⟩, T7.out, O7.out⟩
                    case round =>
                      obtain ⟨m4, b4, hm4, rfl, rfl, hI⟩ := hrel
                      by_cases hmq : m4 < q6
                      · have z6 : (0 : Int) ≤ (m4 : Int) := by omega
                        have z7 : (m4 : Int) < (q6 : Int) := by omega
                        have hms : m4 < s6.length := by rw [L6.out]; exact hmq
                        cases b4 with
                        | false =>
                          have F4 : Hid (false = true ↔ EachTo s1 s6 (j3 : Int) (m4 + 1)) := by show _ ↔ _; rw [EachTo.step (List.getElem?_eq_getElem hms), ← hI.out.1]; simp
                          go_wp2_with fail
                          go_roundw
                          case rel => exact ⟨m4 + 1, false, by omega, by go_num, by go_num, F4.out, hI.out.2.1, hI.out.2.2⟩
                          case measure => simp [intOf]; omega
                        | true =>
                          obtain ⟨b8, o8, rfl, p8⟩ := hI.out.2.2.rd.at_ hms
                          have hmem := List.getElem_mem hms
                          have hy4 := List.getElem?_eq_getElem hms
                          generalize s6[m4]'hms = y4 at *
                          have HY4 := Lib.hid hy4
                          have S4 : Hid (∀ b : Bool, (b = true ↔ (visB s1 y4 (j3 : Int) = true ∧ y4 ≠ (j3 : Int))) → (b = true ↔ EachTo s1 s6 (j3 : Int) (m4 + 1))) := by
                            show ∀ b : Bool, _ → _
                            intro b h
                            rw [h, EachTo.step hy4, ← hI.out.1]
                            simp
                          have WY := Lib.hid (K6.out.wf y4 hmem)
                          clear hmem hy4
                          go_wp2_with fail
                          refine (tb_vis hI.out.2.1 y4 (j3 : Int) WY.out WJ.out).mono ?_
                          rintro e w9 ⟨rfl, hb⟩
                          have T9 := Lib.hid (hI.out.2.1.below hb)
                          have O9 := Lib.hid (hI.out.2.2.below hb)
                          clear hb p8
                          obtain ⟨vb, hvb⟩ : ∃ vb, vb = visB s1 y4 (j3 : Int) := ⟨_, rfl⟩
                          rw [← hvb] at S4 ⊢
                          clear hvb
                          cases vb with
                          | false =>
                            have F4 := Lib.hid (S4.out false (by simp))
                            go_wp2_with fail
                            go_roundw
                            case rel => exact ⟨m4 + 1, false, by omega, by go_num, by go_num, F4.out, T9.out, O9.out⟩
                            case measure => simp [intOf]; omega
                          | true =>
                            have p9 := O9.out.rd.cell_at (j := m4) (x := y4) HY4.out
                            by_cases hne : y4 = (j3 : Int)
                            · have qn : (y4 == (j3 : Int)) = true := by rw [beq_iff_eq]; exact hne
                              have F4 := Lib.hid (S4.out false (by simp [hne]))
                              have HNE := Lib.hid hne
                              clear hne
                              go_wp2_with fail
                              go_roundw
                              case rel => exact ⟨m4 + 1, false, by omega, by first | rfl | (have h := HNE.out; simp [h]), by go_num, by simpa using F4.out, T9.out, O9.out⟩
                              case measure => simp [intOf]; omega
                            · have qn : (y4 == (j3 : Int)) = false := by rw [beq_eq_false_iff_ne]; exact hne
                              have F4 := Lib.hid (S4.out true (by simp [hne]))
                              have HNE := Lib.hid hne
                              clear hne
                              go_wp2_with fail
                              go_roundw
                              case rel => exact ⟨m4 + 1, true, by omega, by first | rfl | (have h := HNE.out; simp [h]), by go_num, by simpa using F4.out, T9.out, O9.out⟩
                              case measure => simp [intOf]; omega
                      · obtain rfl : q6 = m4 := by omega
                        have EB : (b4 = true ↔ Each s1 s6 (j3 : Int)) := hI.out.1.trans (EachTo.each L6.out)
                        go_wp2_with fail
                        refine (tb_all hI.out.2.1 (j3 : Int) WJ.out).mono ?_
                        rintro e w9 ⟨r, rfl, hr, hb⟩
                        have T9 := Lib.hid (hI.out.2.1.below hb)
                        have O9 := Lib.hid (hI.out.2.2.below hb)
                        have f1 : r = true → b4 = true := fun h => EB.2 ((hr.1 h).each T9.out.tx K6.out)
                        have f2 : 0 < q6 → b4 = true → r = true := fun h1 h2 => hr.2 ((EB.1 h2).allP K6.out (by rw [← K6.out.len, L6.out]; exact h1))
                        clear EB hb
                        by_cases hq6 : q6 = 0
                        · subst hq6
                          clear f2
                          cases r with
                          | false =>
                            have NA : Hid (¬ allP s1 (j3 : Int)) := Lib.hid (fun h => absurd (hr.2 h) (by decide))
                            clear f1 hr
                            go_wp2_with fail
                            refine (tb_all T9.out (j3 : Int) WJ.out).mono ?_
                            rintro e w10 ⟨r3, rfl, hr3, hb⟩
                            obtain rfl : r3 = false := by
                              cases r3
                              · rfl
                              · exact absurd (hr3.1 rfl) NA.out
                            have T10 := Lib.hid (T9.out.below hb)
                            have O10 := Lib.hid (O9.out.below hb)
                            clear hb hr3
                            go_wp2_with fail
                            go_roundw
                            case rel => exact ⟨ys, j3 + 1, by omega, by omega, by go_num, T10.out, O10.out, by have := HY.out; omega, AP7.out⟩
                            case measure => simp [intOf]; omega

                          | true =>
                            obtain rfl : b4 = true := f1 rfl
                            have PA := Lib.hid (hr.1 rfl)
                            have AL : Hid (All s1 (j3 : Int)) := ⟨by omega, by rw [HN6.out]; omega, hr.1 rfl⟩
                            clear f1 hr
                            go_wp2_with fail
                            refine (tb_all T9.out (j3 : Int) WJ.out).mono ?_
                            rintro e w10 ⟨r3, rfl, hr3, hb⟩
                            obtain rfl : r3 = true := by
                              cases r3
                              · exact absurd (hr3.2 PA.out) (by decide)
                              · rfl
                            have T10 := Lib.hid (T9.out.below hb)
                            have O10 := Lib.hid (O9.out.below hb)
                            clear hb hr3
                            have A11 : Hid (AllI (w10.alloc (.cells #[.int .i64 (j3 : Int)] 3)) w.heap.size (.slice A7 n7 c7) ys) := by show AllI _ _ _ _; exact T10.out.row.below (balloc (Below.refl _ _) _)
                            go_wp2_with (at_builtin; go_loud (refine wpList_append_all rfl (.tmp 146) (.tmp 148) 22 rfl w.heap.size Try.underlying22 info_int (.slice A7 n7 c7) ys rfl A11.out w10.heap.size rfl (j3 : Int) (by rw [cell_of_row _ _ _ _ _ _ (heap_alloc_new w10 _)]; rfl) (by rw [HY.out]; omega) (balloc T10.out.low _).size ?_; intro v12 w12 ha12 hg12 ho12; have T12 := Lib.hid ((T10.out.below (balloc (Below.refl _ _) (.cells #[.int .i64 (j3 : Int)] 3))).grow ha12 AL.out hg12); have O11 := O10.out.below (balloc (Below.refl _ _) (.cells #[.int .i64 (j3 : Int)] 3)); have AP12 := Lib.hid (fun b (hb : (Value.slice A6 0 c6).ownBlock = some b) (e : v12.ownBlock = some b) => (ho12 b e).elim (fun e => AP7.out b hb e) (fun e => absurd (World.ownsRow.lt O11 b hb).2 (Nat.not_lt.2 e))); have O12 := Lib.hid (O11.kept ((Tch.refl (fun j => (Value.slice A7 n7 c7).ownBlock = some j) _).grown hg12 (fun j e => .inl e)) (fun b hb e => AP7.out b hb e)); clear ha12 hg12 ho12 O11))
                            go_roundw
                            case rel => exact ⟨ys ++ [(j3 : Int)], j3 + 1, by omega, by omega, by go_num, T12.out, O12.out, by have := HY.out; simp; omega, AP12.out⟩
                            case measure => simp [intOf]; omega

                        · have q0 : 0 < q6 := by omega
                          have qi : (0 : Int) < (q6 : Int) := by omega
                          cases r with
                          | false =>
                            obtain rfl : b4 = false := by
                              cases b4
                              · rfl
                              · exact absurd (f2 q0 rfl) (by decide)
                            have NA : Hid (¬ allP s1 (j3 : Int)) := Lib.hid (fun h => absurd (hr.2 h) (by decide))
                            clear f1 f2 hr
                            go_wp2_with fail
                            refine (tb_all T9.out (j3 : Int) WJ.out).mono ?_
                            rintro e w10 ⟨r3, rfl, hr3, hb⟩
                            obtain rfl : r3 = false := by
                              cases r3
                              · rfl
                              · exact absurd (hr3.1 rfl) NA.out
                            have T10 := Lib.hid (T9.out.below hb)
                            have O10 := Lib.hid (O9.out.below hb)
                            clear hb hr3
                            go_wp2_with fail
                            go_roundw
                            case rel => exact ⟨ys, j3 + 1, by omega, by omega, by go_num, T10.out, O10.out, by have := HY.out; omega, AP7.out⟩
                            case measure => simp [intOf]; omega

                          | true =>
                            obtain rfl : b4 = true := f1 rfl
                            have PA := Lib.hid (hr.1 rfl)
                            have AL : Hid (All s1 (j3 : Int)) := ⟨by omega, by rw [HN6.out]; omega, hr.1 rfl⟩
                            clear f1 f2 hr
                            go_wp2_with fail
                            refine (tb_all T9.out (j3 : Int) WJ.out).mono ?_
                            rintro e w9b ⟨r2, rfl, hr2, hb⟩
                            obtain rfl : r2 = true := by
                              cases r2
                              · exact absurd (hr2.2 PA.out) (by decide)
                              · rfl
                            have T9b := Lib.hid (T9.out.below hb)
                            have O9b := Lib.hid (O9.out.below hb)
                            clear hb hr2

                            go_wp2_with fail
                            refine (tb_all T9b.out (j3 : Int) WJ.out).mono ?_
                            rintro e w10 ⟨r3, rfl, hr3, hb⟩
                            obtain rfl : r3 = true := by
                              cases r3
                              · exact absurd (hr3.2 PA.out) (by decide)
                              · rfl
                            have T10 := Lib.hid (T9b.out.below hb)
                            have O10 := Lib.hid (O9b.out.below hb)
                            clear hb hr3
                            have A11 : Hid (AllI (w10.alloc (.cells #[.int .i64 (j3 : Int)] 3)) w.heap.size (.slice A7 n7 c7) ys) := by show AllI _ _ _ _; exact T10.out.row.below (balloc (Below.refl _ _) _)
                            go_wp2_with (at_builtin; go_loud (refine wpList_append_all rfl (.tmp 146) (.tmp 148) 22 rfl w.heap.size Try.underlying22 info_int (.slice A7 n7 c7) ys rfl A11.out w10.heap.size rfl (j3 : Int) (by rw [cell_of_row _ _ _ _ _ _ (heap_alloc_new w10 _)]; rfl) (by rw [HY.out]; omega) (balloc T10.out.low _).size ?_; intro v12 w12 ha12 hg12 ho12; have T12 := Lib.hid ((T10.out.below (balloc (Below.refl _ _) (.cells #[.int .i64 (j3 : Int)] 3))).grow ha12 AL.out hg12); have O11 := O10.out.below (balloc (Below.refl _ _) (.cells #[.int .i64 (j3 : Int)] 3)); have AP12 := Lib.hid (fun b (hb : (Value.slice A6 q6 c6).ownBlock = some b) (e : v12.ownBlock = some b) => (ho12 b e).elim (fun e => AP7.out b hb e) (fun e => absurd (World.ownsRow.lt O11 b hb).2 (Nat.not_lt.2 e))); have O12 := Lib.hid (O11.kept ((Tch.refl (fun j => (Value.slice A7 n7 c7).ownBlock = some j) _).grown hg12 (fun j e => .inl e)) (fun b hb e => AP7.out b hb e)); clear ha12 hg12 ho12 O11))
                            go_roundw
                            case rel => exact ⟨ys ++ [(j3 : Int)], j3 + 1, by omega, by omega, by go_num, T12.out, O12.out, by have := HY.out; simp; omega, AP12.out⟩
                            case measure => simp [intOf]; omega


                  · obtain rfl : nN = j3 := by omega
                    by_cases h2 : 200 < n7
                    · have i2 : (200 : Int) < (n7 : Int) := by omega
                      obtain ⟨d, hd⟩ : ∃ d : Nat, (n7 : Int) - 100 = (d : Int) := ⟨n7 - 100, by omega⟩
                      have d0 : (0 : Int) ≤ (d : Int) := by omega
                      have d1 : (d : Int) ≤ (n7 : Int) := by omega
                      have d2 : (n7 : Int) ≤ (c7 : Int) := by omega
                      have dn : n7 - d = 100 := by omega
                      have hcut : AllI wr w.heap.size (.slice A7 ys.length c7) ys := by rw [HY.out]; exact T7.out.row
                      obtain ⟨g7, o7, rfl, hc⟩ := hcut.cut (n := d) (by rw [HY.out]; omega) (by rw [HY.out]; omega)
                      rw [HY.out, dn] at hc
                      have HC := Lib.hid hc
                      have HD : Hid ((ys.drop d).length = 100) := by show _ = _; rw [List.length_drop, HY.out, dn]
                      clear hcut hc
                      go_wp2_with fail
                      go_roundw
                      case rel => exact ⟨k + 1, s1, ys.drop d, by omega, by omega, by go_num, ⟨T7.out.fst, T7.out.tx, HC.out, fun x hx => T7.out.all x (List.mem_of_mem_drop hx)⟩, by rw [HD.out]; omega⟩
                      case measure => simp [intOf]; omega
                    · have i2 : decide ((200 : Int) < (n7 : Int)) = false := decide_eq_false (by omega)
                      go_wp2_with fail
                      go_roundw
                      case rel => exact ⟨k + 1, s1, ys, by omega, by omega, by go_num, T7.out, by rw [HY.out]; omega⟩
                      case measure => simp [intOf]; omega

        · have qf : ((q : Int) == 0) = false := by rw [beq_eq_false_iff_ne]; omega
          have qf2 : (q == 0) = false := by rw [beq_eq_false_iff_ne]; exact hq0
          have hq0 : (q : Int) ≠ 0 := by omega
          have hqp : (0 : Int) < (q : Int) := by omega
          have r0 : 0 ≤ y / 3 % (q : Int) := Int.emod_nonneg _ hq0
          have r1 : y / 3 % (q : Int) < (q : Int) := Int.emod_lt_of_pos _ hqp
          have q3 : 0 ≤ y / 3 := by omega
          obtain ⟨j, hj⟩ := Int.eq_ofNat_of_zero_le r0
          have hjq : j < q := by omega
          have hjl : j < ss.length := by rw [HQ.out]; exact hjq
          obtain ⟨bl, ol, rfl, pj⟩ := RL.out.at_ hjl
          have hmem := List.getElem_mem hjl
          generalize ss[j]'hjl = tx at *
          have WT := Lib.hid (KO.out.wf tx hmem)
          obtain ⟨pt, hpt⟩ := Option.isSome_iff_exists.1 ((KO.out.has tx WT.out).1 hmem)
          have PT := Lib.hid hpt
          clear hmem hpt
          go_wp2_with fail
          refine (tb_commit T2.out (by omega) tx pt WT.out PT.out).mono ?_
          rintro e w4 ⟨rfl, s1, hT4⟩
          have T4 := Lib.hid hT4
          clear hT4 pj
          as_aux_lemma =>
            go_wp2_with fail
            go_loopw [11] (fun i wr => ∃ j : Nat, j ≤ n ∧ i = .int .i64 j ∧ Hid (TB w (N : Int) g bo bc bd bg (k + 1) s1 wr (.slice Aa n ca) xs)) (fun i _ => n - (intOf i).toNat)
            case atStart => exact ⟨0, Nat.zero_le _, rfl, T4.out⟩
            case round =>
              obtain ⟨j2, hj2, rfl, T5⟩ := hrel
              by_cases hjn : j2 < n
              · have z2 : (0 : Int) ≤ (j2 : Int) := by omega
                have z3 : (j2 : Int) < (n : Int) := by omega
                have hjx : j2 < xs.length := by rw [HX.out]; exact hjn
                obtain ⟨b5, o5, rfl, p5⟩ := T5.out.row.rd.at_ hjx
                have hmem := List.getElem_mem hjx
                generalize xs[j2]'hjx = t5 at *
                have HA := Lib.hid (T5.out.all t5 hmem)
                have W5 : Hid (wf64 t5) := by show wf64 _; have h1 := HA.out.lo; have h2 := HA.out.hi; have h3 := T5.out.fst.nx; exact ⟨by omega, by omega⟩
                clear hmem
                go_wp2_with fail
                refine (tb_all T5.out t5 W5.out).mono ?_
                rintro e w6 ⟨r, rfl, hr, hb⟩
                obtain rfl : r = true := hr.2 HA.out.all
                have T6 := Lib.hid (T5.out.below hb)
                clear hr hb p5
                go_wp2_with fail
                go_roundw
                case rel => exact ⟨j2 + 1, by omega, by go_num, T6.out⟩
                case measure => simp [intOf]; omega
              · obtain rfl : n = j2 := by omega
                go_wp2_with fail
                refine (open_any T5.out.fst.tab).mono ?_
                rintro e w6 ⟨v6, s6, rfl, hK6, hO6, hb6⟩
                have T6 := Lib.hid (T5.out.below hb6)
                have K6 := Lib.hid hK6
                obtain ⟨A6, c6, rfl, -⟩ := hO6.slice
                obtain ⟨q6, hq6⟩ : ∃ q6, q6 = s6.length := ⟨_, rfl⟩
                obtain ⟨B6, hB6⟩ : ∃ B6, B6 = wr.heap.size := ⟨_, rfl⟩
                rw [← hq6, ← hB6] at hO6
                rw [← hq6]
                have O6 := Lib.hid hO6
                have L6 := Lib.hid hq6.symm
                have q616 : q6 ≤ 16 := by have h1 := hK6.len; have h2 := T5.out.fst.tab.ok.so16; omega
                have AP : Hid (∀ b, (Value.slice A6 q6 c6).ownBlock = some b → (Value.slice Aa n ca).ownBlock ≠ some b) := by
                  show ∀ b, _ → _
                  intro b hb e
                  have h1 := (World.ownsRow.lt hO6 b hb).1
                  have h2 := (T5.out.row.lt e).2
                  omega
                obtain ⟨nN, hnN⟩ : ∃ nN : Nat, (nN : Int) = s1.next := ⟨s1.next.toNat, by have h1 := T5.out.fst.tab.ok.f1; have h2 := T5.out.fst.tab.ok.fn; omega⟩
                have HN6 := Lib.hid hnN.symm
                have nN1 : 1 ≤ nN := by have h1 := T5.out.fst.tab.ok.f1; have h2 := T5.out.fst.tab.ok.fn; omega
                have nN2 : nN ≤ 60 := by have h1 := T5.out.fst.nx; omega
                clear hK6 hO6 hb6 hq6 hB6 hnN
                go_wp2_with fail
                go_loopw [7, 13] (fun v i wr => ∃ (ys : List Int) (j : Nat), 1 ≤ j ∧ j ≤ nN ∧ i = .int .i64 j ∧ Hid (TB w (N : Int) g bo bc bd bg (k + 1) s1 wr v ys ∧ OwnI wr B6 (.slice A6 q6 c6) s6 ∧ ys.length ≤ 200 + j ∧ (∀ b, (Value.slice A6 q6 c6).ownBlock = some b → v.ownBlock ≠ some b))) (fun _ i _ => nN - (intOf i).toNat)
                case atStart => exact ⟨xs, 1, Nat.le_refl _, nN1, rfl, T6.out, O6.out, by have := HX.out; omega, AP.out⟩
                case round =>
                  obtain ⟨ys, j3, hj3, hj3n, rfl, hI⟩ := hrel
                  obtain ⟨hT, hO, hl7, hap⟩ := hI.out
                  have T7 := Lib.hid hT
                  have O7 := Lib.hid hO
                  have AP7 := Lib.hid hap
                  obtain ⟨A7, c7, rfl, -, hc7, hm7⟩ := hT.row.slice
                  obtain ⟨n7, hn7⟩ : ∃ n7, n7 = ys.length := ⟨_, rfl⟩
                  rw [← hn7] at T7 AP7 hl7 hc7 ⊢
                  have HY := Lib.hid hn7.symm
                  clear hI hT hO hap hn7
                  go_wp2_with fail
                  refine (next_any T7.out.fst.tab).mono ?_
                  rintro e w' ⟨rfl, rfl⟩
                  rw [HN6.out]
                  by_cases hjn3 : j3 < nN
                  · have z4 : (0 : Int) ≤ (j3 : Int) := by omega
                    have z5 : (j3 : Int) < (nN : Int) := by omega
                    have WJ : Hid (wf64 (j3 : Int)) := by show wf64 _; exact ⟨by omega, by omega⟩
                    go_wp2_with fail
                    go_loopw [14, 15] (fun e i wr => ∃ (m : Nat) (b : Bool), m ≤ q6 ∧ e = .bool b ∧ i = .int .i64 m ∧ Hid ((b = true ↔ EachTo s1 s6 (j3 : Int) m) ∧ TB w (N : Int) g bo bc bd bg (k + 1) s1 wr (.slice A7 n7 c7) ys ∧ OwnI wr B6 (.slice A6 q6 c6) s6)) (fun _ i _ => q6 - (intOf i).toNat)
                    case atStart => exact ⟨0, true, Nat.zero_le _, rfl, rfl, ⟨fun _ => EachTo.zero _ _ _, fun _ => rfl⟩, T7.out, O7.out⟩
                    case round =>
                      obtain ⟨m4, b4, hm4, rfl, rfl, hI⟩ := hrel
                      by_cases hmq : m4 < q6
                      · have z6 : (0 : Int) ≤ (m4 : Int) := by omega
                        have z7 : (m4 : Int) < (q6 : Int) := by omega
                        have hms : m4 < s6.length := by rw [L6.out]; exact hmq
                        cases b4 with
                        | false =>
                          have F4 : Hid (false = true ↔ EachTo s1 s6 (j3 : Int) (m4 + 1)) := by show _ ↔ _; rw [EachTo.step (List.getElem?_eq_getElem hms), ← hI.out.1]; simp
                          go_wp2_with fail
                          go_roundw
                          case rel => exact ⟨m4 + 1, false, by omega, by go_num, by go_num, F4.out, hI.out.2.1, hI.out.2.2⟩
                          case measure => simp [intOf]; omega
                        | true =>
                          obtain ⟨b8, o8, rfl, p8⟩ := hI.out.2.2.rd.at_ hms
                          have hmem := List.getElem_mem hms
                          have hy4 := List.getElem?_eq_getElem hms
                          generalize s6[m4]'hms = y4 at *
                          have HY4 := Lib.hid hy4
                          have S4 : Hid (∀ b : Bool, (b = true ↔ (visB s1 y4 (j3 : Int) = true ∧ y4 ≠ (j3 : Int))) → (b = true ↔ EachTo s1 s6 (j3 : Int) (m4 + 1))) := by
                            show ∀ b : Bool, _ → _
                            intro b h
                            rw [h, EachTo.step hy4, ← hI.out.1]
                            simp
                          have WY := Lib.hid (K6.out.wf y4 hmem)
                          clear hmem hy4
                          go_wp2_with fail
                          refine (tb_vis hI.out.2.1 y4 (j3 : Int) WY.out WJ.out).mono ?_
                          rintro e w9 ⟨rfl, hb⟩
                          have T9 := Lib.hid (hI.out.2.1.below hb)
                          have O9 := Lib.hid (hI.out.2.2.below hb)
                          clear hb p8
                          obtain ⟨vb, hvb⟩ : ∃ vb, vb = visB s1 y4 (j3 : Int) := ⟨_, rfl⟩
                          rw [← hvb] at S4 ⊢
                          clear hvb
                          cases vb with
                          | false =>
                            have F4 := Lib.hid (S4.out false (by simp))
                            go_wp2_with fail
                            go_roundw
                            case rel => exact ⟨m4 + 1, false, by omega, by go_num, by go_num, F4.out, T9.out, O9.out⟩
                            case measure => simp [intOf]; omega
                          | true =>
                            have p9 := O9.out.rd.cell_at (j := m4) (x := y4) HY4.out
                            by_cases hne : y4 = (j3 : Int)
                            · have qn : (y4 == (j3 : Int)) = true := by rw [beq_iff_eq]; exact hne
                              have F4 := Lib.hid (S4.out false (by simp [hne]))
                              have HNE := Lib.hid hne
                              clear hne
                              go_wp2_with fail
                              go_roundw
                              case rel => exact ⟨m4 + 1, false, by omega, by first | rfl | (have h := HNE.out; simp [h]), by go_num, by simpa using F4.out, T9.out, O9.out⟩
                              case measure => simp [intOf]; omega
                            · have qn : (y4 == (j3 : Int)) = false := by rw [beq_eq_false_iff_ne]; exact hne
                              have F4 := Lib.hid (S4.out true (by simp [hne]))
                              have HNE := Lib.hid hne
                              clear hne
                              go_wp2_with fail
                              go_roundw
                              case rel => exact ⟨m4 + 1, true, by omega, by first | rfl | (have h := HNE.out; simp [h]), by go_num, by simpa using F4.out, T9.out, O9.out⟩
                              case measure => simp [intOf]; omega
                      · obtain rfl : q6 = m4 := by omega
                        have EB : (b4 = true ↔ Each s1 s6 (j3 : Int)) := hI.out.1.trans (EachTo.each L6.out)
                        go_wp2_with fail
                        refine (tb_all hI.out.2.1 (j3 : Int) WJ.out).mono ?_
                        rintro e w9 ⟨r, rfl, hr, hb⟩
                        have T9 := Lib.hid (hI.out.2.1.below hb)
                        have O9 := Lib.hid (hI.out.2.2.below hb)
                        have f1 : r = true → b4 = true := fun h => EB.2 ((hr.1 h).each T9.out.tx K6.out)
                        have f2 : 0 < q6 → b4 = true → r = true := fun h1 h2 => hr.2 ((EB.1 h2).allP K6.out (by rw [← K6.out.len, L6.out]; exact h1))
                        clear EB hb
                        by_cases hq6 : q6 = 0
                        · subst hq6
                          clear f2
                          cases r with
                          | false =>
                            have NA : Hid (¬ allP s1 (j3 : Int)) := Lib.hid (fun h => absurd (hr.2 h) (by decide))
                            clear f1 hr
                            go_wp2_with fail
                            refine (tb_all T9.out (j3 : Int) WJ.out).mono ?_
                            rintro e w10 ⟨r3, rfl, hr3, hb⟩
                            obtain rfl : r3 = false := by
                              cases r3
                              · rfl
                              · exact absurd (hr3.1 rfl) NA.out
                            have T10 := Lib.hid (T9.out.below hb)
                            have O10 := Lib.hid (O9.out.below hb)
                            clear hb hr3
                            go_wp2_with fail
                            go_roundw
                            case rel => exact ⟨ys, j3 + 1, by omega, by omega, by go_num, T10.out, O10.out, by have := HY.out; omega, AP7.out⟩
                            case measure => simp [intOf]; omega

                          | true =>
                            obtain rfl : b4 = true := f1 rfl
                            have PA := Lib.hid (hr.1 rfl)
                            have AL : Hid (All s1 (j3 : Int)) := ⟨by omega, by rw [HN6.out]; omega, hr.1 rfl⟩
                            clear f1 hr
                            go_wp2_with fail
                            refine (tb_all T9.out (j3 : Int) WJ.out).mono ?_
                            rintro e w10 ⟨r3, rfl, hr3, hb⟩
                            obtain rfl : r3 = true := by
                              cases r3
                              · exact absurd (hr3.2 PA.out) (by decide)
                              · rfl
                            have T10 := Lib.hid (T9.out.below hb)
                            have O10 := Lib.hid (O9.out.below hb)
                            clear hb hr3
                            have A11 : Hid (AllI (w10.alloc (.cells #[.int .i64 (j3 : Int)] 3)) w.heap.size (.slice A7 n7 c7) ys) := by show AllI _ _ _ _; exact T10.out.row.below (balloc (Below.refl _ _) _)
                            go_wp2_with (at_builtin; go_loud (refine wpList_append_all rfl (.tmp 146) (.tmp 148) 22 rfl w.heap.size Try.underlying22 info_int (.slice A7 n7 c7) ys rfl A11.out w10.heap.size rfl (j3 : Int) (by rw [cell_of_row _ _ _ _ _ _ (heap_alloc_new w10 _)]; rfl) (by rw [HY.out]; omega) (balloc T10.out.low _).size ?_; intro v12 w12 ha12 hg12 ho12; have T12 := Lib.hid ((T10.out.below (balloc (Below.refl _ _) (.cells #[.int .i64 (j3 : Int)] 3))).grow ha12 AL.out hg12); have O11 := O10.out.below (balloc (Below.refl _ _) (.cells #[.int .i64 (j3 : Int)] 3)); have AP12 := Lib.hid (fun b (hb : (Value.slice A6 0 c6).ownBlock = some b) (e : v12.ownBlock = some b) => (ho12 b e).elim (fun e => AP7.out b hb e) (fun e => absurd (World.ownsRow.lt O11 b hb).2 (Nat.not_lt.2 e))); have O12 := Lib.hid (O11.kept ((Tch.refl (fun j => (Value.slice A7 n7 c7).ownBlock = some j) _).grown hg12 (fun j e => .inl e)) (fun b hb e => AP7.out b hb e)); clear ha12 hg12 ho12 O11))
                            go_roundw
                            case rel => exact ⟨ys ++ [(j3 : Int)], j3 + 1, by omega, by omega, by go_num, T12.out, O12.out, by have := HY.out; simp; omega, AP12.out⟩
                            case measure => simp [intOf]; omega

                        · have q0 : 0 < q6 := by omega
                          have qi : (0 : Int) < (q6 : Int) := by omega
                          cases r with
                          | false =>
                            obtain rfl : b4 = false := by
                              cases b4
                              · rfl
                              · exact absurd (f2 q0 rfl) (by decide)
                            have NA : Hid (¬ allP s1 (j3 : Int)) := Lib.hid (fun h => absurd (hr.2 h) (by decide))
                            clear f1 f2 hr
                            go_wp2_with fail
                            refine (tb_all T9.out (j3 : Int) WJ.out).mono ?_
                            rintro e w10 ⟨r3, rfl, hr3, hb⟩
                            obtain rfl : r3 = false := by
                              cases r3
                              · rfl
                              · exact absurd (hr3.1 rfl) NA.out
                            have T10 := Lib.hid (T9.out.below hb)
                            have O10 := Lib.hid (O9.out.below hb)
                            clear hb hr3
                            go_wp2_with fail
                            go_roundw
                            case rel => exact ⟨ys, j3 + 1, by omega, by omega, by go_num, T10.out, O10.out, by have := HY.out; omega, AP7.out⟩
                            case measure => simp [intOf]; omega

                          | true =>
                            obtain rfl : b4 = true := f1 rfl
                            have PA := Lib.hid (hr.1 rfl)
                            have AL : Hid (All s1 (j3 : Int)) := ⟨by omega, by rw [HN6.out]; omega, hr.1 rfl⟩
                            clear f1 f2 hr
                            go_wp2_with fail
                            refine (tb_all T9.out (j3 : Int) WJ.out).mono ?_
                            rintro e w9b ⟨r2, rfl, hr2, hb⟩
                            obtain rfl : r2 = true := by
                              cases r2
                              · exact absurd (hr2.2 PA.out) (by decide)
                              · rfl
                            have T9b := Lib.hid (T9.out.below hb)
                            have O9b := Lib.hid (O9.out.below hb)
                            clear hb hr2

                            go_wp2_with fail
                            refine (tb_all T9b.out (j3 : Int) WJ.out).mono ?_
                            rintro e w10 ⟨r3, rfl, hr3, hb⟩
                            obtain rfl : r3 = true := by
                              cases r3
                              · exact absurd (hr3.2 PA.out) (by decide)
                              · rfl
                            have T10 := Lib.hid (T9b.out.below hb)
                            have O10 := Lib.hid (O9b.out.below hb)
                            clear hb hr3
                            have A11 : Hid (AllI (w10.alloc (.cells #[.int .i64 (j3 : Int)] 3)) w.heap.size (.slice A7 n7 c7) ys) := by show AllI _ _ _ _; exact T10.out.row.below (balloc (Below.refl _ _) _)
                            go_wp2_with (at_builtin; go_loud (refine wpList_append_all rfl (.tmp 146) (.tmp 148) 22 rfl w.heap.size Try.underlying22 info_int (.slice A7 n7 c7) ys rfl A11.out w10.heap.size rfl (j3 : Int) (by rw [cell_of_row _ _ _ _ _ _ (heap_alloc_new w10 _)]; rfl) (by rw [HY.out]; omega) (balloc T10.out.low _).size ?_; intro v12 w12 ha12 hg12 ho12; have T12 := Lib.hid ((T10.out.below (balloc (Below.refl _ _) (.cells #[.int .i64 (j3 : Int)] 3))).grow ha12 AL.out hg12); have O11 := O10.out.below (balloc (Below.refl _ _) (.cells #[.int .i64 (j3 : Int)] 3)); have AP12 := Lib.hid (fun b (hb : (Value.slice A6 q6 c6).ownBlock = some b) (e : v12.ownBlock = some b) => (ho12 b e).elim (fun e => AP7.out b hb e) (fun e => absurd (World.ownsRow.lt O11 b hb).2 (Nat.not_lt.2 e))); have O12 := Lib.hid (O11.kept ((Tch.refl (fun j => (Value.slice A7 n7 c7).ownBlock = some j) _).grown hg12 (fun j e => .inl e)) (fun b hb e => AP7.out b hb e)); clear ha12 hg12 ho12 O11))
                            go_roundw
                            case rel => exact ⟨ys ++ [(j3 : Int)], j3 + 1, by omega, by omega, by go_num, T12.out, O12.out, by have := HY.out; simp; omega, AP12.out⟩
                            case measure => simp [intOf]; omega


                  · obtain rfl : nN = j3 := by omega
                    by_cases h2 : 200 < n7
                    · have i2 : (200 : Int) < (n7 : Int) := by omega
                      obtain ⟨d, hd⟩ : ∃ d : Nat, (n7 : Int) - 100 = (d : Int) := ⟨n7 - 100, by omega⟩
                      have d0 : (0 : Int) ≤ (d : Int) := by omega
                      have d1 : (d : Int) ≤ (n7 : Int) := by omega
                      have d2 : (n7 : Int) ≤ (c7 : Int) := by omega
                      have dn : n7 - d = 100 := by omega
                      have hcut : AllI wr w.heap.size (.slice A7 ys.length c7) ys := by rw [HY.out]; exact T7.out.row
                      obtain ⟨g7, o7, rfl, hc⟩ := hcut.cut (n := d) (by rw [HY.out]; omega) (by rw [HY.out]; omega)
                      rw [HY.out, dn] at hc
                      have HC := Lib.hid hc
                      have HD : Hid ((ys.drop d).length = 100) := by show _ = _; rw [List.length_drop, HY.out, dn]
                      clear hcut hc
                      go_wp2_with fail
                      go_roundw
                      case rel => exact ⟨k + 1, s1, ys.drop d, by omega, by omega, by go_num, ⟨T7.out.fst, T7.out.tx, HC.out, fun x hx => T7.out.all x (List.mem_of_mem_drop hx)⟩, by rw [HD.out]; omega⟩
                      case measure => simp [intOf]; omega
                    · have i2 : decide ((200 : Int) < (n7 : Int)) = false := decide_eq_false (by omega)
                      go_wp2_with fail
                      go_roundw
                      case rel => exact ⟨k + 1, s1, ys, by omega, by omega, by go_num, T7.out, by rw [HY.out]; omega⟩
                      case measure => simp [intOf]; omega

      · have e3 : y % 3 = 2 := hc3.symm
        clear hc3
        by_cases hq0 : q = 0
        · subst hq0
          go_wp2_with fail
          refine (tb_begin T2.out (by omega) (by omega)).mono ?_
          rintro e w4 ⟨⟨rn, rr, rfl⟩, s1, hT4⟩
          have T4 := Lib.hid hT4
          clear hT4
          as_aux_lemma =>
            go_wp2_with fail
            go_loopw [11] (fun i wr => ∃ j : Nat, j ≤ n ∧ i = .int .i64 j ∧ Hid (TB w (N : Int) g bo bc bd bg (k + 1) s1 wr (.slice Aa n ca) xs)) (fun i _ => n - (intOf i).toNat)
            case atStart => exact ⟨0, Nat.zero_le _, rfl, T4.out⟩
            case round =>
              obtain ⟨j2, hj2, rfl, T5⟩ := hrel
              by_cases hjn : j2 < n
              · have z2 : (0 : Int) ≤ (j2 : Int) := by omega
                have z3 : (j2 : Int) < (n : Int) := by omega
                have hjx : j2 < xs.length := by rw [HX.out]; exact hjn
                obtain ⟨b5, o5, rfl, p5⟩ := T5.out.row.rd.at_ hjx
                have hmem := List.getElem_mem hjx
                generalize xs[j2]'hjx = t5 at *
                have HA := Lib.hid (T5.out.all t5 hmem)
                have W5 : Hid (wf64 t5) := by show wf64 _; have h1 := HA.out.lo; have h2 := HA.out.hi; have h3 := T5.out.fst.nx; exact ⟨by omega, by omega⟩
                clear hmem
                go_wp2_with fail
                refine (tb_all T5.out t5 W5.out).mono ?_
                rintro e w6 ⟨r, rfl, hr, hb⟩
                obtain rfl : r = true := hr.2 HA.out.all
                have T6 := Lib.hid (T5.out.below hb)
                clear hr hb p5
                go_wp2_with fail
                go_roundw
                case rel => exact ⟨j2 + 1, by omega, by go_num, T6.out⟩
                case measure => simp [intOf]; omega
              · obtain rfl : n = j2 := by omega
                go_wp2_with fail
                refine (open_any T5.out.fst.tab).mono ?_
                rintro e w6 ⟨v6, s6, rfl, hK6, hO6, hb6⟩
                have T6 := Lib.hid (T5.out.below hb6)
                have K6 := Lib.hid hK6
                obtain ⟨A6, c6, rfl, -⟩ := hO6.slice
                obtain ⟨q6, hq6⟩ : ∃ q6, q6 = s6.length := ⟨_, rfl⟩
                obtain ⟨B6, hB6⟩ : ∃ B6, B6 = wr.heap.size := ⟨_, rfl⟩
                rw [← hq6, ← hB6] at hO6
                rw [← hq6]
                have O6 := Lib.hid hO6
                have L6 := Lib.hid hq6.symm
                have q616 : q6 ≤ 16 := by have h1 := hK6.len; have h2 := T5.out.fst.tab.ok.so16; omega
                have AP : Hid (∀ b, (Value.slice A6 q6 c6).ownBlock = some b → (Value.slice Aa n ca).ownBlock ≠ some b) := by
                  show ∀ b, _ → _
                  intro b hb e
                  have h1 := (World.ownsRow.lt hO6 b hb).1
                  have h2 := (T5.out.row.lt e).2
                  omega
                obtain ⟨nN, hnN⟩ : ∃ nN : Nat, (nN : Int) = s1.next := ⟨s1.next.toNat, by have h1 := T5.out.fst.tab.ok.f1; have h2 := T5.out.fst.tab.ok.fn; omega⟩
                have HN6 := Lib.hid hnN.symm
                have nN1 : 1 ≤ nN := by have h1 := T5.out.fst.tab.ok.f1; have h2 := T5.out.fst.tab.ok.fn; omega
                have nN2 : nN ≤ 60 := by have h1 := T5.out.fst.nx; omega
                clear hK6 hO6 hb6 hq6 hB6 hnN
                go_wp2_with fail
                go_loopw [7, 13] (fun v i wr => ∃ (ys : List Int) (j : Nat), 1 ≤ j ∧ j ≤ nN ∧ i = .int .i64 j ∧ Hid (TB w (N : Int) g bo bc bd bg (k + 1) s1 wr v ys ∧ OwnI wr B6 (.slice A6 q6 c6) s6 ∧ ys.length ≤ 200 + j ∧ (∀ b, (Value.slice A6 q6 c6).ownBlock = some b → v.ownBlock ≠ some b))) (fun _ i _ => nN - (intOf i).toNat)
                case atStart => exact ⟨xs, 1, Nat.le_refl _, nN1, rfl, T6.out, O6.out, by have := HX.out; omega, AP.out⟩
                case round =>
                  obtain ⟨ys, j3, hj3, hj3n, rfl, hI⟩ := hrel
                  obtain ⟨hT, hO, hl7, hap⟩ := hI.out
                  have T7 := Lib.hid hT
                  have O7 := Lib.hid hO
                  have AP7 := Lib.hid hap
                  obtain ⟨A7, c7, rfl, -, hc7, hm7⟩ := hT.row.slice
                  obtain ⟨n7, hn7⟩ : ∃ n7, n7 = ys.length := ⟨_, rfl⟩
                  rw [← hn7] at T7 AP7 hl7 hc7 ⊢
                  have HY := Lib.hid hn7.symm
                  clear hI hT hO hap hn7
                  go_wp2_with fail
                  refine (next_any T7.out.fst.tab).mono ?_
                  rintro e w' ⟨rfl, rfl⟩
                  rw [HN6.out]
                  by_cases hjn3 : j3 < nN
                  · have z4 : (0 : Int) ≤ (j3 : Int) := by omega
                    have z5 : (j3 : Int) < (nN : Int) := by omega
                    have WJ : Hid (wf64 (j3 : Int)) := by show wf64 _; exact ⟨by omega, by omega⟩
                    go_wp2_with fail
                    go_loopw [14, 15] (fun e i wr => ∃ (m : Nat) (b : Bool), m ≤ q6 ∧ e = .bool b ∧ i = .int .i64 m ∧ Hid ((b = true ↔ EachTo s1 s6 (j3 : Int) m) ∧ TB w (N : Int) g bo bc bd bg (k + 1) s1 wr (.slice A7 n7 c7) ys ∧ OwnI wr B6 (.slice A6 q6 c6) s6)) (fun _ i _ => q6 - (intOf i).toNat)
                    case atStart => exact ⟨0, true, Nat.zero_le _, rfl, rfl, ⟨fun _ => EachTo.zero _ _ _, fun _ => rfl⟩, T7.out, O7.out⟩
                    case round =>
                      obtain ⟨m4, b4, hm4, rfl, rfl, hI⟩ := hrel
                      by_cases hmq : m4 < q6
                      · have z6 : (0 : Int) ≤ (m4 : Int) := by omega
                        have z7 : (m4 : Int) < (q6 : Int) := by omega
                        have hms : m4 < s6.length := by rw [L6.out]; exact hmq
                        cases b4 with
                        | false =>
                          have F4 : Hid (false = true ↔ EachTo s1 s6 (j3 : Int) (m4 + 1)) := by show _ ↔ _; rw [EachTo.step (List.getElem?_eq_getElem hms), ← hI.out.1]; simp
                          go_wp2_with fail
                          go_roundw
                          case rel => exact ⟨m4 + 1, false, by omega, by go_num, by go_num, F4.out, hI.out.2.1, hI.out.2.2⟩
                          case measure => simp [intOf]; omega
                        | true =>
                          obtain ⟨b8, o8, rfl, p8⟩ := hI.out.2.2.rd.at_ hms
                          have hmem := List.getElem_mem hms
                          have hy4 := List.getElem?_eq_getElem hms
                          generalize s6[m4]'hms = y4 at *
                          have HY4 := Lib.hid hy4
                          have S4 : Hid (∀ b : Bool, (b = true ↔ (visB s1 y4 (j3 : Int) = true ∧ y4 ≠ (j3 : Int))) → (b = true ↔ EachTo s1 s6 (j3 : Int) (m4 + 1))) := by
                            show ∀ b : Bool, _ → _
                            intro b h
                            rw [h, EachTo.step hy4, ← hI.out.1]
                            simp
                          have WY := Lib.hid (K6.out.wf y4 hmem)
                          clear hmem hy4
                          go_wp2_with fail
                          refine (tb_vis hI.out.2.1 y4 (j3 : Int) WY.out WJ.out).mono ?_
                          rintro e w9 ⟨rfl, hb⟩
                          have T9 := Lib.hid (hI.out.2.1.below hb)
                          have O9 := Lib.hid (hI.out.2.2.below hb)
                          clear hb p8
                          obtain ⟨vb, hvb⟩ : ∃ vb, vb = visB s1 y4 (j3 : Int) := ⟨_, rfl⟩
                          rw [← hvb] at S4 ⊢
                          clear hvb
                          cases vb with
                          | false =>
                            have F4 := Lib.hid (S4.out false (by simp))
                            go_wp2_with fail
                            go_roundw
                            case rel => exact ⟨m4 + 1, false, by omega, by go_num, by go_num, F4.out, T9.out, O9.out⟩
                            case measure => simp [intOf]; omega
                          | true =>
                            have p9 := O9.out.rd.cell_at (j := m4) (x := y4) HY4.out
                            by_cases hne : y4 = (j3 : Int)
                            · have qn : (y4 == (j3 : Int)) = true := by rw [beq_iff_eq]; exact hne
                              have F4 := Lib.hid (S4.out false (by simp [hne]))
                              have HNE := Lib.hid hne
                              clear hne
                              go_wp2_with fail
                              go_roundw
                              case rel => exact ⟨m4 + 1, false, by omega, by first | rfl | (have h := HNE.out; simp [h]), by go_num, by simpa using F4.out, T9.out, O9.out⟩
                              case measure => simp [intOf]; omega
                            · have qn : (y4 == (j3 : Int)) = false := by rw [beq_eq_false_iff_ne]; exact hne
                              have F4 := Lib.hid (S4.out true (by simp [hne]))
                              have HNE := Lib.hid hne
                              clear hne
                              go_wp2_with fail
                              go_roundw
                              case rel => exact ⟨m4 + 1, true, by omega, by first | rfl | (have h := HNE.out; simp [h]), by go_num, by simpa using F4.out, T9.out, O9.out⟩
                              case measure => simp [intOf]; omega
                      · obtain rfl : q6 = m4 := by omega
                        have EB : (b4 = true ↔ Each s1 s6 (j3 : Int)) := hI.out.1.trans (EachTo.each L6.out)
                        go_wp2_with fail
                        refine (tb_all hI.out.2.1 (j3 : Int) WJ.out).mono ?_
                        rintro e w9 ⟨r, rfl, hr, hb⟩
                        have T9 := Lib.hid (hI.out.2.1.below hb)
                        have O9 := Lib.hid (hI.out.2.2.below hb)
                        have f1 : r = true → b4 = true := fun h => EB.2 ((hr.1 h).each T9.out.tx K6.out)
                        have f2 : 0 < q6 → b4 = true → r = true := fun h1 h2 => hr.2 ((EB.1 h2).allP K6.out (by rw [← K6.out.len, L6.out]; exact h1))
                        clear EB hb
                        by_cases hq6 : q6 = 0
                        · subst hq6
                          clear f2
                          cases r with
                          | false =>
                            have NA : Hid (¬ allP s1 (j3 : Int)) := Lib.hid (fun h => absurd (hr.2 h) (by decide))
                            clear f1 hr
                            go_wp2_with fail
                            refine (tb_all T9.out (j3 : Int) WJ.out).mono ?_
                            rintro e w10 ⟨r3, rfl, hr3, hb⟩
                            obtain rfl : r3 = false := by
                              cases r3
                              · rfl
                              · exact absurd (hr3.1 rfl) NA.out
                            have T10 := Lib.hid (T9.out.below hb)
                            have O10 := Lib.hid (O9.out.below hb)
                            clear hb hr3
                            go_wp2_with fail
                            go_roundw
                            case rel => exact ⟨ys, j3 + 1, by omega, by omega, by go_num, T10.out, O10.out, by have := HY.out; omega, AP7.out⟩
                            case measure => simp [intOf]; omega

                          | true =>
                            obtain rfl : b4 = true := f1 rfl
                            have PA := Lib.hid (hr.1 rfl)
                            have AL : Hid (All s1 (j3 : Int)) := ⟨by omega, by rw [HN6.out]; omega, hr.1 rfl⟩
                            clear f1 hr
                            go_wp2_with fail
                            refine (tb_all T9.out (j3 : Int) WJ.out).mono ?_
                            rintro e w10 ⟨r3, rfl, hr3, hb⟩
                            obtain rfl : r3 = true := by
                              cases r3
                              · exact absurd (hr3.2 PA.out) (by decide)
                              · rfl
                            have T10 := Lib.hid (T9.out.below hb)
                            have O10 := Lib.hid (O9.out.below hb)
                            clear hb hr3
                            have A11 : Hid (AllI (w10.alloc (.cells #[.int .i64 (j3 : Int)] 3)) w.heap.size (.slice A7 n7 c7) ys) := by show AllI _ _ _ _; exact T10.out.row.below (balloc (Below.refl _ _) _)
                            go_wp2_with (at_builtin; go_loud (refine wpList_append_all rfl (.tmp 146) (.tmp 148) 22 rfl w.heap.size Try.underlying22 info_int (.slice A7 n7 c7) ys rfl A11.out w10.heap.size rfl (j3 : Int) (by rw [cell_of_row _ _ _ _ _ _ (heap_alloc_new w10 _)]; rfl) (by rw [HY.out]; omega) (balloc T10.out.low _).size ?_; intro v12 w12 ha12 hg12 ho12; have T12 := Lib.hid ((T10.out.below (balloc (Below.refl _ _) (.cells #[.int .i64 (j3 : Int)] 3))).grow ha12 AL.out hg12); have O11 := O10.out.below (balloc (Below.refl _ _) (.cells #[.int .i64 (j3 : Int)] 3)); have AP12 := Lib.hid (fun b (hb : (Value.slice A6 0 c6).ownBlock = some b) (e : v12.ownBlock = some b) => (ho12 b e).elim (fun e => AP7.out b hb e) (fun e => absurd (World.ownsRow.lt O11 b hb).2 (Nat.not_lt.2 e))); have O12 := Lib.hid (O11.kept ((Tch.refl (fun j => (Value.slice A7 n7 c7).ownBlock = some j) _).grown hg12 (fun j e => .inl e)) (fun b hb e => AP7.out b hb e)); clear ha12 hg12 ho12 O11))
                            go_roundw
                            case rel => exact ⟨ys ++ [(j3 : Int)], j3 + 1, by omega, by omega, by go_num, T12.out, O12.out, by have := HY.out; simp; omega, AP12.out⟩
                            case measure => simp [intOf]; omega

                        · have q0 : 0 < q6 := by omega
                          have qi : (0 : Int) < (q6 : Int) := by omega
                          cases r with
                          | false =>
                            obtain rfl : b4 = false := by
                              cases b4
                              · rfl
                              · exact absurd (f2 q0 rfl) (by decide)
                            have NA : Hid (¬ allP s1 (j3 : Int)) := Lib.hid (fun h => absurd (hr.2 h) (by decide))
                            clear f1 f2 hr
                            go_wp2_with fail
                            refine (tb_all T9.out (j3 : Int) WJ.out).mono ?_
                            rintro e w10 ⟨r3, rfl, hr3, hb⟩
                            obtain rfl : r3 = false := by
                              cases r3
                              · rfl
                              · exact absurd (hr3.1 rfl) NA.out
                            have T10 := Lib.hid (T9.out.below hb)
                            have O10 := Lib.hid (O9.out.below hb)
                            clear hb hr3
                            go_wp2_with fail
                            go_roundw
                            case rel => exact ⟨ys, j3 + 1, by omega, by omega, by go_num, T10.out, O10.out, by have := HY.out; omega, AP7.out⟩
                            case measure => simp [intOf]; omega

                          | true =>
                            obtain rfl : b4 = true := f1 rfl
                            have PA := Lib.hid (hr.1 rfl)
                            have AL : Hid (All s1 (j3 : Int)) := ⟨by omega, by rw [HN6.out]; omega, hr.1 rfl⟩
                            clear f1 f2 hr
                            go_wp2_with fail
                            refine (tb_all T9.out (j3 : Int) WJ.out).mono ?_
                            rintro e w9b ⟨r2, rfl, hr2, hb⟩
                            obtain rfl : r2 = true := by
                              cases r2
                              · exact absurd (hr2.2 PA.out) (by decide)
                              · rfl
                            have T9b := Lib.hid (T9.out.below hb)
                            have O9b := Lib.hid (O9.out.below hb)
                            clear hb hr2

                            go_wp2_with fail
                            refine (tb_all T9b.out (j3 : Int) WJ.out).mono ?_
                            rintro e w10 ⟨r3, rfl, hr3, hb⟩
                            obtain rfl : r3 = true := by
                              cases r3
                              · exact absurd (hr3.2 PA.out) (by decide)
                              · rfl
                            have T10 := Lib.hid (T9b.out.below hb)
                            have O10 := Lib.hid (O9b.out.below hb)
                            clear hb hr3
                            have A11 : Hid (AllI (w10.alloc (.cells #[.int .i64 (j3 : Int)] 3)) w.heap.size (.slice A7 n7 c7) ys) := by show AllI _ _ _ _; exact T10.out.row.below (balloc (Below.refl _ _) _)
                            go_wp2_with (at_builtin; go_loud (refine wpList_append_all rfl (.tmp 146) (.tmp 148) 22 rfl w.heap.size Try.underlying22 info_int (.slice A7 n7 c7) ys rfl A11.out w10.heap.size rfl (j3 : Int) (by rw [cell_of_row _ _ _ _ _ _ (heap_alloc_new w10 _)]; rfl) (by rw [HY.out]; omega) (balloc T10.out.low _).size ?_; intro v12 w12 ha12 hg12 ho12; have T12 := Lib.hid ((T10.out.below (balloc (Below.refl _ _) (.cells #[.int .i64 (j3 : Int)] 3))).grow ha12 AL.out hg12); have O11 := O10.out.below (balloc (Below.refl _ _) (.cells #[.int .i64 (j3 : Int)] 3)); have AP12 := Lib.hid (fun b (hb : (Value.slice A6 q6 c6).ownBlock = some b) (e : v12.ownBlock = some b) => (ho12 b e).elim (fun e => AP7.out b hb e) (fun e => absurd (World.ownsRow.lt O11 b hb).2 (Nat.not_lt.2 e))); have O12 := Lib.hid (O11.kept ((Tch.refl (fun j => (Value.slice A7 n7 c7).ownBlock = some j) _).grown hg12 (fun j e => .inl e)) (fun b hb e => AP7.out b hb e)); clear ha12 hg12 ho12 O11))
                            go_roundw
                            case rel => exact ⟨ys ++ [(j3 : Int)], j3 + 1, by omega, by omega, by go_num, T12.out, O12.out, by have := HY.out; simp; omega, AP12.out⟩
                            case measure => simp [intOf]; omega


                  · obtain rfl : nN = j3 := by omega
                    by_cases h2 : 200 < n7
                    · have i2 : (200 : Int) < (n7 : Int) := by omega
                      obtain ⟨d, hd⟩ : ∃ d : Nat, (n7 : Int) - 100 = (d : Int) := ⟨n7 - 100, by omega⟩
                      have d0 : (0 : Int) ≤ (d : Int) := by omega
                      have d1 : (d : Int) ≤ (n7 : Int) := by omega
                      have d2 : (n7 : Int) ≤ (c7 : Int) := by omega
                      have dn : n7 - d = 100 := by omega
                      have hcut : AllI wr w.heap.size (.slice A7 ys.length c7) ys := by rw [HY.out]; exact T7.out.row
                      obtain ⟨g7, o7, rfl, hc⟩ := hcut.cut (n := d) (by rw [HY.out]; omega) (by rw [HY.out]; omega)
                      rw [HY.out, dn] at hc
                      have HC := Lib.hid hc
                      have HD : Hid ((ys.drop d).length = 100) := by show _ = _; rw [List.length_drop, HY.out, dn]
                      clear hcut hc
                      go_wp2_with fail
                      go_roundw
                      case rel => exact ⟨k + 1, s1, ys.drop d, by omega, by omega, by go_num, ⟨T7.out.fst, T7.out.tx, HC.out, fun x hx => T7.out.all x (List.mem_of_mem_drop hx)⟩, by rw [HD.out]; omega⟩
                      case measure => simp [intOf]; omega
                    · have i2 : decide ((200 : Int) < (n7 : Int)) = false := decide_eq_false (by omega)
                      go_wp2_with fail
                      go_roundw
                      case rel => exact ⟨k + 1, s1, ys, by omega, by omega, by go_num, T7.out, by rw [HY.out]; omega⟩
                      case measure => simp [intOf]; omega

        · have qf : ((q : Int) == 0) = false := by rw [beq_eq_false_iff_ne]; omega
          have qf2 : (q == 0) = false := by rw [beq_eq_false_iff_ne]; exact hq0
          have hq0 : (q : Int) ≠ 0 := by omega
          have hqp : (0 : Int) < (q : Int) := by omega
          have r0 : 0 ≤ y / 3 % (q : Int) := Int.emod_nonneg _ hq0
          have r1 : y / 3 % (q : Int) < (q : Int) := Int.emod_lt_of_pos _ hqp
          have q3 : 0 ≤ y / 3 := by omega
          obtain ⟨j, hj⟩ := Int.eq_ofNat_of_zero_le r0
          have hjq : j < q := by omega
          have hjl : j < ss.length := by rw [HQ.out]; exact hjq
          obtain ⟨bl, ol, rfl, pj⟩ := RL.out.at_ hjl
          have hmem := List.getElem_mem hjl
          generalize ss[j]'hjl = tx at *
          have WT := Lib.hid (KO.out.wf tx hmem)
          obtain ⟨pt, hpt⟩ := Option.isSome_iff_exists.1 ((KO.out.has tx WT.out).1 hmem)
          have PT := Lib.hid hpt
          clear hmem hpt
          go_wp2_with fail
          refine (tb_abort T2.out (by omega) tx pt WT.out PT.out).mono ?_
          rintro e w4 ⟨rfl, s1, hT4⟩
          have T4 := Lib.hid hT4
          clear hT4 pj
          as_aux_lemma =>
            go_wp2_with fail
            go_loopw [11] (fun i wr => ∃ j : Nat, j ≤ n ∧ i = .int .i64 j ∧ Hid (TB w (N : Int) g bo bc bd bg (k + 1) s1 wr (.slice Aa n ca) xs)) (fun i _ => n - (intOf i).toNat)
            case atStart => exact ⟨0, Nat.zero_le _, rfl, T4.out⟩
            case round =>
              obtain ⟨j2, hj2, rfl, T5⟩ := hrel
              by_cases hjn : j2 < n
              · have z2 : (0 : Int) ≤ (j2 : Int) := by omega
                have z3 : (j2 : Int) < (n : Int) := by omega
                have hjx : j2 < xs.length := by rw [HX.out]; exact hjn
                obtain ⟨b5, o5, rfl, p5⟩ := T5.out.row.rd.at_ hjx
                have hmem := List.getElem_mem hjx
                generalize xs[j2]'hjx = t5 at *
                have HA := Lib.hid (T5.out.all t5 hmem)
                have W5 : Hid (wf64 t5) := by show wf64 _; have h1 := HA.out.lo; have h2 := HA.out.hi; have h3 := T5.out.fst.nx; exact ⟨by omega, by omega⟩
                clear hmem
                go_wp2_with fail
                refine (tb_all T5.out t5 W5.out).mono ?_
                rintro e w6 ⟨r, rfl, hr, hb⟩
                obtain rfl : r = true := hr.2 HA.out.all
                have T6 := Lib.hid (T5.out.below hb)
                clear hr hb p5
                go_wp2_with fail
                go_roundw
                case rel => exact ⟨j2 + 1, by omega, by go_num, T6.out⟩
                case measure => simp [intOf]; omega
              · obtain rfl : n = j2 := by omega
                go_wp2_with fail
                refine (open_any T5.out.fst.tab).mono ?_
                rintro e w6 ⟨v6, s6, rfl, hK6, hO6, hb6⟩
                have T6 := Lib.hid (T5.out.below hb6)
                have K6 := Lib.hid hK6
                obtain ⟨A6, c6, rfl, -⟩ := hO6.slice
                obtain ⟨q6, hq6⟩ : ∃ q6, q6 = s6.length := ⟨_, rfl⟩
                obtain ⟨B6, hB6⟩ : ∃ B6, B6 = wr.heap.size := ⟨_, rfl⟩
                rw [← hq6, ← hB6] at hO6
                rw [← hq6]
                have O6 := Lib.hid hO6
                have L6 := Lib.hid hq6.symm
                have q616 : q6 ≤ 16 := by have h1 := hK6.len; have h2 := T5.out.fst.tab.ok.so16; omega
                have AP : Hid (∀ b, (Value.slice A6 q6 c6).ownBlock = some b → (Value.slice Aa n ca).ownBlock ≠ some b) := by
                  show ∀ b, _ → _
                  intro b hb e
                  have h1 := (World.ownsRow.lt hO6 b hb).1
                  have h2 := (T5.out.row.lt e).2
                  omega
                obtain ⟨nN, hnN⟩ : ∃ nN : Nat, (nN : Int) = s1.next := ⟨s1.next.toNat, by have h1 := T5.out.fst.tab.ok.f1; have h2 := T5.out.fst.tab.ok.fn; omega⟩
                have HN6 := Lib.hid hnN.symm
                have nN1 : 1 ≤ nN := by have h1 := T5.out.fst.tab.ok.f1; have h2 := T5.out.fst.tab.ok.fn; omega
                have nN2 : nN ≤ 60 := by have h1 := T5.out.fst.nx; omega
                clear hK6 hO6 hb6 hq6 hB6 hnN
                go_wp2_with fail
                go_loopw [7, 13] (fun v i wr => ∃ (ys : List Int) (j : Nat), 1 ≤ j ∧ j ≤ nN ∧ i = .int .i64 j ∧ Hid (TB w (N : Int) g bo bc bd bg (k + 1) s1 wr v ys ∧ OwnI wr B6 (.slice A6 q6 c6) s6 ∧ ys.length ≤ 200 + j ∧ (∀ b, (Value.slice A6 q6 c6).ownBlock = some b → v.ownBlock ≠ some b))) (fun _ i _ => nN - (intOf i).toNat)
                case atStart => exact ⟨xs, 1, Nat.le_refl _, nN1, rfl, T6.out, O6.out, by have := HX.out; omega, AP.out⟩
                case round =>
                  obtain ⟨ys, j3, hj3, hj3n, rfl, hI⟩ := hrel
                  obtain ⟨hT, hO, hl7, hap⟩ := hI.out
                  have T7 := Lib.hid hT
                  have O7 := Lib.hid hO
                  have AP7 := Lib.hid hap
                  obtain ⟨A7, c7, rfl, -, hc7, hm7⟩ := hT.row.slice
                  obtain ⟨n7, hn7⟩ : ∃ n7, n7 = ys.length := ⟨_, rfl⟩
                  rw [← hn7] at T7 AP7 hl7 hc7 ⊢
                  have HY := Lib.hid hn7.symm
                  clear hI hT hO hap hn7
                  go_wp2_with fail
                  refine (next_any T7.out.fst.tab).mono ?_
                  rintro e w' ⟨rfl, rfl⟩
                  rw [HN6.out]
                  by_cases hjn3 : j3 < nN
                  · have z4 : (0 : Int) ≤ (j3 : Int) := by omega
                    have z5 : (j3 : Int) < (nN : Int) := by omega
                    have WJ : Hid (wf64 (j3 : Int)) := by show wf64 _; exact ⟨by omega, by omega⟩
                    go_wp2_with fail
                    go_loopw [14, 15] (fun e i wr => ∃ (m : Nat) (b : Bool), m ≤ q6 ∧ e = .bool b ∧ i = .int .i64 m ∧ Hid ((b = true ↔ EachTo s1 s6 (j3 : Int) m) ∧ TB w (N : Int) g bo bc bd bg (k + 1) s1 wr (.slice A7 n7 c7) ys ∧ OwnI wr B6 (.slice A6 q6 c6) s6)) (fun _ i _ => q6 - (intOf i).toNat)
                    case atStart => exact ⟨0, true, Nat.zero_le _, rfl, rfl, ⟨fun _ => EachTo.zero _ _ _, fun _ => rfl⟩, T7.out, O7.out⟩
                    case round =>
                      obtain ⟨m4, b4, hm4, rfl, rfl, hI⟩ := hrel
                      by_cases hmq : m4 < q6
                      · have z6 : (0 : Int) ≤ (m4 : Int) := by omega
                        have z7 : (m4 : Int) < (q6 : Int) := by omega
                        have hms : m4 < s6.length := by rw [L6.out]; exact hmq
                        cases b4 with
                        | false =>
                          have F4 : Hid (false = true ↔ EachTo s1 s6 (j3 : Int) (m4 + 1)) := by show _ ↔ _; rw [EachTo.step (List.getElem?_eq_getElem hms), ← hI.out.1]; simp
                          go_wp2_with fail
                          go_roundw
                          case rel => exact ⟨m4 + 1, false, by omega, by go_num, by go_num, F4.out, hI.out.2.1, hI.out.2.2⟩
                          case measure => simp [intOf]; omega
                        | true =>
                          obtain ⟨b8, o8, rfl, p8⟩ := hI.out.2.2.rd.at_ hms
                          have hmem := List.getElem_mem hms
                          have hy4 := List.getElem?_eq_getElem hms
                          generalize s6[m4]'hms = y4 at *
                          have HY4 := Lib.hid hy4
                          have S4 : Hid (∀ b : Bool, (b = true ↔ (visB s1 y4 (j3 : Int) = true ∧ y4 ≠ (j3 : Int))) → (b = true ↔ EachTo s1 s6 (j3 : Int) (m4 + 1))) := by
                            show ∀ b : Bool, _ → _
                            intro b h
                            rw [h, EachTo.step hy4, ← hI.out.1]
                            simp
                          have WY := Lib.hid (K6.out.wf y4 hmem)
                          clear hmem hy4
                          go_wp2_with fail
                          refine (tb_vis hI.out.2.1 y4 (j3 : Int) WY.out WJ.out).mono ?_
                          rintro e w9 ⟨rfl, hb⟩
                          have T9 := Lib.hid (hI.out.2.1.below hb)
                          have O9 := Lib.hid (hI.out.2.2.below hb)
                          clear hb p8
                          obtain ⟨vb, hvb⟩ : ∃ vb, vb = visB s1 y4 (j3 : Int) := ⟨_, rfl⟩
                          rw [← hvb] at S4 ⊢
                          clear hvb
                          cases vb with
                          | false =>
                            have F4 := Lib.hid (S4.out false (by simp))
                            go_wp2_with fail
                            go_roundw
                            case rel => exact ⟨m4 + 1, false, by omega, by go_num, by go_num, F4.out, T9.out, O9.out⟩
                            case measure => simp [intOf]; omega
                          | true =>
                            have p9 := O9.out.rd.cell_at (j := m4) (x := y4) HY4.out
                            by_cases hne : y4 = (j3 : Int)
                            · have qn : (y4 == (j3 : Int)) = true := by rw [beq_iff_eq]; exact hne
                              have F4 := Lib.hid (S4.out false (by simp [hne]))
                              have HNE := Lib.hid hne
                              clear hne
                              go_wp2_with fail
                              go_roundw
                              case rel => exact ⟨m4 + 1, false, by omega, by first | rfl | (have h := HNE.out; simp [h]), by go_num, by simpa using F4.out, T9.out, O9.out⟩
                              case measure => simp [intOf]; omega
                            · have qn : (y4 == (j3 : Int)) = false := by rw [beq_eq_false_iff_ne]; exact hne
                              have F4 := Lib.hid (S4.out true (by simp [hne]))
                              have HNE := Lib.hid hne
                              clear hne
                              go_wp2_with fail
                              go_roundw
                              case rel => exact ⟨m4 + 1, true, by omega, by first | rfl | (have h := HNE.out; simp [h]), by go_num, by simpa using F4.out, T9.out, O9.out⟩
                              case measure => simp [intOf]; omega
                      · obtain rfl : q6 = m4 := by omega
                        have EB : (b4 = true ↔ Each s1 s6 (j3 : Int)) := hI.out.1.trans (EachTo.each L6.out)
                        go_wp2_with fail
                        refine (tb_all hI.out.2.1 (j3 : Int) WJ.out).mono ?_
                        rintro e w9 ⟨r, rfl, hr, hb⟩
                        have T9 := Lib.hid (hI.out.2.1.below hb)
                        have O9 := Lib.hid (hI.out.2.2.below hb)
                        have f1 : r = true → b4 = true := fun h => EB.2 ((hr.1 h).each T9.out.tx K6.out)
                        have f2 : 0 < q6 → b4 = true → r = true := fun h1 h2 => hr.2 ((EB.1 h2).allP K6.out (by rw [← K6.out.len, L6.out]; exact h1))
                        clear EB hb
                        by_cases hq6 : q6 = 0
                        · subst hq6
                          clear f2
                          cases r with
                          | false =>
                            have NA : Hid (¬ allP s1 (j3 : Int)) := Lib.hid (fun h => absurd (hr.2 h) (by decide))
                            clear f1 hr
                            go_wp2_with fail
                            refine (tb_all T9.out (j3 : Int) WJ.out).mono ?_
                            rintro e w10 ⟨r3, rfl, hr3, hb⟩
                            obtain rfl : r3 = false := by
                              cases r3
                              · rfl
                              · exact absurd (hr3.1 rfl) NA.out
                            have T10 := Lib.hid (T9.out.below hb)
                            have O10 := Lib.hid (O9.out.below hb)
                            clear hb hr3
                            go_wp2_with fail
                            go_roundw
                            case rel => exact ⟨ys, j3 + 1, by omega, by omega, by go_num, T10.out, O10.out, by have := HY.out; omega, AP7.out⟩
                            case measure => simp [intOf]; omega

                          | true =>
                            obtain rfl : b4 = true := f1 rfl
                            have PA := Lib.hid (hr.1 rfl)
                            have AL : Hid (All s1 (j3 : Int)) := ⟨by omega, by rw [HN6.out]; omega, hr.1 rfl⟩
                            clear f1 hr
                            go_wp2_with fail
                            refine (tb_all T9.out (j3 : Int) WJ.out).mono ?_
                            rintro e w10 ⟨r3, rfl, hr3, hb⟩
                            obtain rfl : r3 = true := by
                              cases r3
                              · exact absurd (hr3.2 PA.out) (by decide)
                              · rfl
                            have T10 := Lib.hid (T9.out.below hb)
                            have O10 := Lib.hid (O9.out.below hb)
                            clear hb hr3
                            have A11 : Hid (AllI (w10.alloc (.cells #[.int .i64 (j3 : Int)] 3)) w.heap.size (.slice A7 n7 c7) ys) := by show AllI _ _ _ _; exact T10.out.row.below (balloc (Below.refl _ _) _)
                            go_wp2_with (at_builtin; go_loud (refine wpList_append_all rfl (.tmp 146) (.tmp 148) 22 rfl w.heap.size Try.underlying22 info_int (.slice A7 n7 c7) ys rfl A11.out w10.heap.size rfl (j3 : Int) (by rw [cell_of_row _ _ _ _ _ _ (heap_alloc_new w10 _)]; rfl) (by rw [HY.out]; omega) (balloc T10.out.low _).size ?_; intro v12 w12 ha12 hg12 ho12; have T12 := Lib.hid ((T10.out.below (balloc (Below.refl _ _) (.cells #[.int .i64 (j3 : Int)] 3))).grow ha12 AL.out hg12); have O11 := O10.out.below (balloc (Below.refl _ _) (.cells #[.int .i64 (j3 : Int)] 3)); have AP12 := Lib.hid (fun b (hb : (Value.slice A6 0 c6).ownBlock = some b) (e : v12.ownBlock = some b) => (ho12 b e).elim (fun e => AP7.out b hb e) (fun e => absurd (World.ownsRow.lt O11 b hb).2 (Nat.not_lt.2 e))); have O12 := Lib.hid (O11.kept ((Tch.refl (fun j => (Value.slice A7 n7 c7).ownBlock = some j) _).grown hg12 (fun j e => .inl e)) (fun b hb e => AP7.out b hb e)); clear ha12 hg12 ho12 O11))
                            go_roundw
                            case rel => exact ⟨ys ++ [(j3 : Int)], j3 + 1, by omega, by omega, by go_num, T12.out, O12.out, by have := HY.out; simp; omega, AP12.out⟩
                            case measure => simp [intOf]; omega

                        · have q0 : 0 < q6 := by omega
                          have qi : (0 : Int) < (q6 : Int) := by omega
                          cases r with
                          | false =>
                            obtain rfl : b4 = false := by
                              cases b4
                              · rfl
                              · exact absurd (f2 q0 rfl) (by decide)
                            have NA : Hid (¬ allP s1 (j3 : Int)) := Lib.hid (fun h => absurd (hr.2 h) (by decide))
                            clear f1 f2 hr
                            go_wp2_with fail
                            refine (tb_all T9.out (j3 : Int) WJ.out).mono ?_
                            rintro e w10 ⟨r3, rfl, hr3, hb⟩
                            obtain rfl : r3 = false := by
                              cases r3
                              · rfl
                              · exact absurd (hr3.1 rfl) NA.out
                            have T10 := Lib.hid (T9.out.below hb)
                            have O10 := Lib.hid (O9.out.below hb)
                            clear hb hr3
                            go_wp2_with fail
                            go_roundw
                            case rel => exact ⟨ys, j3 + 1, by omega, by omega, by go_num, T10.out, O10.out, by have := HY.out; omega, AP7.out⟩
                            case measure => simp [intOf]; omega

                          | true =>
                            obtain rfl : b4 = true := f1 rfl
                            have PA := Lib.hid (hr.1 rfl)
                            have AL : Hid (All s1 (j3 : Int)) := ⟨by omega, by rw [HN6.out]; omega, hr.1 rfl⟩
                            clear f1 f2 hr
                            go_wp2_with fail
                            refine (tb_all T9.out (j3 : Int) WJ.out).mono ?_
                            rintro e w9b ⟨r2, rfl, hr2, hb⟩
                            obtain rfl : r2 = true := by
                              cases r2
                              · exact absurd (hr2.2 PA.out) (by decide)
                              · rfl
                            have T9b := Lib.hid (T9.out.below hb)
                            have O9b := Lib.hid (O9.out.below hb)
                            clear hb hr2

                            go_wp2_with fail
                            refine (tb_all T9b.out (j3 : Int) WJ.out).mono ?_
                            rintro e w10 ⟨r3, rfl, hr3, hb⟩
                            obtain rfl : r3 = true := by
                              cases r3
                              · exact absurd (hr3.2 PA.out) (by decide)
                              · rfl
                            have T10 := Lib.hid (T9b.out.below hb)
                            have O10 := Lib.hid (O9b.out.below hb)
                            clear hb hr3
                            have A11 : Hid (AllI (w10.alloc (.cells #[.int .i64 (j3 : Int)] 3)) w.heap.size (.slice A7 n7 c7) ys) := by show AllI _ _ _ _; exact T10.out.row.below (balloc (Below.refl _ _) _)
                            go_wp2_with (at_builtin; go_loud (refine wpList_append_all rfl (.tmp 146) (.tmp 148) 22 rfl w.heap.size Try.underlying22 info_int (.slice A7 n7 c7) ys rfl A11.out w10.heap.size rfl (j3 : Int) (by rw [cell_of_row _ _ _ _ _ _ (heap_alloc_new w10 _)]; rfl) (by rw [HY.out]; omega) (balloc T10.out.low _).size ?_; intro v12 w12 ha12 hg12 ho12; have T12 := Lib.hid ((T10.out.below (balloc (Below.refl _ _) (.cells #[.int .i64 (j3 : Int)] 3))).grow ha12 AL.out hg12); have O11 := O10.out.below (balloc (Below.refl _ _) (.cells #[.int .i64 (j3 : Int)] 3)); have AP12 := Lib.hid (fun b (hb : (Value.slice A6 q6 c6).ownBlock = some b) (e : v12.ownBlock = some b) => (ho12 b e).elim (fun e => AP7.out b hb e) (fun e => absurd (World.ownsRow.lt O11 b hb).2 (Nat.not_lt.2 e))); have O12 := Lib.hid (O11.kept ((Tch.refl (fun j => (Value.slice A7 n7 c7).ownBlock = some j) _).grown hg12 (fun j e => .inl e)) (fun b hb e => AP7.out b hb e)); clear ha12 hg12 ho12 O11))
                            go_roundw
                            case rel => exact ⟨ys ++ [(j3 : Int)], j3 + 1, by omega, by omega, by go_num, T12.out, O12.out, by have := HY.out; simp; omega, AP12.out⟩
                            case measure => simp [intOf]; omega


                  · obtain rfl : nN = j3 := by omega
                    by_cases h2 : 200 < n7
                    · have i2 : (200 : Int) < (n7 : Int) := by omega
                      obtain ⟨d, hd⟩ : ∃ d : Nat, (n7 : Int) - 100 = (d : Int) := ⟨n7 - 100, by omega⟩
                      have d0 : (0 : Int) ≤ (d : Int) := by omega
                      have d1 : (d : Int) ≤ (n7 : Int) := by omega
                      have d2 : (n7 : Int) ≤ (c7 : Int) := by omega
                      have dn : n7 - d = 100 := by omega
                      have hcut : AllI wr w.heap.size (.slice A7 ys.length c7) ys := by rw [HY.out]; exact T7.out.row
                      obtain ⟨g7, o7, rfl, hc⟩ := hcut.cut (n := d) (by rw [HY.out]; omega) (by rw [HY.out]; omega)
                      rw [HY.out, dn] at hc
                      have HC := Lib.hid hc
                      have HD : Hid ((ys.drop d).length = 100) := by show _ = _; rw [List.length_drop, HY.out, dn]
                      clear hcut hc
                      go_wp2_with fail
                      go_roundw
                      case rel => exact ⟨k + 1, s1, ys.drop d, by omega, by omega, by go_num, ⟨T7.out.fst, T7.out.tx, HC.out, fun x hx => T7.out.all x (List.mem_of_mem_drop hx)⟩, by rw [HD.out]; omega⟩
                      case measure => simp [intOf]; omega
                    · have i2 : decide ((200 : Int) < (n7 : Int)) = false := decide_eq_false (by omega)
                      go_wp2_with fail
                      go_roundw
                      case rel => exact ⟨k + 1, s1, ys, by omega, by omega, by go_num, T7.out, by rw [HY.out]; omega⟩
                      case measure => simp [intOf]; omega

    · have hcase : (decide ((40 : Int) < (l : Int)) = true ∧ k = 40) ∨ k = l := by
        by_cases h1 : k < l
        · exact .inl ⟨decide_eq_true (by omega), by omega⟩
        · exact .inr (by omega)
      clear hgo
      rcases hcase with ⟨q1, rfl⟩ | rfl
      all_goals
        go_wp2_with fail
        refine (awake14 (w := _)).mono ?_
        rintro e wz ⟨rfl, hb⟩
        have BZ := Lib.hid (bthen T1.out.low hb)
        clear hb
        go_wp2_with fail
        go_ret
        exact ⟨rfl, BZ.out⟩
end Go.Proofs.Ytlfplcidgccgdaa.Y
