/-
  ChangeNumbers' walk.
-/
import Derived.Test.YtobnomlbkhkodaaCB
import Derived.Test.YtobnomlbkhkodaaC9
import Derived.Test.YtobnomlbkhkodaaYJ
set_option linter.unusedVariables false
set_option linter.unusedSimpArgs false
namespace Go.Proofs.Ytobnomlbkhkodaa.Y
open Go.RowKit

/-- A piece. -/
def FPc (a : Int) (n : Nat) (L : List UInt8) (u : Value) (w : World) : Prop := ∃ A c, u = .agg #[.int .i64 a, .slice A n c] ∧ n ≤ c ∧ Rd w A L
theorem FPc.stab (a : Int) (n : Nat) (L : List UInt8) : Stab (FPc a n L) := by
  rintro u w w' ⟨A, c, e, hc, hr⟩ hb
  exact ⟨A, c, e, hc, hr.below hb⟩
/-- Pieces. -/
def FPs (n : Nat) (L : List (Int × List UInt8)) (u : Value) (w : World) : Prop := ∃ G, u = .slice (some ⟨G, 0, none⟩) n n ∧ RdP w (some ⟨G, 0, none⟩) L
theorem FPs.stab (n : Nat) (L : List (Int × List UInt8)) : Stab (FPs n L) := by
  rintro u w w' ⟨G, e, hr⟩ hb
  exact ⟨G, e, hr.below hb⟩
theorem FPs.lit (w : World) (ps : List (Int × Value × List UInt8)) {n : Nat} {L : List (Int × List UInt8)} {cs : Array Value} (hL : L = ps.map (fun p => (p.1, p.2.2))) (hcs : cs = (ps.flatMap fun p => [.int .i64 p.1, p.2.1]).toArray)
    (h : ∀ p ∈ ps, ∃ C m c, p.2.1 = .slice C m c ∧ p.2.2.length = m ∧ m ≤ c ∧ m ≤ 140737488351232 ∧ Rd w C p.2.2 ∧ -9223372036854775808 ≤ p.1 ∧ p.1 ≤ 9223372036854775807) : FPs n L (.slice (some ⟨w.heap.size, 0, none⟩) n n) (w.alloc (.cells cs 36)) := by
  subst hL; subst hcs
  refine ⟨_, rfl, .inr ⟨_, 0, rfl, fun i q hq => ?_⟩⟩
  rw [List.getElem?_map] at hq
  obtain ⟨p, hp, rfl⟩ := Option.map_eq_some_iff.1 hq
  obtain ⟨C, m, c, e, hm, hc, hml, hr, h1, h2⟩ := h p (List.mem_of_getElem? hp)
  subst hm
  have hf : ∀ (ps : List (Int × Value × List UInt8)) (i : Nat) p, ps[i]? = some p → (ps.flatMap fun p => [Value.int .i64 p.1, p.2.1])[i * 2]? = some (.int .i64 p.1) ∧ (ps.flatMap fun p => [Value.int .i64 p.1, p.2.1])[i * 2 + 1]? = some p.2.1 := by
    intro ps
    induction ps with
    | nil => intro i p h; simp at h
    | cons x ps ih =>
      intro i p h
      cases i with
      | zero =>
        simp at h
        subst h
        simp
      | succ i =>
        have := ih i p (by simpa using h)
        rw [show (i + 1) * 2 = i * 2 + 1 + 1 from by omega]
        simpa using this
  obtain ⟨k1, k2⟩ := hf ps i p hp
  refine ⟨?_, C, c, ?_, hc, ⟨hml, h1, h2⟩, hr.alloc _⟩
  · rw [cell_of_row _ _ _ _ _ _ (heap_alloc_new w _), Nat.zero_add]
    simpa using k1
  · rw [cell_of_row _ _ _ _ _ _ (heap_alloc_new w _), Nat.zero_add, ← e]
    simpa using k2
/-- Numbers that read so. -/
def FI (n : Nat) (L : List Int) (u : Value) (w : World) : Prop := ∃ A c, u = .slice A n c ∧ RdI w A L
theorem FI.stab (n : Nat) (L : List Int) : Stab (FI n L) := by
  rintro u w w' ⟨A, c, e, hr⟩ hb
  exact ⟨A, c, e, hr.below hb⟩
/-- A slice and no error. -/
def FTp (n : Nat) (L : List UInt8) (u : Value) (w : World) : Prop := ∃ A c, u = .tuple #[.slice A n c, .int .i64 0] ∧ n ≤ c ∧ Rd w A L
theorem FTp.stab (n : Nat) (L : List UInt8) : Stab (FTp n L) := by
  rintro u w w' ⟨A, c, e, hc, hr⟩ hb
  exact ⟨A, c, e, hc, hr.below hb⟩
theorem lay_one : (layL (oneL [1]) [(0, zeros 4080), (0, [9])]).length = 4080 ∧ (layL (oneL [1]) [(0, zeros 4080), (0, [9])])[0]? = some 9 ∧ (layL (oneL [1]) [(0, zeros 4080), (0, [9])])[1]? = some 0 := by decide +kernel
theorem box2c (w : World) (t : TypeId) (a u : Value) : (w.alloc (.cells #[a, u] t)).cell? ⟨w.heap.size, 0, none⟩ = some a ∧ (w.alloc (.cells #[a, u] t)).cell? ⟨w.heap.size, 1, none⟩ = some u :=
  ⟨by rw [cell_of_row _ _ 0 _ _ _ (heap_alloc_new w _)]; rfl, by rw [cell_of_row _ _ 1 _ _ _ (heap_alloc_new w _)]; rfl⟩
theorem pieces_bad : ∀ p ∈ ([(4080, [1]), (-1, [1]), (5, []), (9223372036854775807, [1]), (-9223372036854775808, [1]), (1, zeros 4080), (0, zeros 4081)] : List (Int × List UInt8)), okP [(1, [1]), p] = false := by decide +kernel
theorem diff_312 : diffL (oneL []) (oneL [3, 12]) = [(3, [1]), (12, [1])] := by
  rw [diff_lit [] [3, 12] [3, 12] (by decide +kernel)]
  decide +kernel
theorem diff_33 : diffL (oneL [3]) (oneL [3]) = [] := by
  rw [diff_lit [3] [3] [] (by decide +kernel)]
  decide +kernel
set_option maxHeartbeats 6400000 in
set_option maxRecDepth 100000 in
theorem changeNumbers_walk (w : World) : Calls Try.prog 4 #[] w fun e w' => e = .returned (.bool true) ∧ Below w.heap.size w w' := by
  have hm79 := make_lit 4079 4079 rfl (by decide)
  have hm80 := make_lit 4080 4080 rfl (by decide)
  have hm81 := make_lit 4081 4081 rfl (by decide)
  have e0 := oneL_length []
  have e1 := oneL_length [3, 12]
  have e2 := oneL_length [3]
  have e3 := oneL_length [1]
  have E0 := Lib.hid e0
  have E1 := Lib.hid e1
  have E2 := Lib.hid e2
  have E3 := Lib.hid e3
  have LR := Lib.hid lay_one.1
  clear e0 e1 e2 e3
  go_enter Try.func4, Try.ntmps4
  go_wp2_with fail
  refine (at_none _).mono ?_
  rintro e w1 ⟨rv, rfl, hvv, hbb⟩
  obtain ⟨A1, c1, rfl, hc1, -, hr⟩ := hvv.sliceN E0.out
  have R1 := Lib.hid hr
  have B1 := Lib.hid hbb
  clear hvv hbb hr
  go_wp2_with fail
  refine (at_any (ps := [3, 12]) rfl 2 (RdI.lit rfl rfl _) (by decide) (by decide)).mono ?_
  rintro e w2 ⟨rv, rfl, hvv, hbb⟩
  obtain ⟨A2, c2, rfl, hc2, -, hr⟩ := hvv.sliceN E1.out
  have R2 := Lib.hid hr
  have B2 := Lib.hid (bthen (balloc B1.out _) hbb)
  have B12 := Lib.hid hbb
  clear hvv hbb hr
  go_wp2_with fail
  refine (diff_any c1 c2 E0.out E1.out ((R1.out.alloc _).below B12.out) R2.out hc2).mono ?_
  rintro e w3 ⟨rv, rfl, hvv, hbb⟩
  rw [diff_312] at hvv
  obtain ⟨A3, c3, rfl, hr⟩ := hvv.sl (by intro p hp; simp at hp; rcases hp with rfl | rfl <;> exact ⟨by decide, by decide, by decide⟩)
  obtain ⟨b3, o3, rfl⟩ := hr.ad (by decide)
  have R3 := Lib.hid hr
  have B3 := Lib.hid (bthen B2.out hbb)
  clear hvv hbb hr
  go_wp2_with fail
  refine (at_any (ps := [3]) rfl 1 (RdI.lit rfl rfl _) (by decide) (by decide)).mono ?_
  rintro e w4 ⟨rv, rfl, hvv, hbb⟩
  obtain ⟨A4, c4, rfl, hc4, -, hr⟩ := hvv.sliceN E2.out
  have R4 := Lib.hid hr
  have B4 := Lib.hid (bthen (balloc B3.out _) hbb)
  have B34 := Lib.hid (bthen (balloc (Below.refl _ _) _) hbb)
  clear hvv hbb hr
  go_wp2_with fail
  refine (at_any (ps := [3]) rfl 1 (RdI.lit rfl rfl _) (by decide) (by decide)).mono ?_
  rintro e w5 ⟨rv, rfl, hvv, hbb⟩
  obtain ⟨A5, c5, rfl, hc5, -, hr⟩ := hvv.sliceN E2.out
  have R5 := Lib.hid hr
  have B5 := Lib.hid (bthen (balloc B4.out _) hbb)
  have B45 := Lib.hid (bthen (balloc (Below.refl _ _) _) hbb)
  clear hvv hbb hr
  go_wp2_with fail
  refine (diff_any c4 c5 E2.out E2.out (R4.out.below B45.out) R5.out hc5).mono ?_
  rintro e w6 ⟨rv, rfl, hvv, hbb⟩
  rw [diff_33] at hvv
  obtain ⟨A6, c6, rfl, -⟩ := hvv.sl (by intro p hp; simp at hp)
  have B6 := Lib.hid (bthen B5.out hbb)
  have R36 := Lib.hid (((R3.out.below B34.out).below B45.out).below hbb)
  clear hvv hbb
  go_upto_region 3 with (fail)
  refine region_factsL [34, 35, 36, 33, 37, 38, 5, 6] 157 [FS 4080 (oneL []), FS 4079 (zeros 4079), FV (.tuple #[.slice none 0 0, .int .i64 2]), FV (.tuple #[.slice none 0 0, .int .i64 2]), FV (.slice none 0 0), FV (.int .i64 2), FV (.slice none 0 0), FV (.int .i64 2)] (by kernel_rfl) rfl (by kernel_rfl) (by exact rfl) (by decide) (by decide) ?stab ?step ?done
  case stab =>
    intro f hf
    simp only [List.mem_cons, List.not_mem_nil, or_false] at hf
    rcases hf with rfl | rfl | rfl | rfl | rfl | rfl | rfl | rfl
    · exact FS.stab _ _
    · exact FS.stab _ _
    · exact FV.stab _
    · exact FV.stab _
    · exact FV.stab _
    · exact FV.stab _
    · exact FV.stab _
    · exact FV.stab _
  case step =>
    intro i hi a w' hb hf hd
    match i, hi with
    | 0, _ =>
      refine wpOp_at rfl rfl ?_
      go_simp
      go_at_call 21
      refine (at_none _).mono ?_
      rintro e w2 ⟨rv, rfl, hvv, hbb⟩
      obtain ⟨A7, c7, rfl, hc7, -, hr⟩ := hvv.sliceN E0.out
      exact ⟨_, rfl, hbb, A7, c7, rfl, hc7, hr⟩
    | 1, _ =>
      refine wpOp_value rfl rfl (u := (.slice (some ⟨w'.heap.size, 0, none⟩) 4079 4079)) (w1 := w'.alloc (.cells (bvs (zeros 4079)).toArray 5)) ?_ ⟨(.slice (some ⟨w'.heap.size, 0, none⟩) 4079 4079), rfl, balloc (Below.refl _ _) _, FS.new _ _ _ _ rfl (by simp)⟩
      go_simp
    | 2, _ =>
      have d0 := hd 0 (by decide) ⟨_, rfl, ⟨0, .data⟩, by simp, rfl, rfl⟩
      change (FS 4080 (oneL [])) (a.tmps[34]?.getD undef) w' at d0
      obtain ⟨Aa, ca, ea, hca, hra⟩ := d0
      have d1 := hd 1 (by decide) ⟨_, rfl, ⟨1, .data⟩, by simp, rfl, rfl⟩
      change (FS 4079 (zeros 4079)) (a.tmps[35]?.getD undef) w' at d1
      obtain ⟨Ab, cb, eb, hcb, hrb⟩ := d1
      refine wpOp_at rfl rfl ?_
      go_simp
      go_at_call 15
      refine (diff_arg _ _ (by decide) (by decide) (by decide)).mono ?_
      rintro e w2 ⟨rfl, hbb⟩
      exact ⟨_, rfl, hbb, rfl⟩
    | 3, _ =>
      have d2 := hd 2 (by decide) ⟨_, rfl, ⟨2, .data⟩, by simp, rfl, rfl⟩
      change (FV (.tuple #[.slice none 0 0, .int .i64 2])) (a.tmps[36]?.getD undef) w' at d2
      have e2 : a.tmps[36]?.getD undef = _ := d2
      refine wpOp_value rfl rfl (u := (.tuple #[.slice none 0 0, .int .i64 2])) (w1 := w') ?_ ⟨(.tuple #[.slice none 0 0, .int .i64 2]), rfl, Below.refl _ _, rfl⟩
      go_simp
    | 4, _ =>
      have d3 := hd 3 (by decide) ⟨_, rfl, ⟨3, .data⟩, by simp, rfl, rfl⟩
      change (FV (.tuple #[.slice none 0 0, .int .i64 2])) (a.tmps[33]?.getD undef) w' at d3
      have e3 : a.tmps[33]?.getD undef = _ := d3
      refine wpOp_value rfl rfl (u := (.slice none 0 0)) (w1 := w') ?_ ⟨(.slice none 0 0), rfl, Below.refl _ _, rfl⟩
      go_simp
    | 5, _ =>
      have d3 := hd 3 (by decide) ⟨_, rfl, ⟨3, .data⟩, by simp, rfl, rfl⟩
      change (FV (.tuple #[.slice none 0 0, .int .i64 2])) (a.tmps[33]?.getD undef) w' at d3
      have e3 : a.tmps[33]?.getD undef = _ := d3
      refine wpOp_value rfl rfl (u := (.int .i64 2)) (w1 := w') ?_ ⟨(.int .i64 2), rfl, Below.refl _ _, rfl⟩
      go_simp
    | 6, _ =>
      have d4 := hd 4 (by decide) ⟨_, rfl, ⟨4, .data⟩, by simp, rfl, rfl⟩
      change (FV (.slice none 0 0)) (a.tmps[37]?.getD undef) w' at d4
      have e4 : a.tmps[37]?.getD undef = _ := d4
      refine wpOp_value rfl rfl (u := (.slice none 0 0)) (w1 := w') ?_ ⟨(.slice none 0 0), rfl, Below.refl _ _, rfl⟩
      go_simp
    | 7, _ =>
      have d5 := hd 5 (by decide) ⟨_, rfl, ⟨5, .data⟩, by simp, rfl, rfl⟩
      change (FV (.int .i64 2)) (a.tmps[38]?.getD undef) w' at d5
      have e5 : a.tmps[38]?.getD undef = _ := d5
      refine wpOp_value rfl rfl (u := (.int .i64 2)) (w1 := w') ?_ ⟨(.int .i64 2), rfl, Below.refl _ _, rfl⟩
      go_simp
    | (q + 8), h => exact absurd h (by show ¬ (q + 8 < 8); omega)
  case done =>
    intro v w' hb hF
    have f0 := hF 0 (by decide)
    change (FS 4080 (oneL [])) (v 0) w' at f0
    obtain ⟨A7, c7, e7, -, -⟩ := f0
    have f1 := hF 1 (by decide)
    change (FS 4079 (zeros 4079)) (v 1) w' at f1
    obtain ⟨A8, c8, e8, -, -⟩ := f1
    have g2 : v 2 = _ := hF 2 (by decide)
    have g3 : v 3 = _ := hF 3 (by decide)
    have g4 : v 4 = _ := hF 4 (by decide)
    have g5 : v 5 = _ := hF 5 (by decide)
    have g6 : v 6 = _ := hF 6 (by decide)
    have g7 : v 7 = _ := hF 7 (by decide)
    simp only [putsL, Act.put, Nat.reduceAdd, List.setIfInBounds_toArray, List.set_cons_succ, List.set_cons_zero]
    rw [e7, e8, g2, g3, g4, g5, g6, g7]
    have B7 := Lib.hid (bthen B6.out hb)
    have R37 := Lib.hid (R36.out.below hb)
    clear e7 e8 g2 g3 g4 g5 g6 g7 hF hb
    obtain ⟨w7, hw7⟩ : ∃ w7, w7 = w' := ⟨_, rfl⟩
    rw [← hw7] at B7 R37 ⊢
    clear hw7
    obtain ⟨_, _, pa⟩ := R37.out.at' (i := 1) (by decide)
    have p1 : w7.cell? ⟨b3, o3 + 2, none⟩ = some (.int .i64 12) := pa.c0
    clear pa
    go_wp2_with fail
    refine (diff_arg _ _ (by decide) (by decide) (by decide)).mono ?_
    rintro e w8 ⟨rfl, hbb⟩
    have B8 := Lib.hid (bthen B7.out hbb)
    have R38 := Lib.hid (R37.out.below hbb)
    have p2 : w8.cell? ⟨b3, o3 + 2, none⟩ = some (.int .i64 12) := (hbb.cell (World.block_lt_of_cell? w7 _ p1)).trans p1
    clear hbb p1
    go_wp2_with fail
    refine (size_any (L := [(3, [1]), (12, [1])]) rfl _ R38.out (by decide)).mono ?_
    rintro e w9 ⟨rfl, hbb⟩
    have B9 := Lib.hid (bthen B8.out hbb)
    rw [show sizeW [(3, [1]), (12, [1])] = 10 from by decide +kernel]
    clear hbb p2
    go_wp2_with fail
    refine (size_any (L := []) rfl _ (RdP.nil _ _) (by decide)).mono ?_
    rintro e wa ⟨rfl, hbb⟩
    have Ba := Lib.hid (bthen B9.out hbb)
    rw [show sizeW [] = 0 from by decide +kernel]
    clear hbb
    go_upto_region 6 with (fail)
    refine region_factsL [81, 82, 83, 84, 85, 86, 87, 88, 89, 90, 91, 92, 93, 94, 95, 96] 157 [FS 1 [1], FPc (4080) 1 ([1]), FS 1 [1], FPc (-1) 1 ([1]), FPc (5) 0 ([]), FS 1 [1], FPc (9223372036854775807) 1 ([1]), FS 1 [1], FPc (-9223372036854775808) 1 ([1]), FS 4080 (zeros 4080), FPc (1) 4080 (zeros 4080), FS 4081 (zeros 4081), FPc (0) 4081 (zeros 4081), FPs 7 [(4080, [1]), (-1, [1]), (5, []), (9223372036854775807, [1]), (-9223372036854775808, [1]), (1, zeros 4080), (0, zeros 4081)], FV (.int .i64 7), FV (.int .i64 0)] (by kernel_rfl) rfl (by kernel_rfl) (by exact rfl) (by decide) (by decide) ?stab ?step ?done
    case stab =>
      intro f hf
      simp only [List.mem_cons, List.not_mem_nil, or_false] at hf
      rcases hf with rfl | rfl | rfl | rfl | rfl | rfl | rfl | rfl | rfl | rfl | rfl | rfl | rfl | rfl | rfl | rfl
      · exact FS.stab _ _
      · exact FPc.stab _ _ _
      · exact FS.stab _ _
      · exact FPc.stab _ _ _
      · exact FPc.stab _ _ _
      · exact FS.stab _ _
      · exact FPc.stab _ _ _
      · exact FS.stab _ _
      · exact FPc.stab _ _ _
      · exact FS.stab _ _
      · exact FPc.stab _ _ _
      · exact FS.stab _ _
      · exact FPc.stab _ _ _
      · exact FPs.stab _ _
      · exact FV.stab _
      · exact FV.stab _
    case step =>
      intro i hi a w' hb hf hd
      match i, hi with
      | 0, _ =>
        refine wpOp_value rfl rfl (u := (.slice (some ⟨w'.heap.size, 0, none⟩) 1 1)) (w1 := w'.alloc (.cells #[.int .u8 1] 5)) ?_ ⟨(.slice (some ⟨w'.heap.size, 0, none⟩) 1 1), rfl, balloc (Below.refl _ _) _, FS.new _ _ _ _ rfl rfl⟩
        go_simp
      | 1, _ =>
        have d0 := hd 0 (by decide) ⟨_, rfl, ⟨0, .data⟩, by simp, rfl, rfl⟩
        change (FS 1 [1]) (a.tmps[81]?.getD undef) w' at d0
        obtain ⟨A0, c0, e0, hc0, hr0⟩ := d0
        refine wpOp_value rfl rfl (u := (.agg #[.int .i64 (4080), .slice A0 1 c0])) (w1 := w') ?_ ⟨(.agg #[.int .i64 (4080), .slice A0 1 c0]), rfl, Below.refl _ _, ⟨A0, c0, rfl, hc0, hr0⟩⟩
        go_simp
      | 2, _ =>
        refine wpOp_value rfl rfl (u := (.slice (some ⟨w'.heap.size, 0, none⟩) 1 1)) (w1 := w'.alloc (.cells #[.int .u8 1] 5)) ?_ ⟨(.slice (some ⟨w'.heap.size, 0, none⟩) 1 1), rfl, balloc (Below.refl _ _) _, FS.new _ _ _ _ rfl rfl⟩
        go_simp
      | 3, _ =>
        have d2 := hd 2 (by decide) ⟨_, rfl, ⟨2, .data⟩, by simp, rfl, rfl⟩
        change (FS 1 [1]) (a.tmps[83]?.getD undef) w' at d2
        obtain ⟨A2, c2, e2, hc2, hr2⟩ := d2
        refine wpOp_value rfl rfl (u := (.agg #[.int .i64 (-1), .slice A2 1 c2])) (w1 := w') ?_ ⟨(.agg #[.int .i64 (-1), .slice A2 1 c2]), rfl, Below.refl _ _, ⟨A2, c2, rfl, hc2, hr2⟩⟩
        go_simp
      | 4, _ =>
        refine wpOp_value rfl rfl (u := (.agg #[.int .i64 5, .slice none 0 0])) (w1 := w') ?_ ⟨(.agg #[.int .i64 5, .slice none 0 0]), rfl, Below.refl _ _, ⟨none, 0, rfl, Nat.le_refl _, Rd.nil _ _⟩⟩
        go_simp
      | 5, _ =>
        refine wpOp_value rfl rfl (u := (.slice (some ⟨w'.heap.size, 0, none⟩) 1 1)) (w1 := w'.alloc (.cells #[.int .u8 1] 5)) ?_ ⟨(.slice (some ⟨w'.heap.size, 0, none⟩) 1 1), rfl, balloc (Below.refl _ _) _, FS.new _ _ _ _ rfl rfl⟩
        go_simp
      | 6, _ =>
        have d5 := hd 5 (by decide) ⟨_, rfl, ⟨5, .data⟩, by simp, rfl, rfl⟩
        change (FS 1 [1]) (a.tmps[86]?.getD undef) w' at d5
        obtain ⟨A5, c5, e5, hc5, hr5⟩ := d5
        refine wpOp_value rfl rfl (u := (.agg #[.int .i64 (9223372036854775807), .slice A5 1 c5])) (w1 := w') ?_ ⟨(.agg #[.int .i64 (9223372036854775807), .slice A5 1 c5]), rfl, Below.refl _ _, ⟨A5, c5, rfl, hc5, hr5⟩⟩
        go_simp
      | 7, _ =>
        refine wpOp_value rfl rfl (u := (.slice (some ⟨w'.heap.size, 0, none⟩) 1 1)) (w1 := w'.alloc (.cells #[.int .u8 1] 5)) ?_ ⟨(.slice (some ⟨w'.heap.size, 0, none⟩) 1 1), rfl, balloc (Below.refl _ _) _, FS.new _ _ _ _ rfl rfl⟩
        go_simp
      | 8, _ =>
        have d7 := hd 7 (by decide) ⟨_, rfl, ⟨7, .data⟩, by simp, rfl, rfl⟩
        change (FS 1 [1]) (a.tmps[88]?.getD undef) w' at d7
        obtain ⟨A7, c7, e7, hc7, hr7⟩ := d7
        refine wpOp_value rfl rfl (u := (.agg #[.int .i64 (-9223372036854775808), .slice A7 1 c7])) (w1 := w') ?_ ⟨(.agg #[.int .i64 (-9223372036854775808), .slice A7 1 c7]), rfl, Below.refl _ _, ⟨A7, c7, rfl, hc7, hr7⟩⟩
        go_simp
      | 9, _ =>
        refine wpOp_value rfl rfl (u := (.slice (some ⟨w'.heap.size, 0, none⟩) 4080 4080)) (w1 := w'.alloc (.cells (bvs (zeros 4080)).toArray 5)) ?_ ⟨(.slice (some ⟨w'.heap.size, 0, none⟩) 4080 4080), rfl, balloc (Below.refl _ _) _, FS.new _ _ _ _ rfl (by simp)⟩
        go_simp
      | 10, _ =>
        have d9 := hd 9 (by decide) ⟨_, rfl, ⟨9, .data⟩, by simp, rfl, rfl⟩
        change (FS 4080 (zeros 4080)) (a.tmps[90]?.getD undef) w' at d9
        obtain ⟨A9, c9, e9, hc9, hr9⟩ := d9
        refine wpOp_value rfl rfl (u := (.agg #[.int .i64 (1), .slice A9 4080 c9])) (w1 := w') ?_ ⟨(.agg #[.int .i64 (1), .slice A9 4080 c9]), rfl, Below.refl _ _, ⟨A9, c9, rfl, hc9, hr9⟩⟩
        go_simp
      | 11, _ =>
        refine wpOp_value rfl rfl (u := (.slice (some ⟨w'.heap.size, 0, none⟩) 4081 4081)) (w1 := w'.alloc (.cells (bvs (zeros 4081)).toArray 5)) ?_ ⟨(.slice (some ⟨w'.heap.size, 0, none⟩) 4081 4081), rfl, balloc (Below.refl _ _) _, FS.new _ _ _ _ rfl (by simp)⟩
        go_simp
      | 12, _ =>
        have d11 := hd 11 (by decide) ⟨_, rfl, ⟨11, .data⟩, by simp, rfl, rfl⟩
        change (FS 4081 (zeros 4081)) (a.tmps[92]?.getD undef) w' at d11
        obtain ⟨A11, c11, e11, hc11, hr11⟩ := d11
        refine wpOp_value rfl rfl (u := (.agg #[.int .i64 (0), .slice A11 4081 c11])) (w1 := w') ?_ ⟨(.agg #[.int .i64 (0), .slice A11 4081 c11]), rfl, Below.refl _ _, ⟨A11, c11, rfl, hc11, hr11⟩⟩
        go_simp
      | 13, _ =>
        have d1 := hd 1 (by decide) ⟨_, rfl, ⟨1, .data⟩, by simp, rfl, rfl⟩
        change (FPc (4080) 1 ([1])) (a.tmps[82]?.getD undef) w' at d1
        obtain ⟨A1, c1, e1, hc1, hr1⟩ := d1
        have d3 := hd 3 (by decide) ⟨_, rfl, ⟨3, .data⟩, by simp, rfl, rfl⟩
        change (FPc (-1) 1 ([1])) (a.tmps[84]?.getD undef) w' at d3
        obtain ⟨A3, c3, e3, hc3, hr3⟩ := d3
        have d4 := hd 4 (by decide) ⟨_, rfl, ⟨4, .data⟩, by simp, rfl, rfl⟩
        change (FPc (5) 0 ([])) (a.tmps[85]?.getD undef) w' at d4
        obtain ⟨A4, c4, e4, hc4, hr4⟩ := d4
        have d6 := hd 6 (by decide) ⟨_, rfl, ⟨6, .data⟩, by simp, rfl, rfl⟩
        change (FPc (9223372036854775807) 1 ([1])) (a.tmps[87]?.getD undef) w' at d6
        obtain ⟨A6, c6, e6, hc6, hr6⟩ := d6
        have d8 := hd 8 (by decide) ⟨_, rfl, ⟨8, .data⟩, by simp, rfl, rfl⟩
        change (FPc (-9223372036854775808) 1 ([1])) (a.tmps[89]?.getD undef) w' at d8
        obtain ⟨A8, c8, e8, hc8, hr8⟩ := d8
        have d10 := hd 10 (by decide) ⟨_, rfl, ⟨10, .data⟩, by simp, rfl, rfl⟩
        change (FPc (1) 4080 (zeros 4080)) (a.tmps[91]?.getD undef) w' at d10
        obtain ⟨A10, c10, e10, hc10, hr10⟩ := d10
        have d12 := hd 12 (by decide) ⟨_, rfl, ⟨12, .data⟩, by simp, rfl, rfl⟩
        change (FPc (0) 4081 (zeros 4081)) (a.tmps[93]?.getD undef) w' at d12
        obtain ⟨A12, c12, e12, hc12, hr12⟩ := d12
        refine wpOp_value rfl rfl (u := (.slice (some ⟨w'.heap.size, 0, none⟩) 7 7)) (w1 := w'.alloc (.cells #[.int .i64 (4080), .slice A1 1 c1, .int .i64 (-1), .slice A3 1 c3, .int .i64 (5), .slice A4 0 c4, .int .i64 (9223372036854775807), .slice A6 1 c6, .int .i64 (-9223372036854775808), .slice A8 1 c8, .int .i64 (1), .slice A10 4080 c10, .int .i64 (0), .slice A12 4081 c12] 36)) ?_ ⟨(.slice (some ⟨w'.heap.size, 0, none⟩) 7 7), rfl, balloc (Below.refl _ _) _, FPs.lit w' [((4080), .slice A1 1 c1, [1]), ((-1), .slice A3 1 c3, [1]), ((5), .slice A4 0 c4, []), ((9223372036854775807), .slice A6 1 c6, [1]), ((-9223372036854775808), .slice A8 1 c8, [1]), ((1), .slice A10 4080 c10, zeros 4080), ((0), .slice A12 4081 c12, zeros 4081)] rfl rfl (by intro p hp; simp only [List.mem_cons, List.not_mem_nil, or_false] at hp; rcases hp with rfl | rfl | rfl | rfl | rfl | rfl | rfl; exact ⟨A1, 1, c1, rfl, by simp, hc1, by decide, hr1, by dsimp only; decide, by dsimp only; decide⟩; exact ⟨A3, 1, c3, rfl, by simp, hc3, by decide, hr3, by dsimp only; decide, by dsimp only; decide⟩; exact ⟨A4, 0, c4, rfl, by simp, hc4, by decide, hr4, by dsimp only; decide, by dsimp only; decide⟩; exact ⟨A6, 1, c6, rfl, by simp, hc6, by decide, hr6, by dsimp only; decide, by dsimp only; decide⟩; exact ⟨A8, 1, c8, rfl, by simp, hc8, by decide, hr8, by dsimp only; decide, by dsimp only; decide⟩; exact ⟨A10, 4080, c10, rfl, by simp, hc10, by decide, hr10, by dsimp only; decide, by dsimp only; decide⟩; exact ⟨A12, 4081, c12, rfl, by simp, hc12, by decide, hr12, by dsimp only; decide, by dsimp only; decide⟩)⟩
        go_simp
      | 14, _ =>
        have d13 := hd 13 (by decide) ⟨_, rfl, ⟨13, .data⟩, by simp, rfl, rfl⟩
        change (FPs 7 [(4080, [1]), (-1, [1]), (5, []), (9223372036854775807, [1]), (-9223372036854775808, [1]), (1, zeros 4080), (0, zeros 4081)]) (a.tmps[94]?.getD undef) w' at d13
        obtain ⟨G, eG, hG⟩ := d13
        refine wpOp_value rfl rfl (u := (.int .i64 7)) (w1 := w') ?_ ⟨(.int .i64 7), rfl, Below.refl _ _, rfl⟩
        go_simp
      | 15, _ =>
        refine wpOp_value rfl rfl (u := (.int .i64 0)) (w1 := w') ?_ ⟨(.int .i64 0), rfl, Below.refl _ _, rfl⟩
        go_simp
      | (q + 16), h => exact absurd h (by show ¬ (q + 16 < 16); omega)
    case done =>
      intro v w' hb hF
      have f0 := hF 0 (by decide)
      change (FS 1 [1]) (v 0) w' at f0
      obtain ⟨A0, c0, e0, -, -⟩ := f0
      have f1 := hF 1 (by decide)
      change (FPc (4080) 1 ([1])) (v 1) w' at f1
      obtain ⟨A1, c1, e1, -, -⟩ := f1
      have f2 := hF 2 (by decide)
      change (FS 1 [1]) (v 2) w' at f2
      obtain ⟨A2, c2, e2, -, -⟩ := f2
      have f3 := hF 3 (by decide)
      change (FPc (-1) 1 ([1])) (v 3) w' at f3
      obtain ⟨A3, c3, e3, -, -⟩ := f3
      have f4 := hF 4 (by decide)
      change (FPc (5) 0 ([])) (v 4) w' at f4
      obtain ⟨A4, c4, e4, -, -⟩ := f4
      have f5 := hF 5 (by decide)
      change (FS 1 [1]) (v 5) w' at f5
      obtain ⟨A5, c5, e5, -, -⟩ := f5
      have f6 := hF 6 (by decide)
      change (FPc (9223372036854775807) 1 ([1])) (v 6) w' at f6
      obtain ⟨A6, c6, e6, -, -⟩ := f6
      have f7 := hF 7 (by decide)
      change (FS 1 [1]) (v 7) w' at f7
      obtain ⟨A7, c7, e7, -, -⟩ := f7
      have f8 := hF 8 (by decide)
      change (FPc (-9223372036854775808) 1 ([1])) (v 8) w' at f8
      obtain ⟨A8, c8, e8, -, -⟩ := f8
      have f9 := hF 9 (by decide)
      change (FS 4080 (zeros 4080)) (v 9) w' at f9
      obtain ⟨A9, c9, e9, -, -⟩ := f9
      have f10 := hF 10 (by decide)
      change (FPc (1) 4080 (zeros 4080)) (v 10) w' at f10
      obtain ⟨A10, c10, e10, -, -⟩ := f10
      have f11 := hF 11 (by decide)
      change (FS 4081 (zeros 4081)) (v 11) w' at f11
      obtain ⟨A11, c11, e11, -, -⟩ := f11
      have f12 := hF 12 (by decide)
      change (FPc (0) 4081 (zeros 4081)) (v 12) w' at f12
      obtain ⟨A12, c12, e12, -, -⟩ := f12
      have f13 := hF 13 (by decide)
      change (FPs 7 [(4080, [1]), (-1, [1]), (5, []), (9223372036854775807, [1]), (-9223372036854775808, [1]), (1, zeros 4080), (0, zeros 4081)]) (v 13) w' at f13
      obtain ⟨G, e13, hG⟩ := f13
      have e14 : v 14 = _ := hF 14 (by decide)
      have e15 : v 15 = _ := hF 15 (by decide)
      simp only [putsL, Act.put, Nat.reduceAdd, List.setIfInBounds_toArray, List.set_cons_succ, List.set_cons_zero]
      rw [e0, e1, e2, e3, e4, e5, e6, e7, e8, e9, e10, e11, e12, e13, e14, e15]
      have Bb := Lib.hid (bthen Ba.out hb)
      have RG := Lib.hid hG
      clear e0 e1 e2 e3 e4 e5 e6 e7 e8 e9 e10 e11 e12 e13 e14 e15 hF hb hG
      obtain ⟨wb, hwb⟩ : ∃ wb, wb = w' := ⟨_, rfl⟩
      rw [← hwb] at Bb RG ⊢
      clear hwb
      go_wp2_with fail
      go_loopw [96] (fun i wr => ∃ j : Nat, j ≤ 7 ∧ i = .int .i64 j ∧ Hid (Below wb.heap.size wb wr)) (fun i _ => 7 - (intOf i).toNat)
      case atStart => exact ⟨0, by decide, rfl, Below.refl _ _⟩
      case round =>
        obtain ⟨j, hj, rfl, hw⟩ := hrel
        by_cases hlt : j < 7
        · have hlt2 : j < ([(4080, [1]), (-1, [1]), (5, []), (9223372036854775807, [1]), (-9223372036854775808, [1]), (1, zeros 4080), (0, zeros 4081)] : List (Int × List UInt8)).length := hlt
          obtain ⟨C, c, pa⟩ := (RG.out.below hw.out).at' (i := j) hlt2
          have BAD := Lib.hid (pieces_bad _ (List.getElem_mem hlt2))
          generalize ([(4080, [1]), (-1, [1]), (5, []), (9223372036854775807, [1]), (-9223372036854775808, [1]), (1, zeros 4080), (0, zeros 4081)] : List (Int × List UInt8))[j]'hlt2 = p at *
          obtain ⟨a, X⟩ := p
          obtain ⟨m, hm⟩ : ∃ m, m = X.length := ⟨_, rfl⟩
          have k0 : wr.cell? ⟨G, j * 2, none⟩ = some (.int .i64 a) := by have := pa.c0; rwa [Nat.zero_add] at this
          have k1 : wr.cell? ⟨G, j * 2 + 1, none⟩ = some (.slice C m c) := by have := pa.c1; rw [Nat.zero_add] at this; rw [hm]; exact this
          have hcm : m ≤ c := by have := pa.3; rw [hm]; exact this
          have hrx := Lib.hid pa.5
          have hpk := Lib.hid pa.4
          have HM := Lib.hid hm
          have z0 : (0 : Int) ≤ (j : Int) := by omega
          have z1 : (j : Int) < 7 := by omega
          clear pa hm hlt2
          go_upto_region 9 with (fail)
          have bx := box2c wr 36 (.int .i64 a) (.slice C m c)
          have lt2 : wr.heap.size < (wr.alloc (.cells #[.int .i64 a, .slice C m c] 36)).heap.size := by simp
          have Bx9 := Lib.hid (balloc hw.out (.cells #[.int .i64 a, .slice C m c] 36))
          have RX := Lib.hid (hrx.out.alloc (.cells #[.int .i64 a, .slice C m c] 36))
          generalize hwx : wr.alloc (.cells #[.int .i64 a, .slice C m c] 36) = wx at *
          clear hwx
          refine region_factsL [101, 102, 103, 104, 105, 106, 100, 107, 108, 12, 13] 157 [FS 4080 (oneL []), FS 1 [1], FPc 1 1 [1], FPc a m X, FPs 2 [(1, [1]), (a, X)], FV (.tuple #[.slice none 0 0, .int .i64 2]), FV (.tuple #[.slice none 0 0, .int .i64 2]), FV (.slice none 0 0), FV (.int .i64 2), FV (.slice none 0 0), FV (.int .i64 2)] (by kernel_rfl) rfl (by kernel_rfl) (by exact rfl) (by decide) (by decide) ?stab ?step ?done
          case stab =>
            intro f hf
            simp only [List.mem_cons, List.not_mem_nil, or_false] at hf
            rcases hf with rfl | rfl | rfl | rfl | rfl | rfl | rfl | rfl | rfl | rfl | rfl
            · exact FS.stab _ _
            · exact FS.stab _ _
            · exact FPc.stab _ _ _
            · exact FPc.stab _ _ _
            · exact FPs.stab _ _
            · exact FV.stab _
            · exact FV.stab _
            · exact FV.stab _
            · exact FV.stab _
            · exact FV.stab _
            · exact FV.stab _
          case step =>
            intro i hi a' w' hb hf hd
            match i, hi with
            | 0, _ =>
              refine wpOp_at rfl rfl ?_
              go_simp
              go_at_call 21
              refine (at_none _).mono ?_
              rintro e w2 ⟨rv, rfl, hvv, hbb⟩
              obtain ⟨Aq, cq, rfl, hcq, -, hrq⟩ := hvv.sliceN E0.out
              exact ⟨_, rfl, hbb, Aq, cq, rfl, hcq, hrq⟩
            | 1, _ =>
              refine wpOp_value rfl rfl (u := (.slice (some ⟨w'.heap.size, 0, none⟩) 1 1)) (w1 := w'.alloc (.cells #[.int .u8 1] 5)) ?_ ⟨(.slice (some ⟨w'.heap.size, 0, none⟩) 1 1), rfl, balloc (Below.refl _ _) _, FS.new _ _ _ _ rfl rfl⟩
              go_simp
            | 2, _ =>
              have d1 := hd 1 (by decide) ⟨_, rfl, ⟨1, .data⟩, by simp, rfl, rfl⟩
              change (FS 1 [1]) (a'.tmps[102]?.getD undef) w' at d1
              obtain ⟨A1, c1, e1, hc1, hr1⟩ := d1
              refine wpOp_value rfl rfl (u := (.agg #[.int .i64 (1), .slice A1 1 c1])) (w1 := w') ?_ ⟨(.agg #[.int .i64 (1), .slice A1 1 c1]), rfl, Below.refl _ _, ⟨A1, c1, rfl, hc1, hr1⟩⟩
              go_simp
            | 3, _ =>
              have k11 : a'.tmps[11]?.getD undef = .pointer (some ⟨wr.heap.size, 0, none⟩) := by rw [← Array.getD_eq_getD_getElem?]; exact (hf.other 11 (by decide))
              have x0 := (hb.cell (p := ⟨wr.heap.size, 0, none⟩) lt2).trans bx.1
              have x1 := (hb.cell (p := ⟨wr.heap.size, 1, none⟩) lt2).trans bx.2
              refine wpOp_value rfl rfl (u := (.agg #[.int .i64 a, .slice C m c])) (w1 := w') ?_ ⟨(.agg #[.int .i64 a, .slice C m c]), rfl, Below.refl _ _, ⟨C, c, rfl, hcm, RX.out.below hb⟩⟩
              go_simp
            | 4, _ =>
              have d2 := hd 2 (by decide) ⟨_, rfl, ⟨2, .data⟩, by simp, rfl, rfl⟩
              change (FPc 1 1 [1]) (a'.tmps[103]?.getD undef) w' at d2
              obtain ⟨A2, c2, e2, hc2, hr2⟩ := d2
              have d3 := hd 3 (by decide) ⟨_, rfl, ⟨3, .data⟩, by simp, rfl, rfl⟩
              change (FPc a m X) (a'.tmps[104]?.getD undef) w' at d3
              obtain ⟨A3, c3, e3, hc3, hr3⟩ := d3
              refine wpOp_value rfl rfl (u := (.slice (some ⟨w'.heap.size, 0, none⟩) 2 2)) (w1 := w'.alloc (.cells #[.int .i64 (1), .slice A2 1 c2, .int .i64 (a), .slice A3 m c3] 36)) ?_ ⟨(.slice (some ⟨w'.heap.size, 0, none⟩) 2 2), rfl, balloc (Below.refl _ _) _, FPs.lit w' [((1), .slice A2 1 c2, [1]), ((a), .slice A3 m c3, X)] rfl rfl (by intro p hp; simp only [List.mem_cons, List.not_mem_nil, or_false] at hp; rcases hp with rfl | rfl; exact ⟨A2, 1, c2, rfl, rfl, hc2, (by decide), hr2, (by dsimp only; decide), (by dsimp only; decide)⟩; exact ⟨A3, m, c3, rfl, HM.out.symm, hc3, (by rw [HM.out]; exact hpk.out.1), hr3, hpk.out.2, hpk.out.3⟩)⟩
              go_simp
            | 5, _ =>
              have d0 := hd 0 (by decide) ⟨_, rfl, ⟨0, .data⟩, by simp, rfl, rfl⟩
              change (FS 4080 (oneL [])) (a'.tmps[101]?.getD undef) w' at d0
              obtain ⟨Aa, ca, ea, hca, hra⟩ := d0
              have d4 := hd 4 (by decide) ⟨_, rfl, ⟨4, .data⟩, by simp, rfl, rfl⟩
              change (FPs 2 [(1, [1]), (a, X)]) (a'.tmps[105]?.getD undef) w' at d4
              obtain ⟨G4, eG, hG⟩ := d4
              refine wpOp_at rfl rfl ?_
              go_simp
              go_at_call 16
              refine (apply_bad E0.out ca hra (L := [(1, [1]), (a, X)]) (l := 2) rfl 2 hG (by decide) BAD.out).mono ?_
              rintro e w2 ⟨rfl, hbb⟩
              exact ⟨_, rfl, hbb, rfl⟩
            | 6, _ =>
              have d5 := hd 5 (by decide) ⟨_, rfl, ⟨5, .data⟩, by simp, rfl, rfl⟩
              change (FV (.tuple #[.slice none 0 0, .int .i64 2])) (a'.tmps[106]?.getD undef) w' at d5
              have e5 : a'.tmps[106]?.getD undef = _ := d5
              refine wpOp_value rfl rfl (u := (.tuple #[.slice none 0 0, .int .i64 2])) (w1 := w') ?_ ⟨(.tuple #[.slice none 0 0, .int .i64 2]), rfl, Below.refl _ _, rfl⟩
              go_simp
            | 7, _ =>
              have d6 := hd 6 (by decide) ⟨_, rfl, ⟨6, .data⟩, by simp, rfl, rfl⟩
              change (FV (.tuple #[.slice none 0 0, .int .i64 2])) (a'.tmps[100]?.getD undef) w' at d6
              have e6 : a'.tmps[100]?.getD undef = _ := d6
              refine wpOp_value rfl rfl (u := (.slice none 0 0)) (w1 := w') ?_ ⟨(.slice none 0 0), rfl, Below.refl _ _, rfl⟩
              go_simp
            | 8, _ =>
              have d6 := hd 6 (by decide) ⟨_, rfl, ⟨6, .data⟩, by simp, rfl, rfl⟩
              change (FV (.tuple #[.slice none 0 0, .int .i64 2])) (a'.tmps[100]?.getD undef) w' at d6
              have e6 : a'.tmps[100]?.getD undef = _ := d6
              refine wpOp_value rfl rfl (u := (.int .i64 2)) (w1 := w') ?_ ⟨(.int .i64 2), rfl, Below.refl _ _, rfl⟩
              go_simp
            | 9, _ =>
              have d7 := hd 7 (by decide) ⟨_, rfl, ⟨7, .data⟩, by simp, rfl, rfl⟩
              change (FV (.slice none 0 0)) (a'.tmps[107]?.getD undef) w' at d7
              have e7 : a'.tmps[107]?.getD undef = _ := d7
              refine wpOp_value rfl rfl (u := (.slice none 0 0)) (w1 := w') ?_ ⟨(.slice none 0 0), rfl, Below.refl _ _, rfl⟩
              go_simp
            | 10, _ =>
              have d8 := hd 8 (by decide) ⟨_, rfl, ⟨8, .data⟩, by simp, rfl, rfl⟩
              change (FV (.int .i64 2)) (a'.tmps[108]?.getD undef) w' at d8
              have e8 : a'.tmps[108]?.getD undef = _ := d8
              refine wpOp_value rfl rfl (u := (.int .i64 2)) (w1 := w') ?_ ⟨(.int .i64 2), rfl, Below.refl _ _, rfl⟩
              go_simp
            | (q + 11), h => exact absurd h (by show ¬ (q + 11 < 11); omega)
          case done =>
            intro v w' hb hF
            have f0 := hF 0 (by decide)
            change (FS 4080 (oneL [])) (v 0) w' at f0
            obtain ⟨A0, c0, g0, -, -⟩ := f0
            have f1 := hF 1 (by decide)
            change (FS 1 [1]) (v 1) w' at f1
            obtain ⟨A1, c1, g1, -, -⟩ := f1
            have f2 := hF 2 (by decide)
            change (FPc 1 1 [1]) (v 2) w' at f2
            obtain ⟨A2, c2, g2, -, -⟩ := f2
            have f3 := hF 3 (by decide)
            change (FPc a m X) (v 3) w' at f3
            obtain ⟨A3, c3, g3, -, -⟩ := f3
            have f4 := hF 4 (by decide)
            change (FPs 2 [(1, [1]), (a, X)]) (v 4) w' at f4
            obtain ⟨G4, g4, -⟩ := f4
            have g5 : v 5 = _ := hF 5 (by decide)
            have g6 : v 6 = _ := hF 6 (by decide)
            have g7 : v 7 = _ := hF 7 (by decide)
            have g8 : v 8 = _ := hF 8 (by decide)
            have g9 : v 9 = _ := hF 9 (by decide)
            have g10 : v 10 = _ := hF 10 (by decide)
            simp only [putsL, Act.put, Nat.reduceAdd, List.setIfInBounds_toArray, List.set_cons_succ, List.set_cons_zero]
            rw [g0, g1, g2, g3, g4, g5, g6, g7, g8, g9, g10]
            have By := Lib.hid (bthen Bx9.out hb)
            clear g0 g1 g2 g3 g4 g5 g6 g7 g8 g9 g10 hF hb
            go_wp2_with fail
            go_roundw
            case rel => exact ⟨j + 1, by omega, by go_num, By.out⟩
            case measure => simp [intOf]; omega
        · obtain rfl : 7 = j := by omega
          have Bc := Lib.hid (bthen Bb.out hw.out)
          go_wp2_with fail
          refine (apply_arg _ _ (by decide) (by decide)).mono ?_
          rintro e wd ⟨rfl, hbb⟩
          have Bd := Lib.hid (bthen (balloc Bc.out _) hbb)
          clear hbb
          go_upto_region 14 with (fail)
          refine region_factsL [123, 124, 125, 126, 127, 128, 129, 130, 122, 131, 132, 16, 17] 157 [FI 1 [1], FS 4080 (oneL [1]), FS 4080 (zeros 4080), FPc 0 4080 (zeros 4080), FS 1 [9], FPc 0 1 [9], FPs 2 [(0, zeros 4080), (0, [9])], FTp 4080 (layL (oneL [1]) [(0, zeros 4080), (0, [9])]), FTp 4080 (layL (oneL [1]) [(0, zeros 4080), (0, [9])]), FS 4080 (layL (oneL [1]) [(0, zeros 4080), (0, [9])]), FV (.int .i64 0), FS 4080 (layL (oneL [1]) [(0, zeros 4080), (0, [9])]), FV (.int .i64 0)] (by kernel_rfl) rfl (by kernel_rfl) (by exact rfl) (by decide) (by decide) ?stab ?step ?done
          case stab =>
            intro f hf
            simp only [List.mem_cons, List.not_mem_nil, or_false] at hf
            rcases hf with rfl | rfl | rfl | rfl | rfl | rfl | rfl | rfl | rfl | rfl | rfl | rfl | rfl
            · exact FI.stab _ _
            · exact FS.stab _ _
            · exact FS.stab _ _
            · exact FPc.stab _ _ _
            · exact FS.stab _ _
            · exact FPc.stab _ _ _
            · exact FPs.stab _ _
            · exact FTp.stab _ _
            · exact FTp.stab _ _
            · exact FS.stab _ _
            · exact FV.stab _
            · exact FS.stab _ _
            · exact FV.stab _
          case step =>
            intro i hi a w' hb hf hd
            match i, hi with
            | 0, _ =>
              refine wpOp_value rfl rfl (u := (.slice (some ⟨w'.heap.size, 0, none⟩) 1 1)) (w1 := w'.alloc (.cells #[.int .i64 1] 3)) ?_ ⟨(.slice (some ⟨w'.heap.size, 0, none⟩) 1 1), rfl, balloc (Below.refl _ _) _, ⟨_, _, rfl, RdI.lit rfl rfl _⟩⟩
              go_simp
            | 1, _ =>
              have d0 := hd 0 (by decide) ⟨_, rfl, ⟨0, .data⟩, by simp, rfl, rfl⟩
              change (FI 1 [1]) (a.tmps[123]?.getD undef) w' at d0
              obtain ⟨Aa, ca, ea, hra⟩ := d0
              refine wpOp_at rfl rfl ?_
              go_simp
              go_at_call 21
              refine (at_any (ps := [1]) rfl ca hra (by decide) (by decide)).mono ?_
              rintro e w2 ⟨rv, rfl, hvv, hbb⟩
              obtain ⟨Aq, cq, rfl, hcq, -, hrq⟩ := hvv.sliceN E3.out
              exact ⟨_, rfl, hbb, Aq, cq, rfl, hcq, hrq⟩
            | 2, _ =>
              refine wpOp_value rfl rfl (u := (.slice (some ⟨w'.heap.size, 0, none⟩) 4080 4080)) (w1 := w'.alloc (.cells (bvs (zeros 4080)).toArray 5)) ?_ ⟨(.slice (some ⟨w'.heap.size, 0, none⟩) 4080 4080), rfl, balloc (Below.refl _ _) _, FS.new _ _ _ _ rfl (by simp)⟩
              go_simp
            | 3, _ =>
              have d2 := hd 2 (by decide) ⟨_, rfl, ⟨2, .data⟩, by simp, rfl, rfl⟩
              change (FS 4080 (zeros 4080)) (a.tmps[125]?.getD undef) w' at d2
              obtain ⟨A2, c2, e2, hc2, hr2⟩ := d2
              refine wpOp_value rfl rfl (u := (.agg #[.int .i64 (0), .slice A2 4080 c2])) (w1 := w') ?_ ⟨(.agg #[.int .i64 (0), .slice A2 4080 c2]), rfl, Below.refl _ _, ⟨A2, c2, rfl, hc2, hr2⟩⟩
              go_simp
            | 4, _ =>
              refine wpOp_value rfl rfl (u := (.slice (some ⟨w'.heap.size, 0, none⟩) 1 1)) (w1 := w'.alloc (.cells #[.int .u8 9] 5)) ?_ ⟨(.slice (some ⟨w'.heap.size, 0, none⟩) 1 1), rfl, balloc (Below.refl _ _) _, FS.new _ _ _ _ rfl rfl⟩
              go_simp
            | 5, _ =>
              have d4 := hd 4 (by decide) ⟨_, rfl, ⟨4, .data⟩, by simp, rfl, rfl⟩
              change (FS 1 [9]) (a.tmps[127]?.getD undef) w' at d4
              obtain ⟨A4, c4, e4, hc4, hr4⟩ := d4
              refine wpOp_value rfl rfl (u := (.agg #[.int .i64 (0), .slice A4 1 c4])) (w1 := w') ?_ ⟨(.agg #[.int .i64 (0), .slice A4 1 c4]), rfl, Below.refl _ _, ⟨A4, c4, rfl, hc4, hr4⟩⟩
              go_simp
            | 6, _ =>
              have d3 := hd 3 (by decide) ⟨_, rfl, ⟨3, .data⟩, by simp, rfl, rfl⟩
              change (FPc 0 4080 (zeros 4080)) (a.tmps[126]?.getD undef) w' at d3
              obtain ⟨A3, c3, e3, hc3, hr3⟩ := d3
              have d5 := hd 5 (by decide) ⟨_, rfl, ⟨5, .data⟩, by simp, rfl, rfl⟩
              change (FPc 0 1 [9]) (a.tmps[128]?.getD undef) w' at d5
              obtain ⟨A5, c5, e5, hc5, hr5⟩ := d5
              refine wpOp_value rfl rfl (u := (.slice (some ⟨w'.heap.size, 0, none⟩) 2 2)) (w1 := w'.alloc (.cells #[.int .i64 (0), .slice A3 4080 c3, .int .i64 (0), .slice A5 1 c5] 36)) ?_ ⟨(.slice (some ⟨w'.heap.size, 0, none⟩) 2 2), rfl, balloc (Below.refl _ _) _, FPs.lit w' [((0), .slice A3 4080 c3, zeros 4080), ((0), .slice A5 1 c5, [9])] rfl rfl (by intro p hp; simp only [List.mem_cons, List.not_mem_nil, or_false] at hp; rcases hp with rfl | rfl; exact ⟨A3, 4080, c3, rfl, (by simp), hc3, (by decide), hr3, (by dsimp only; decide), (by dsimp only; decide)⟩; exact ⟨A5, 1, c5, rfl, rfl, hc5, (by decide), hr5, (by dsimp only; decide), (by dsimp only; decide)⟩)⟩
              go_simp
            | 7, _ =>
              have d1 := hd 1 (by decide) ⟨_, rfl, ⟨1, .data⟩, by simp, rfl, rfl⟩
              change (FS 4080 (oneL [1])) (a.tmps[124]?.getD undef) w' at d1
              obtain ⟨Aa, ca, ea, hca, hra⟩ := d1
              have d6 := hd 6 (by decide) ⟨_, rfl, ⟨6, .data⟩, by simp, rfl, rfl⟩
              change (FPs 2 [(0, zeros 4080), (0, [9])]) (a.tmps[129]?.getD undef) w' at d6
              obtain ⟨G4, eG, hG⟩ := d6
              refine wpOp_at rfl rfl ?_
              go_simp
              go_at_call 16
              refine (apply_ok E3.out ca hra (L := [(0, zeros 4080), (0, [9])]) rfl 2 hG (by decide) (by decide +kernel)).mono ?_
              rintro e w2 ⟨rv, rfl, hvv, hbb⟩
              obtain ⟨Aq, cq, rfl, hcq, -, hrq⟩ := hvv.sliceN LR.out
              exact ⟨_, rfl, hbb, Aq, cq, rfl, hcq, hrq⟩
            | 8, _ =>
              have d7 := hd 7 (by decide) ⟨_, rfl, ⟨7, .data⟩, by simp, rfl, rfl⟩
              change (FTp 4080 (layL (oneL [1]) [(0, zeros 4080), (0, [9])])) (a.tmps[130]?.getD undef) w' at d7
              obtain ⟨Aa, ca, ea, hca, hra⟩ := d7
              refine wpOp_value rfl rfl (u := (.tuple #[.slice Aa 4080 ca, .int .i64 0])) (w1 := w') ?_ ⟨(.tuple #[.slice Aa 4080 ca, .int .i64 0]), rfl, Below.refl _ _, ⟨Aa, ca, rfl, hca, hra⟩⟩
              go_simp
            | 9, _ =>
              have d8 := hd 8 (by decide) ⟨_, rfl, ⟨8, .data⟩, by simp, rfl, rfl⟩
              change (FTp 4080 (layL (oneL [1]) [(0, zeros 4080), (0, [9])])) (a.tmps[122]?.getD undef) w' at d8
              obtain ⟨Aa, ca, ea, hca, hra⟩ := d8
              refine wpOp_value rfl rfl (u := (.slice Aa 4080 ca)) (w1 := w') ?_ ⟨(.slice Aa 4080 ca), rfl, Below.refl _ _, ⟨Aa, ca, rfl, hca, hra⟩⟩
              go_simp
            | 10, _ =>
              have d8 := hd 8 (by decide) ⟨_, rfl, ⟨8, .data⟩, by simp, rfl, rfl⟩
              change (FTp 4080 (layL (oneL [1]) [(0, zeros 4080), (0, [9])])) (a.tmps[122]?.getD undef) w' at d8
              obtain ⟨Aa, ca, ea, hca, hra⟩ := d8
              refine wpOp_value rfl rfl (u := (.int .i64 0)) (w1 := w') ?_ ⟨(.int .i64 0), rfl, Below.refl _ _, rfl⟩
              go_simp
            | 11, _ =>
              have d9 := hd 9 (by decide) ⟨_, rfl, ⟨9, .data⟩, by simp, rfl, rfl⟩
              change (FS 4080 (layL (oneL [1]) [(0, zeros 4080), (0, [9])])) (a.tmps[131]?.getD undef) w' at d9
              obtain ⟨Aa, ca, ea, hca, hra⟩ := d9
              refine wpOp_value rfl rfl (u := (.slice Aa 4080 ca)) (w1 := w') ?_ ⟨(.slice Aa 4080 ca), rfl, Below.refl _ _, ⟨Aa, ca, rfl, hca, hra⟩⟩
              go_simp
            | 12, _ =>
              have d10 := hd 10 (by decide) ⟨_, rfl, ⟨10, .data⟩, by simp, rfl, rfl⟩
              change (FV (.int .i64 0)) (a.tmps[132]?.getD undef) w' at d10
              have e10 : a.tmps[132]?.getD undef = _ := d10
              refine wpOp_value rfl rfl (u := (.int .i64 0)) (w1 := w') ?_ ⟨(.int .i64 0), rfl, Below.refl _ _, rfl⟩
              go_simp
            | (q + 13), h => exact absurd h (by show ¬ (q + 13 < 13); omega)
          case done =>
            intro v w' hb hF
            have f0 := hF 0 (by decide)
            change (FI 1 [1]) (v 0) w' at f0
            obtain ⟨A0, c0, g0, -⟩ := f0
            have f1 := hF 1 (by decide)
            change (FS 4080 (oneL [1])) (v 1) w' at f1
            obtain ⟨A1, c1, g1, -, -⟩ := f1
            have f2 := hF 2 (by decide)
            change (FS 4080 (zeros 4080)) (v 2) w' at f2
            obtain ⟨A2, c2, g2, -, -⟩ := f2
            have f3 := hF 3 (by decide)
            change (FPc 0 4080 (zeros 4080)) (v 3) w' at f3
            obtain ⟨A3, c3, g3, -, -⟩ := f3
            have f4 := hF 4 (by decide)
            change (FS 1 [9]) (v 4) w' at f4
            obtain ⟨A4, c4, g4, -, -⟩ := f4
            have f5 := hF 5 (by decide)
            change (FPc 0 1 [9]) (v 5) w' at f5
            obtain ⟨A5, c5, g5, -, -⟩ := f5
            have f6 := hF 6 (by decide)
            change (FPs 2 [(0, zeros 4080), (0, [9])]) (v 6) w' at f6
            obtain ⟨G6, g6, -⟩ := f6
            have f7 := hF 7 (by decide)
            change (FTp 4080 (layL (oneL [1]) [(0, zeros 4080), (0, [9])])) (v 7) w' at f7
            obtain ⟨A7, c7, g7, -, -⟩ := f7
            have f8 := hF 8 (by decide)
            change (FTp 4080 (layL (oneL [1]) [(0, zeros 4080), (0, [9])])) (v 8) w' at f8
            obtain ⟨A8, c8, g8, -, -⟩ := f8
            have f9 := hF 9 (by decide)
            change (FS 4080 (layL (oneL [1]) [(0, zeros 4080), (0, [9])])) (v 9) w' at f9
            obtain ⟨A9, c9, g9, -, -⟩ := f9
            have g10 : v 10 = _ := hF 10 (by decide)
            have f11 := hF 11 (by decide)
            change (FS 4080 (layL (oneL [1]) [(0, zeros 4080), (0, [9])])) (v 11) w' at f11
            obtain ⟨A11, c11, g11, -, hr11⟩ := f11
            have g12 : v 12 = _ := hF 12 (by decide)
            simp only [putsL, Act.put, Nat.reduceAdd, List.setIfInBounds_toArray, List.set_cons_succ, List.set_cons_zero]
            rw [g0, g1, g2, g3, g4, g5, g6, g7, g8, g9, g10, g11, g12]
            have By := Lib.hid (bthen Bd.out hb)
            clear g0 g1 g2 g3 g4 g5 g6 g7 g8 g9 g10 g11 g12 hF hb
            obtain ⟨b11, o11, rfl⟩ := hr11.addr (by rw [LR.out]; decide)
            have q0 : w'.cell? ⟨b11, o11, none⟩ = some (.int .u8 9) := hr11.at' 0 lay_one.2.1
            have q1 : w'.cell? ⟨b11, o11 + 1, none⟩ = some (.int .u8 0) := hr11.at' 1 lay_one.2.2
            clear hr11
            go_wp2_with fail
            refine (awake08_any _).mono ?_
            rintro e wz ⟨rfl, hbb⟩
            have Bz := Lib.hid (bthen By.out hbb)
            clear hbb
            go_wp2_with fail
            go_ret
            exact ⟨rfl, Bz.out⟩
end Go.Proofs.Ytobnomlbkhkodaa.Y
