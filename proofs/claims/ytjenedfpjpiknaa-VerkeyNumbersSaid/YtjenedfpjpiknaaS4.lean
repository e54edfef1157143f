/-
  stamp.Open and the reference's Open.
-/
import Derived.Test.YtjenedfpjpiknaaS3
set_option linter.unusedVariables false
set_option linter.unusedSimpArgs false
namespace Go.Proofs.Ytjenedfpjpiknaa.Y
open Go.RowKit

theorem Blk.newg {w : World} {g : Nat} {L : List UInt8} (hg : g = w.heap.size) : Blk (w.alloc (.cells (bvs L).toArray 5)) g L := by
  subst hg
  exact Blk.new _ _
theorem mark_eq (w : World) (x0 x1 x2 x3 x4 x5 x6 x7 y0 y1 y2 y3 y4 y5 y6 y7 : UInt8) :
    (Op.equalIn (9998 + 1 + 1) 69 (.agg #[.int .u8 x0.toNat, .int .u8 x1.toNat, .int .u8 x2.toNat, .int .u8 x3.toNat, .int .u8 x4.toNat, .int .u8 x5.toNat, .int .u8 x6.toNat, .int .u8 x7.toNat])
      (.agg #[.int .u8 y0.toNat, .int .u8 y1.toNat, .int .u8 y2.toNat, .int .u8 y3.toNat, .int .u8 y4.toNat, .int .u8 y5.toNat, .int .u8 y6.toNat, .int .u8 y7.toNat])).run Try.prog w =
      .ok (eqB [x0, x1, x2, x3, x4, x5, x6, x7] [y0, y1, y2, y3, y4, y5, y6, y7]) w := by
  have hu : ∀ w, (underlying 69).run Try.prog w = .ok (.array 8 5) w := fun w => run_underlying Try.underlying69 w
  have h5 : Try.prog.underlying 5 = some (.int .u8) := Try.underlying5
  have hs : ∀ w, (sizeOf 5).run Try.prog w = .ok 1 w := fun w => by kernel_rfl
  have ha : ∀ w, (isAgg 5).run Try.prog w = .ok false w := fun w => by kernel_rfl
  have h : ∀ (d : Nat) (a b : Int) w, (Op.equalIn (d + 1) 5 (.int .u8 a) (.int .u8 b)).run Try.prog w = .ok (a == b) w := fun d a b w => run_equalIn_int w d 5 .u8 .u8 a b h5
  have inj : ∀ a b : UInt8, ((a.toNat : Int) = (b.toNat : Int)) = (a = b) := fun a b => by rw [eq_iff_iff, Int.ofNat_inj, UInt8.toNat_inj]
  rw [Op.equalIn]
  simp [hu, hs, ha, part, h, Sem.run_bind, List.range'_succ, eqB, inj]
  repeat' split
  all_goals simp_all
theorem mark_neq (w : World) (x0 x1 x2 x3 x4 x5 x6 x7 y0 y1 y2 y3 y4 y5 y6 y7 : UInt8) :
    (binOp .neq 69 (.agg #[.int .u8 x0.toNat, .int .u8 x1.toNat, .int .u8 x2.toNat, .int .u8 x3.toNat, .int .u8 x4.toNat, .int .u8 x5.toNat, .int .u8 x6.toNat, .int .u8 x7.toNat])
      (.agg #[.int .u8 y0.toNat, .int .u8 y1.toNat, .int .u8 y2.toNat, .int .u8 y3.toNat, .int .u8 y4.toNat, .int .u8 y5.toNat, .int .u8 y6.toNat, .int .u8 y7.toNat])).run Try.prog w =
      .ok (.bool (!eqB [x0, x1, x2, x3, x4, x5, x6, x7] [y0, y1, y2, y3, y4, y5, y6, y7])) w := by
  rw [run_neq_struct, show (10000 : Nat) = 9998 + 1 + 1 from rfl, mark_eq]
  rfl
theorem open_arg {w : World} {A : Option Addr} {l c : Nat} (h : l ≠ 4096) (hl : l ≤ 140737488555328) :
    Calls Try.prog 27 #[.slice A l c] w fun e w' => e = .returned (.tuple #[.slice none 0 0, .int .u64 0, .int .i64 2]) ∧ w = w' := by
  have h1 : ((l : Int) == 4096) = false := by rw [beq_eq_false_iff_ne]; omega
  have h2 : (l == 4096) = false := by rw [beq_eq_false_iff_ne]; exact h
  have h3 : ((l : Int) != 4096) = true := by rw [bne_iff_ne]; omega
  clear h
  go_enter Try.func27, Try.ntmps27
  go_wp2
  go_ret3
  exact ⟨rfl, rfl⟩
set_option maxHeartbeats 1600000 in
theorem open_bad {w : World} {A : Option Addr} {xs : List UInt8} (HL : Hid (xs.length = 4096)) (c : Nat) (HA : Hid (Rd w A xs)) (hc : 4096 ≤ c) (hne : Hid (xs.take 8 ≠ xs.drop 4088)) :
    Calls Try.prog 27 #[.slice A 4096 c] w fun e w' => e = .returned (.tuple #[.slice none 0 0, .int .u64 0, .int .i64 140]) ∧ Below w.heap.size w w' := by
  have K := marks_any HL c HA hc
  obtain ⟨x0, x1, x2, x3, x4, x5, x6, x7, hx⟩ := list8 (l := xs.take 8) (by rw [List.length_take, HL.out]; rfl)
  obtain ⟨y0, y1, y2, y3, y4, y5, y6, y7, hy⟩ := list8 (l := xs.drop 4088) (by rw [List.length_drop, HL.out])
  rw [hx, hy] at K
  simp only [bvs, bv, List.map_cons, List.map_nil] at K
  have HK := Lib.hid K
  have hne2 := hne.out
  rw [hx, hy] at hne2
  have hmn : ∀ W, _ := fun W => mark_neq W x0 x1 x2 x3 x4 x5 x6 x7 y0 y1 y2 y3 y4 y5 y6 y7
  rw [eqB_not.2 hne2] at hmn
  clear K hx hy hne2
  go_enter Try.func27, Try.ntmps27
  go_wp2_with fail
  refine HK.out.mono ?_
  rintro e w1 ⟨rfl, hb1⟩
  have B1 := Lib.hid hb1
  clear hb1
  go_wp2_with fail
  go_ret3
  exact ⟨rfl, balloc (balloc B1.out _) _⟩
set_option maxHeartbeats 1600000 in
theorem open_ok {w : World} {A : Option Addr} {xs : List UInt8} (HL : Hid (xs.length = 4096)) (c : Nat) (HA : Hid (Rd w A xs)) (hc : 4096 ≤ c) (heq : Hid (xs.take 8 = xs.drop 4088)) :
    Calls Try.prog 27 #[.slice A 4096 c] w fun e w' => ∃ r, e = .returned (.tuple #[r, .int .u64 (numV xs 0 8), .int .i64 0]) ∧ Own w' w.heap.size r ((xs.drop 8).take 4080) ∧ Below w.heap.size w w' := by
  have K := marks_any HL c HA hc
  obtain ⟨x0, x1, x2, x3, x4, x5, x6, x7, hx⟩ := list8 (l := xs.take 8) (by rw [List.length_take, HL.out]; rfl)
  rw [← heq.out, hx] at K
  simp only [bvs, bv, List.map_cons, List.map_nil] at K
  have HK := Lib.hid K
  have hmn : ∀ W, _ := fun W => mark_neq W x0 x1 x2 x3 x4 x5 x6 x7 x0 x1 x2 x3 x4 x5 x6 x7
  rw [eqB_self] at hmn
  have hmk := make_lit 4080 4080 rfl (by decide)
  have hd : Hid ((xs.drop 8).length = 4088) := by show _ = _; rw [List.length_drop, HL.out]
  have hok : numOk xs 0 8 = true := by unfold numOk; rw [HL.out]; decide
  clear K hx
  go_enter Try.func27, Try.ntmps27
  go_wp2_with fail
  refine HK.out.mono ?_
  rintro e w1 ⟨rfl, hb1⟩
  have B1 := Lib.hid hb1
  clear hb1
  go_wp2_with fail
  refine (u64_any (xs := xs) HL.out _ (((HA.out.below B1.out).alloc _).alloc _) _ (by decide)).mono ?_
  rintro e w2 ⟨rfl, rfl⟩
  have R2 := Lib.hid (((((HA.out.below B1.out).alloc (Obj.cells #[.int .u8 x0.toNat, .int .u8 x1.toNat, .int .u8 x2.toNat, .int .u8 x3.toNat, .int .u8 x4.toNat, .int .u8 x5.toNat, .int .u8 x6.toNat, .int .u8 x7.toNat] 69)).alloc (Obj.cells #[.int .u8 x0.toNat, .int .u8 x1.toNat, .int .u8 x2.toNat, .int .u8 x3.toNat, .int .u8 x4.toNat, .int .u8 x5.toNat, .int .u8 x6.toNat, .int .u8 x7.toNat] 69)).alloc (.cells (bvs (zeros 4080)).toArray 5)).cut 8 c (by have := HL.out; omega))
  have hc8 : (8 : Int) ≤ 4096 := by decide
  go_wp2_with (with_reducible refine wpList_copy_bytes rfl (.tmp 27) (.tmp 29) 22 22 rfl Try.underlying22 info_u8 (some ⟨w1.heap.size + 1 + 1, 0, none⟩) (cutA A c 8) 4080 4080 4088 (c - 8) rfl rfl (w1.heap.size + 1 + 1) 0 (zeros 4080) (xs.drop 8) (Blk.newg (by simp)) hd.out R2.out (fun _ => rfl) (by simp) ?_; intro w3 hb3 hg3; have G3 := Lib.hid hg3; clear hg3)
  go_ret3
  have hq := hb3.out
  have hl : ((xs.drop 8).take 4080).length = 4080 := by rw [List.length_take, hd.out]; rfl
  have e : splice (zeros 4080) 0 ((xs.drop 8).take 4080) = (xs.drop 8).take 4080 := by
    unfold splice
    have e0 : (zeros 4080).drop (0 + 4080) = [] := List.drop_of_length_le (by rw [zeros_length]; exact Nat.le_refl _)
    rw [List.take_zero, List.nil_append, hl, e0, List.append_nil]
  rw [e] at hq
  have B3 := (balloc (balloc (balloc B1.out (Obj.cells #[.int .u8 x0.toNat, .int .u8 x1.toNat, .int .u8 x2.toNat, .int .u8 x3.toNat, .int .u8 x4.toNat, .int .u8 x5.toNat, .int .u8 x6.toNat, .int .u8 x7.toNat] 69)) (Obj.cells #[.int .u8 x0.toNat, .int .u8 x1.toNat, .int .u8 x2.toNat, .int .u8 x3.toNat, .int .u8 x4.toNat, .int .u8 x5.toNat, .int .u8 x6.toNat, .int .u8 x7.toNat] 69)) (.cells (bvs (zeros 4080)).toArray 5)).grown G3.out (by have := B1.out.size; simp; omega) (by have := B1.out.size; intro k hk; injection hk with hk; omega)
  have ho := Blk.own hq (B := w.heap.size) (n := 4080) (by have := B1.out.size; omega) (by rw [hl]; exact Nat.le_refl _) (by rw [hl]; decide)
  rw [hl, List.take_of_length_le (by rw [hl]; exact Nat.le_refl _)] at ho
  exact ⟨_, rfl, ho, B3⟩

/-! ### The reference's Open -/
theorem refOpen_arg {w : World} {A : Option Addr} {l c : Nat} (h : l ≠ 4096) (hl : l ≤ 140737488555328) :
    Calls Try.prog 33 #[.slice A l c] w fun e w' => e = .returned (.tuple #[.slice none 0 0, .int .u64 0, .int .i64 2]) ∧ w = w' := by
  have h1 : ((l : Int) == 4096) = false := by rw [beq_eq_false_iff_ne]; omega
  have h2 : (l == 4096) = false := by rw [beq_eq_false_iff_ne]; exact h
  have h3 : ((l : Int) != 4096) = true := by rw [bne_iff_ne]; omega
  clear h
  go_enter Try.func33, Try.ntmps33
  go_wp2
  go_ret3
  exact ⟨rfl, rfl⟩
theorem leN_inj {xs ys : List UInt8} (hl : xs.length = ys.length) (h : leN xs = leN ys) : xs = ys := by
  induction xs generalizing ys with
  | nil => exact (List.eq_nil_of_length_eq_zero hl.symm).symm
  | cons x xs ih =>
    cases ys with
    | nil => simp at hl
    | cons y ys =>
      simp only [leN] at h
      have h1 := x.toNat_lt
      have h2 := y.toNat_lt
      have h3 : x.toNat = y.toNat := by omega
      have h4 : leN xs = leN ys := by omega
      rw [UInt8.toNat_inj.1 h3, ih (by simpa using hl) h4]
/-- The two stamps as numbers. -/
theorem ends_num {xs : List UInt8} (hl : xs.length = 4096) : numV xs 0 8 = leN (xs.take 8) ∧ numV xs 4088 8 = leN (xs.drop 4088) := by
  unfold numV numAt
  rw [hl, if_pos (by decide), if_pos (by decide)]
  refine ⟨rfl, ?_⟩
  rw [show (4088 : Int).toNat = 4088 from rfl, List.take_of_length_le (by rw [List.length_drop, hl]; decide)]
set_option maxHeartbeats 800000 in
theorem refOpen_bad {w : World} {A : Option Addr} {xs : List UInt8} (HL : Hid (xs.length = 4096)) (c : Nat) (HA : Hid (Rd w A xs)) (hne : Hid (xs.take 8 ≠ xs.drop 4088)) :
    Calls Try.prog 33 #[.slice A 4096 c] w fun e w' => e = .returned (.tuple #[.slice none 0 0, .int .u64 0, .int .i64 140]) ∧ w = w' := by
  have hn : Hid (numV xs 0 8 ≠ numV xs 4088 8) := by
    show _ ≠ _
    rw [(ends_num HL.out).1, (ends_num HL.out).2]
    intro e
    exact hne.out (leN_inj (by rw [List.length_take, List.length_drop, HL.out]; rfl) e)
  have h1 : ((numV xs 0 8 : Int) == (numV xs 4088 8 : Int)) = false := by rw [beq_eq_false_iff_ne]; have := hn.out; omega
  have h2 : (numV xs 0 8 == numV xs 4088 8) = false := by rw [beq_eq_false_iff_ne]; exact hn.out
  go_enter Try.func33, Try.ntmps33
  go_wp2_with fail
  refine (refNumber_any (xs := xs) HL.out _ HA.out _ 8 (by decide) (by decide)).mono ?_
  rintro e w2 ⟨rfl, rfl⟩
  go_wp2_with fail
  refine (refNumber_any (xs := xs) HL.out _ HA.out _ 8 (by decide) (by decide)).mono ?_
  rintro e w2 ⟨rfl, rfl⟩
  go_wp2_with fail
  go_ret3
  exact ⟨rfl, rfl⟩
set_option maxHeartbeats 800000 in
theorem refOpen_ok {w : World} {A : Option Addr} {xs : List UInt8} (HL : Hid (xs.length = 4096)) (c : Nat) (HA : Hid (Rd w A xs)) (hc : 4096 ≤ c) (heq : Hid (xs.take 8 = xs.drop 4088)) :
    Calls Try.prog 33 #[.slice A 4096 c] w fun e w' => ∃ r, e = .returned (.tuple #[r, .int .u64 (numV xs 0 8), .int .i64 0]) ∧ Own w' w.heap.size r ((xs.drop 8).take 4080) ∧ Below w.heap.size w w' := by
  have hn : Hid (numV xs 4088 8 = numV xs 0 8) := by
    show _ = _
    rw [(ends_num HL.out).1, (ends_num HL.out).2, heq.out]
  have hd : Hid (((xs.drop 8).take 4080).length = 4080) := by show _ = _; rw [List.length_take, List.length_drop, HL.out]; rfl
  have R2 := Lib.hid (HA.out.mid 8 4080 c (by have := HL.out; omega))
  have z1 : (4088 : Int) ≤ c := by omega
  go_enter Try.func33, Try.ntmps33
  go_wp2_with fail
  refine (refNumber_any (xs := xs) HL.out _ HA.out _ 8 (by decide) (by decide)).mono ?_
  rintro e w2 ⟨rfl, rfl⟩
  go_wp2_with fail
  refine (refNumber_any (xs := xs) HL.out _ HA.out _ 8 (by decide) (by decide)).mono ?_
  rintro e w2 ⟨rfl, rfl⟩
  rw [hn.out]
  go_wp2_with (at_builtin; refine wpList_append_bytes (by rfl) (.tmp 26) (.tmp 28) 22 rfl w.heap.size Try.underlying22 info_u8 (.slice none 0 0) [] ((xs.drop 8).take 4080) rfl (Own.nil _ _) (cutA A c 8) 4080 (c - 8) rfl hd.out R2.out (by simp) (Nat.le_refl _) ?_; intro rv w3 hvv hg _ _; have O3 := Lib.hid hvv; have B3 := Lib.hid ((Below.refl _ w).grown hg (Nat.le_refl _) (by intro k hk; cases hk)); clear hvv hg)
  go_ret3
  exact ⟨rv, rfl, O3.out, B3.out⟩
end Go.Proofs.Ytjenedfpjpiknaa.Y
