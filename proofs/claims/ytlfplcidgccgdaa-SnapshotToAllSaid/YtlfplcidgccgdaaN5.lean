/-
  package snapshot: New of no dead ones, and of one; the chapter's example.
-/
import Derived.Test.YtlfplcidgccgdaaN4
set_option linter.unusedVariables false
set_option linter.unusedSimpArgs false
namespace Go.Proofs.Ytlfplcidgccgdaa.Y
open Go.RowKit Go.Maps Go.MapKept Go.ChangeMaps Go.WideElems
attribute [local go_sem ↓] Go.wp_at_zero Go.wp_at_succ

/-- The first entry of a new map, in two steps. -/
theorem entry_new {w : World} {b : Nat} (hb : w.heap[b]? = some (.map #[] 0)) {k v : Int} (hk : wf64 k) (hv : wf64 v) :
    ∃ w1 w2, (Instr.mapEntry 100 (.map (some b)) (.int .i64 k)).run Try.prog w = .ok (.tuple #[.int .i64 0, .int .i64 0]) w1 ∧ (Instr.entryStore 100 (.map (some b)) (.int .i64 0) (.int .i64 v)).run Try.prog w1 = .ok () w2 ∧
      MI w2 b (updM (fun _ => none) k (some v)) 1 ∧ Tch (fun j => j = b) w w1 ∧ Tch (fun j => j = b) w w2 := by
  have hkey : keyOf Try.prog 3 (.int .i64 k) = some (.int .i64 k) := keyOf_int_mk Try.underlying3 hk.wf
  have hfind : (Instr.findKey 3 (.int .i64 k) []).run Try.prog w = .ok none w := by
    rcases law_int.find w hkey [] (by simp) with ⟨h1, _⟩ | ⟨j, e, _, h2, _⟩
    · exact h1
    · simp at h2
  have hm : MI w b (fun _ => none) 0 := ⟨.map [], ⟨#[], 0, hb, ⟨by simp, by simpa using stamped_empty 0, by simp⟩, by simp, rfl⟩, rfl, fun k _ => ⟨rfl, rfl⟩⟩
  have hlt : b < w.heap.size := hm.lt
  have hset : ∀ o : Obj, Tch (fun j => j = b) w (setBlock w b o) := fun o => ⟨rfl, rfl, rfl, by simp [setBlock], fun j hj hne => by simp [setBlock, Array.getElem?_setIfInBounds, Ne.symm hne]⟩
  have hb1 : (setBlock w b (.map #[⟨.int .i64 k, .int .i64 0, 0⟩] 1)).heap[b]? = some (.map #[⟨.int .i64 k, .int .i64 0, 0⟩] 1) := by simp [setBlock, hlt]
  obtain ⟨w3, h3, hM, hT⟩ := hm.put hk hv (by decide)
  have e3 : w3 = setBlock w b (.map #[⟨.int .i64 k, .int .i64 v, 0⟩] 1) := by
    have : (Instr.mapUpdate 100 (.map (some b)) (.int .i64 k) (.int .i64 v)).run Try.prog w = .ok () (setBlock w b (.map #[⟨.int .i64 k, .int .i64 v, 0⟩] 1)) := by
      simp [Instr.mapUpdate, run_underlying Try.underlying100, MapKept.run_getObj_map hb, law_int.check w false hkey, hfind, MapKept.run_setObj_map _ hb, Result.andThen, setBlock]
    rw [h3] at this
    injection this
  refine ⟨setBlock w b (.map #[⟨.int .i64 k, .int .i64 0, 0⟩] 1), w3, ?_, ?_, hM, hset _, hT⟩
  · simp [Instr.mapEntry, run_underlying Try.underlying100, MapKept.run_getObj_map hb, law_int.check w false hkey, hfind, zero_int, MapKept.run_setObj_map _ hb, Result.andThen, setBlock, goInt]
  · rw [e3]
    obtain ⟨W1, hW1⟩ : ∃ W1, W1 = setBlock w b (.map #[⟨.int .i64 k, .int .i64 0, 0⟩] 1) := ⟨_, rfl⟩
    rw [← hW1] at hb1 ⊢
    have e4 : setBlock w b (.map #[⟨.int .i64 k, .int .i64 v, 0⟩] 1) = setBlock W1 b (.map #[⟨.int .i64 k, .int .i64 v, 0⟩] 1) := by rw [hW1]; simp [setBlock]
    rw [e4]
    have hf : (#[⟨.int .i64 k, .int .i64 0, 0⟩] : Array MapEntry).findIdx? (fun e => ((e.born : Nat) : Int) == 0) = some 0 := by simp [List.findIdx?_cons]
    simp [Instr.entryStore, MapKept.run_getObj_map hb1, asInt, asIntOf, hf, MapKept.run_setObj_map _ hb1, Result.andThen]
    simp [setBlock]
def newS (n : Int) : TS := ⟨n, n, 0, fun _ => none, fun _ => none, fun _ => none, fun _ => none, 0, 0, 0, 0⟩
def newS1 (n d : Int) : TS := { newS n with dd := updM (fun _ => none) d (some d), sd := 1 }
/-- Behind the literal. -/
structure Raw (w : World) (B : Nat) (n : Int) (M : Int → Option Int) (sd : Nat) : Prop where
  obj : Ob w (B + 4) 102 [.int .i64 0, .int .i64 n, .map (some B), .map (some (B + 1)), .map (some (B + 2)), .map (some (B + 3)), .int .i64 0]
  mo : MI w B (fun _ => none) 0
  mc : MI w (B + 1) (fun _ => none) 0
  md : MI w (B + 2) M sd
  mg : MI w (B + 3) (fun _ => none) 0
theorem made_at (w w1 : World) {b : Nat} (hb : b = w.heap.size) (h : Below (w.alloc (.map #[] 0)).heap.size (w.alloc (.map #[] 0)) w1) : MI w1 b (fun _ => none) 0 ∧ w1.heap[b]? = some (.map #[] 0) := by
  subst hb
  refine ⟨(MI.made w).below h, ?_⟩
  rw [h.block _ (by simp)]
  exact heap_alloc_new w _
theorem raw_new (w : World) (n : Int) {w5 : World} (h : w5 = ((((w.alloc (.map #[] 0)).alloc (.map #[] 0)).alloc (.map #[] 0)).alloc (.map #[] 0)).alloc (.cells #[.int .i64 0, .int .i64 n, .map (some w.heap.size), .map (some (w.heap.size + 1)), .map (some (w.heap.size + 1 + 1)), .map (some (w.heap.size + 1 + 1 + 1)), .int .i64 0] 102)) :
    Raw w5 w.heap.size n (fun _ => none) 0 ∧ w5.heap[w.heap.size + 2]? = some (.map #[] 0) ∧ Below w.heap.size w w5 := by
  have hb : ∀ (w : World) (o : Obj), Below w.heap.size w (w.alloc o) := fun w o => balloc (Below.refl _ _) _
  subst h
  refine ⟨⟨?_, (made_at w _ rfl (bthen (bthen (bthen (hb _ _) (hb _ _)) (hb _ _)) (hb _ _))).1, (made_at (w.alloc (.map #[] 0)) _ (by simp) (bthen (bthen (hb _ _) (hb _ _)) (hb _ _))).1, (made_at ((w.alloc (.map #[] 0)).alloc (.map #[] 0)) _ (by simp) (bthen (hb _ _) (hb _ _))).1, (made_at (((w.alloc (.map #[] 0)).alloc (.map #[] 0)).alloc (.map #[] 0)) _ (by simp) (hb _ _)).1⟩, (made_at ((w.alloc (.map #[] 0)).alloc (.map #[] 0)) _ (by simp) (bthen (hb _ _) (hb _ _))).2, bthen (bthen (bthen (bthen (hb _ _) (hb _ _)) (hb _ _)) (hb _ _)) (hb _ _)⟩
  have := heap_alloc_new ((((w.alloc (.map #[] 0)).alloc (.map #[] 0)).alloc (.map #[] 0)).alloc (.map #[] 0)) (.cells #[.int .i64 0, .int .i64 n, .map (some w.heap.size), .map (some (w.heap.size + 1)), .map (some (w.heap.size + 1 + 1)), .map (some (w.heap.size + 1 + 1 + 1)), .int .i64 0] 102)
  simpa [Ob] using this
theorem Raw.table {w : World} {B : Nat} {n : Int} {M : Int → Option Int} {sd : Nat} (h : Raw w B n M sd) (h1 : 1 ≤ n) (h2 : n ≤ 4611686018427387904) (h3 : sd ≤ 64) :
    TableAt (w.setCell ⟨B + 4, 0, none⟩ (.int .i64 n)) (B + 4) B (B + 1) (B + 2) (B + 3) { newS n with dd := M, sd := sd } := by
  have T : Tch (fun k => k = B + 4) w (w.setCell ⟨B + 4, 0, none⟩ (.int .i64 n)) := (Tch.refl _ _).grown (set_grown _ _ _ _) (fun j e => .inl (by injection e with e; exact e.symm))
  refine ⟨h.obj.set 0 _, h.mo.kept (T.block _ h.mo.lt (by omega)), h.mc.kept (T.block _ h.mc.lt (by omega)), h.md.kept (T.block _ h.md.lt (by omega)), h.mg.kept (T.block _ h.mg.lt (by omega)), by omega, by omega, by omega, by omega, by omega, by omega, ⟨h1, Int.le_refl _, h2, Int.le_refl _, by show (0 : Int) + ((0 : Nat) : Int) ≤ n - n; omega, fun k p e => (by cases e), Nat.zero_le _, h3⟩⟩
set_option maxHeartbeats 1600000 in
theorem tnew_nil {w : World} (n : Int) (h1 : 1 ≤ n) (h2 : n ≤ 4611686018427387904) (A : Option Addr) (c : Nat) : Calls Try.prog 15 #[.int .i64 n, .slice A 0 c] w fun e w' => ∃ g bo bc bd bg, e = .returned (.tuple #[.pointer (some ⟨g, 0, none⟩), .int .i64 0]) ∧ TableAt w' g bo bc bd bg (newS n) ∧ (∀ k, FT g bo bc bd bg k → w.heap.size ≤ k) ∧ Below w.heap.size w w' := by
  have hmm := @run_makeMap Try.prog
  have e1 : decide (n < 1) = false := decide_eq_false (by omega)
  have e2 : decide ((4611686018427387904 : Int) < n) = false := decide_eq_false (by omega)
  obtain ⟨w5, hw5⟩ : ∃ w5, w5 = ((((w.alloc (.map #[] 0)).alloc (.map #[] 0)).alloc (.map #[] 0)).alloc (.map #[] 0)).alloc (.cells #[.int .i64 0, .int .i64 n, .map (some w.heap.size), .map (some (w.heap.size + 1)), .map (some (w.heap.size + 1 + 1)), .map (some (w.heap.size + 1 + 1 + 1)), .int .i64 0] 102) := ⟨_, rfl⟩
  have HR := Lib.hid (raw_new w n hw5)
  have HW := Lib.hid hw5
  have H1 := Lib.hid h1
  have H2 := Lib.hid h2
  clear hw5 h1 h2
  go_enter Try.func15, Try.ntmps15
  go_wp2_with fail
  rw [← HW.out]
  go_loop [30] (fun i => i = .int .i64 0) (fun _ => 0)
  case atStart => rfl
  case round =>
    subst hrel
    go_wp2_with fail
    refine (store_any HR.out.1.obj (j := 0) rfl n).mono ?_
    rintro e w' ⟨rfl, rfl⟩
    go_wp2_with fail
    go_ret2
    refine ⟨_, _, _, _, _, rfl, HR.out.1.table H1.out H2.out (Nat.zero_le _), fun k hk => ?_, HR.out.2.2.setCell (by simp) _⟩
    rcases hk with rfl | rfl | rfl | rfl | rfl <;> omega
end Go.Proofs.Ytlfplcidgccgdaa.Y
