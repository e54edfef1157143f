/-
  A table's open numbers, sorted.
-/
import Derived.Test.YtlfplcidgccgdaaN8
import Derived.Shelf.SlIterI.Nil
import Derived.Shelf.SortM.Plain
import Derived.Shelf.SortM.SortNone
set_option linter.unusedVariables false
set_option linter.unusedSimpArgs false
namespace Go.Proofs
open Go.Shelf
def Try.keysA_ren : Go.Shelf.Ren := ⟨fun | 7 => 106 | 10 => 123 | n => n, fun | 23 => 100 | 26 => 3 | 3 => 3 | 28 => 149 | 0 => 0 | 27 => 148 | 33 => 34 | 4 => 4 | n => n, fun | n => n⟩
theorem Try.keysA : Go.Proofs.SlLaysZI.n7 Try.prog Try.keysA_ren := {
  mixed := by kernel_rfl
  f7 := ⟨Try.f106.name, by decide, Try.func106.trans (congrArg some (by kernel_rfl))⟩
  f10 := ⟨Try.f123.name, by decide, Try.func123.trans (congrArg some (by kernel_rfl))⟩
  t0 := Try.underlying0
  a0 := Try.isAgg0
  z0 := Try.sizeOf0
  v0 := Try.zeroValue0
  t4 := Try.underlying4
  a4 := Try.isAgg4
  z4 := Try.sizeOf4
  v4 := Try.zeroValue4
  t23 := Try.underlying100
  a23 := Try.isAgg100
  z23 := Try.sizeOf100
  v23 := Try.zeroValue100
  t26 := Try.underlying3
  a26 := Try.isAgg3
  z26 := Try.sizeOf3
  v26 := Try.zeroValue3
  t27 := Try.underlying148
  a27 := Try.isAgg148
  z27 := Try.sizeOf148
  v27 := Try.zeroValue148
  t28 := Try.underlying149
  a28 := Try.isAgg149
  z28 := Try.sizeOf149
  v28 := Try.zeroValue149
  t33 := Try.underlying34
  a33 := Try.isAgg34
  z33 := Try.sizeOf34
  v33 := Try.zeroValue34 }
def Try.sortedA_ren : Go.Shelf.Ren := ⟨fun | 6 => 105 | 8 => 121 | 9 => 122 | 11 => 126 | 13 => 128 | 12 => 127 | 23 => 139 | 24 => 140 | 14 => 130 | 15 => 131 | 16 => 132 | 17 => 133 | 18 => 134 | 19 => 135 | 20 => 136 | 21 => 137 | 22 => 138 | 25 => 141 | 26 => 142 | 27 => 143 | 28 => 144 | 29 => 145 | 30 => 146 | 31 => 147 | n => n, fun | 26 => 3 | 28 => 149 | 24 => 22 | 0 => 0 | 3 => 3 | 37 => 162 | 48 => 109 | 50 => 116 | 4 => 4 | 40 => 169 | 39 => 168 | 45 => 107 | 5 => 5 | 9 => 9 | 51 => 176 | 55 => 180 | 57 => 182 | 58 => 183 | 33 => 34 | n => n, fun | n => n⟩
theorem Try.sortedA : Go.Proofs.SlLaysZI.n6 Try.prog Try.sortedA_ren := {
  mixed := by kernel_rfl
  f6 := ⟨Try.f105.name, by decide, Try.func105.trans (congrArg some (by kernel_rfl))⟩
  f8 := ⟨Try.f121.name, by decide, Try.func121.trans (congrArg some (by kernel_rfl))⟩
  f11 := ⟨Try.f126.name, by decide, Try.func126.trans (congrArg some (by kernel_rfl))⟩
  t0 := Try.underlying0
  a0 := Try.isAgg0
  z0 := Try.sizeOf0
  v0 := Try.zeroValue0
  t24 := Try.underlying22
  a24 := Try.isAgg22
  z24 := Try.sizeOf22
  v24 := Try.zeroValue22
  t26 := Try.underlying3
  a26 := Try.isAgg3
  z26 := Try.sizeOf3
  v26 := Try.zeroValue3
  t28 := Try.underlying149
  a28 := Try.isAgg149
  z28 := Try.sizeOf149
  v28 := Try.zeroValue149
  i26 := by kernel_rfl }
def Try.sortA_ren : Go.Shelf.Ren := ⟨fun | 5 => 122 | 8 => 128 | 7 => 127 | 19 => 139 | 20 => 140 | 10 => 130 | 11 => 131 | 12 => 132 | 13 => 133 | 14 => 134 | 15 => 135 | 16 => 136 | 17 => 137 | 18 => 138 | 30 => 141 | 31 => 142 | 32 => 143 | 33 => 144 | 34 => 145 | 35 => 146 | 40 => 147 | n => n, fun | 23 => 22 | 25 => 3 | 3 => 3 | 32 => 162 | 22 => 22 | 0 => 0 | 44 => 109 | 46 => 116 | 4 => 4 | 36 => 169 | 35 => 168 | 41 => 107 | 5 => 5 | 9 => 9 | 53 => 176 | 57 => 180 | 63 => 182 | 64 => 183 | n => n, fun | n => n⟩
theorem Try.sortA : Go.Proofs.SlLaysM.n5 Try.prog Try.sortA_ren := {
  mixed := by kernel_rfl
  f5 := ⟨Try.f122.name, by decide, Try.func122.trans (congrArg some (by kernel_rfl))⟩
  f7 := ⟨Try.f127.name, by decide, Try.func127.trans (congrArg some (by kernel_rfl))⟩
  f8 := Try.func128.trans (congrArg some (by kernel_rfl))
  f10 := ⟨Try.f130.name, by decide, Try.func130.trans (congrArg some (by kernel_rfl))⟩
  f11 := ⟨Try.f131.name, by decide, Try.func131.trans (congrArg some (by kernel_rfl))⟩
  f12 := ⟨Try.f132.name, by decide, Try.func132.trans (congrArg some (by kernel_rfl))⟩
  f13 := ⟨Try.f133.name, by decide, Try.func133.trans (congrArg some (by kernel_rfl))⟩
  f14 := ⟨Try.f134.name, by decide, Try.func134.trans (congrArg some (by kernel_rfl))⟩
  f15 := ⟨Try.f135.name, by decide, Try.func135.trans (congrArg some (by kernel_rfl))⟩
  f16 := ⟨Try.f136.name, by decide, Try.func136.trans (congrArg some (by kernel_rfl))⟩
  f17 := ⟨Try.f137.name, by decide, Try.func137.trans (congrArg some (by kernel_rfl))⟩
  f18 := ⟨Try.f138.name, by decide, Try.func138.trans (congrArg some (by kernel_rfl))⟩
  f19 := Try.func139.trans (congrArg some (by kernel_rfl))
  f20 := Try.func140.trans (congrArg some (by kernel_rfl))
  f30 := ⟨Try.f141.name, by decide, Try.func141.trans (congrArg some (by kernel_rfl))⟩
  f31 := Try.func142.trans (congrArg some (by kernel_rfl))
  f32 := Try.func143.trans (congrArg some (by kernel_rfl))
  f33 := ⟨Try.f144.name, by decide, Try.func144.trans (congrArg some (by kernel_rfl))⟩
  f34 := ⟨Try.f145.name, by decide, Try.func145.trans (congrArg some (by kernel_rfl))⟩
  f35 := ⟨Try.f146.name, by decide, Try.func146.trans (congrArg some (by kernel_rfl))⟩
  f40 := ⟨Try.f147.name, by decide, Try.func147.trans (congrArg some (by kernel_rfl))⟩
  t0 := Try.underlying0
  a0 := Try.isAgg0
  z0 := Try.sizeOf0
  v0 := Try.zeroValue0
  t3 := Try.underlying3
  a3 := Try.isAgg3
  z3 := Try.sizeOf3
  v3 := Try.zeroValue3
  t4 := Try.underlying4
  a4 := Try.isAgg4
  z4 := Try.sizeOf4
  v4 := Try.zeroValue4
  t5 := Try.underlying5
  a5 := Try.isAgg5
  z5 := Try.sizeOf5
  v5 := Try.zeroValue5
  t9 := Try.underlying9
  a9 := Try.isAgg9
  z9 := Try.sizeOf9
  v9 := Try.zeroValue9
  t22 := Try.underlying22
  a22 := Try.isAgg22
  z22 := Try.sizeOf22
  v22 := Try.zeroValue22
  t23 := Try.underlying22
  a23 := Try.isAgg22
  z23 := Try.sizeOf22
  v23 := Try.zeroValue22
  t25 := Try.underlying3
  a25 := Try.isAgg3
  z25 := Try.sizeOf3
  v25 := Try.zeroValue3
  t32 := Try.underlying162
  a32 := Try.isAgg162
  z32 := Try.sizeOf162
  v32 := Try.zeroValue162
  t35 := Try.underlying168
  a35 := Try.isAgg168
  z35 := Try.sizeOf168
  v35 := Try.zeroValue168
  t36 := Try.underlying169
  a36 := Try.isAgg169
  z36 := Try.sizeOf169
  v36 := Try.zeroValue169
  t41 := Try.underlying107
  a41 := Try.isAgg107
  z41 := Try.sizeOf107
  v41 := Try.zeroValue107
  t44 := Try.underlying109
  a44 := Try.isAgg109
  z44 := Try.sizeOf109
  v44 := Try.zeroValue109
  t46 := Try.underlying116
  a46 := Try.isAgg116
  z46 := Try.sizeOf116
  v46 := Try.zeroValue116
  t53 := Try.underlying176
  a53 := Try.isAgg176
  z53 := Try.sizeOf176
  v53 := Try.zeroValue176
  t57 := Try.underlying180
  a57 := Try.isAgg180
  z57 := Try.sizeOf180
  v57 := Try.zeroValue180
  t63 := Try.underlying182
  a63 := Try.isAgg182
  z63 := Try.sizeOf182
  v63 := Try.zeroValue182
  t64 := Try.underlying183
  a64 := Try.isAgg183
  z64 := Try.sizeOf183
  v64 := Try.zeroValue183 }

end Go.Proofs
namespace Go.Proofs.Ytlfplcidgccgdaa.Y
open Go.RowKit Go.Maps Go.Sort Go.Shelf
attribute [local go_sem ↓] Go.wp_at_zero Go.wp_at_succ

/-- A map's keys, rising. -/
structure KeysOf (M : Int → Option Int) (sz : Nat) (ss : List Int) : Prop where
  len : ss.length = sz
  up : ss.Pairwise (· < ·)
  wf : ∀ k ∈ ss, wf64 k
  has : ∀ k, wf64 k → (k ∈ ss ↔ (M k).isSome = true)
theorem wf64_of {k : Int} (h : (Lit.int .i64 k).wf = true) : wf64 k := by
  obtain ⟨h1, h2⟩ := int_wf64 h
  exact ⟨by omega, by omega⟩
theorem keysOf_sorted {w : World} {b n : Nat} {D : DataW Unit} {R : Value → Option (DataW Unit × List MemPlace)} {M : Int → Option Int} {sz : Nat} {ss : List Int} (ho : w.ownsMap Try.prog 3 R b n D)
    (hsz : Maps.size D = sz) (hD : ∀ k, wf64 k → Maps.has D (.int .i64 k) = (M k).isSome) (hp : ss.Perm (intKeys D)) : KeysOf M sz (ss.mergeSort fun x y => decide (x ≤ y)) := by
  have hwf := intKeys_wf ho Try.underlying3
  obtain ⟨es, hE, hpw, _⟩ := ho.entries law_int
  obtain ⟨es', hE', hko⟩ := ho.keysOf
  obtain rfl : es = es' := by rw [hE] at hE'; simpa using hE'
  subst hE
  have hk : ∀ p ∈ es, ∃ x, p.1 = .int .i64 x := fun p hp => by obtain ⟨v, hv⟩ := hko p hp; obtain ⟨x, _, hx, _⟩ := Maps.keyOf_i64 Try.underlying3 hv; exact ⟨x, hx⟩
  have hmem : ∀ x, x ∈ intKeys (.map es : DataW Unit) ↔ Maps.has (.map es : DataW Unit) (.int .i64 x) = true := by
    intro x
    rw [has_eq, List.any_eq_true]
    show x ∈ es.map (fun p => Go.intOf p.1) ↔ _
    rw [List.mem_map]
    constructor
    · rintro ⟨p, hp', rfl⟩
      obtain ⟨a, ha⟩ := hk p hp'
      exact ⟨p, hp', by rw [ha]; simp [Lit.sameKey, Go.intOf]⟩
    · rintro ⟨p, hp', hs⟩
      obtain ⟨a, ha⟩ := hk p hp'
      rw [ha] at hs
      exact ⟨p, hp', by rw [ha]; simpa [Lit.sameKey, Go.intOf] using hs⟩
  have hnd : (intKeys (.map es : DataW Unit)).Nodup := by
    show (es.map fun p => Go.intOf p.1).Nodup
    refine List.pairwise_map.2 (hpw.imp_of_mem fun {p q} hp' hq' hne e => hne ?_)
    obtain ⟨a, ha⟩ := hk p hp'
    obtain ⟨b, hb⟩ := hk q hq'
    rw [ha, hb] at e ⊢
    exact congrArg _ e
  have hp2 : (ss.mergeSort fun x y => decide (x ≤ y)).Perm (intKeys (.map es : DataW Unit)) := (List.mergeSort_perm ss _).trans hp
  refine ⟨?_, ?_, fun k h => wf64_of (hwf k (hp2.mem_iff.1 h)), fun k h => ?_⟩
  · rw [hp2.length_eq, ← hsz]
    show (es.map _).length = es.length
    rw [List.length_map]
  · have hn : (ss.mergeSort fun x y => decide (x ≤ y)).Nodup := hp2.nodup_iff.2 hnd
    have tr : ∀ a b c : Int, leI a b = true → leI b c = true → leI a c = true := fun a b c h1 h2 => by simp only [leI, decide_eq_true_eq] at *; exact Int.le_trans h1 h2
    have tot : ∀ a b : Int, (leI a b || leI b a) = true := fun a b => by simp only [leI, Bool.or_eq_true, decide_eq_true_eq]; exact Int.le_total a b
    have hs := List.pairwise_mergeSort tr tot ss
    refine (List.Pairwise.and hs hn).imp ?_
    rintro a b ⟨h1, h2⟩
    simp only [leI, decide_eq_true_eq] at h1
    omega
  · rw [hp2.mem_iff, hmem k, hD k h]

theorem mkeys_any (mb : Option Nat) (W : World) : Calls Try.prog 106 #[.map mb] W fun e w' => e = .returned (.func (.func 123) #[] #[.pointer (some ⟨W.heap.size, 0, none⟩)]) ∧ w' = W.alloc (.cells #[.map mb] 100) :=
  (callsIn_wide (n := 5)).1 (AnyZI.keys_in Try.keysA Fence.wide 5 trivial rfl mb W)
theorem sorts_any (m : Nat) : AnyZI.SortsIn Try.prog Try.sortedA_ren Fence.wide m :=
  ⟨fun blk off cap ss W hH hblk hsz => callsIn_wide.2 (AnyM.slices_Sort_int Try.sortA blk off cap ss W hH hblk hsz),
   fun p cap W => callsIn_wide.2 (AnyM.slices_Sort_int_none Try.sortA p cap W)⟩
theorem sorted_any {w : World} {b sz : Nat} {M : Int → Option Int} (h : MI w b M sz) (hs : sz ≤ 100000) :
    Calls Try.prog 105 #[.func (.func 123) #[] #[.pointer (some ⟨w.heap.size, 0, none⟩)]] (w.alloc (.cells #[.map (some b)] 100)) fun e w' =>
      ∃ v ss, e = .returned v ∧ KeysOf M sz ss ∧ OwnI w' w.heap.size v ss ∧ Below w.heap.size w w' := by
  obtain ⟨D, ho, hsz, hD⟩ := h
  have hbl := ho.lt
  have hseq : SeqGives Fence.wide 2 Try.prog 123 #[.pointer (some ⟨w.heap.size, 0, none⟩)] encZ (fun ss => ss.Perm (intKeys D)) (Maps.size D) (w.alloc (.cells #[.map (some b)] 100)) :=
    AnyZI.keys_gives (ρ := Try.keysA_ren) { Try.keysA with } Fence.wide _ trivial rfl (by omega) w.heap.size b sz D _ (by simp) (by simp) (by
      obtain ⟨es, clock, hb, Ft, hs, hD⟩ := ho
      exact ⟨es, clock, (Below.heap_alloc _ _ b hbl).trans hb, Ft, hs, hD⟩)
  have cS := AnyZI.sorted_in Try.sortedA Fence.wide 5 trivial trivial trivial trivial rfl (by omega) (sorts_any _) (enters_of Try.func122 (by kernel_rfl) rfl) 123 #[.pointer (some ⟨w.heap.size, 0, none⟩)] trivial (enters_of Try.func123 (by kernel_rfl) rfl) _ _ (by rw [hsz]; unfold maxLen; omega) (by omega) _ hseq
  change CallsIn _ _ Try.prog 105 _ _ _ at cS
  refine (callsIn_wide.1 cS).mono ?_
  rintro e w' ⟨v, ss, rfl, hS, hrow, -, hb⟩
  refine ⟨v, ss.mergeSort fun x y => decide (x ≤ y), rfl, keysOf_sorted ho hsz (fun k hk => (hD k hk).1) hS, ?_, ((Below.refl _ w).alloc (Nat.le_refl _) _).trans (hb.mono (by simp))⟩
  have := ownsRow_base_a (base' := w.heap.size) hrow (by simp)
  unfold OwnI
  rw [List.length_mergeSort]
  exact this
theorem open_any {w : World} {g bo bc bd bg : Nat} {s : TS} (h : TableAt w g bo bc bd bg s) : Calls Try.prog 60 #[.pointer (some ⟨g, 0, none⟩)] w fun e w' =>
      ∃ v ss, e = .returned v ∧ KeysOf s.op s.so ss ∧ OwnI w' w.heap.size v ss ∧ Below w.heap.size w w' := by
  have H := Lib.hid h
  have c := h.c2
  have S := Lib.hid (sorted_any h.mo (by have := h.ok.so16; omega))
  clear h
  go_enter Try.func60, Try.ntmps60
  go_wp2_with fail
  refine (tnone_any H.out).mono ?_
  rintro e w' ⟨rfl, rfl⟩
  go_wp2_with fail
  refine (mkeys_any _ _).mono ?_
  rintro e w' ⟨rfl, rfl⟩
  go_wp2_with fail
  refine S.out.mono ?_
  rintro e w' ⟨v, ss, rfl, h1, h2, h3⟩
  have K1 := Lib.hid h1
  have K2 := Lib.hid h2
  have K3 := Lib.hid h3
  clear h1 h2 h3
  go_wp2_with fail
  go_ret
  exact ⟨v, ss, rfl, K1.out, K2.out, K3.out⟩
end Go.Proofs.Ytlfplcidgccgdaa.Y
