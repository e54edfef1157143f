/-
  The walk of StampTorn.
-/
import Derived.Test.YtobnomlbkhkodaaS6
set_option linter.unusedVariables false
set_option linter.unusedSimpArgs false
namespace Go.Proofs.Ytobnomlbkhkodaa.Y
open Go.RowKit

theorem torn_drop {X Y : List UInt8} {C k : Nat} (hY : C ≤ Y.length) (hk : C ≤ k) : (Y.take C ++ X.drop C).drop k = X.drop k := by
  have hl : (Y.take C).length = C := by rw [List.length_take]; omega
  rw [List.drop_append, hl, List.drop_of_length_le (by omega), List.nil_append, List.drop_drop]
  congr 1
  omega
theorem torn_take {X Y : List UInt8} {C k : Nat} (hY : C ≤ Y.length) (hk : k ≤ C) : (Y.take C ++ X.drop C).take k = Y.take k := by
  have hl : (Y.take C).length = C := by rw [List.length_take]; omega
  rw [List.take_append_of_le_length (by omega), List.take_take, Nat.min_eq_left hk]
theorem torn_any {X Y : List UInt8} {C : Nat} (hX : X.length = 4096) (hY : Y.length = 4096) (hC : C ≤ 4096) (eX : X.take 8 = X.drop 4088) (eY : Y.take 8 = Y.drop 4088) (hne : X.take 8 ≠ Y.take 8)
    (h1 : Y.take C ++ X.drop C ≠ X) (h2 : Y.take C ++ X.drop C ≠ Y) : (Y.take C ++ X.drop C).take 8 ≠ (Y.take C ++ X.drop C).drop 4088 := by
  intro h
  by_cases a : C < 8
  · rw [torn_drop (by omega) (by omega), ← eX] at h
    apply h1
    rw [← List.take_append_drop 8 (Y.take C ++ X.drop C), h, torn_drop (by omega) (by omega), List.take_append_drop]
  · by_cases b : 4088 < C
    · rw [torn_take (by omega) (by omega)] at h
      apply h2
      rw [← List.take_append_drop 4088 (Y.take C ++ X.drop C), ← h, torn_take (by omega) (by omega), eY, List.take_append_drop]
    · rw [torn_drop (by omega) (by omega), torn_take (by omega) (by omega), ← eX] at h
      exact hne h.symm
theorem torn_bad {xs ys : List UInt8} {a b C : Nat} (hx : xs.length ≤ 4080) (hy : ys.length ≤ 4080) (ha : a < 18446744073709551616) (hb : b < 18446744073709551616) (hab : a ≠ b) (hC : C ≤ 4096)
    (h1 : (sealB ys b).take C ++ (sealB xs a).drop C ≠ sealB xs a) (h2 : (sealB ys b).take C ++ (sealB xs a).drop C ≠ sealB ys b) :
    ((sealB ys b).take C ++ (sealB xs a).drop C).take 8 ≠ ((sealB ys b).take C ++ (sealB xs a).drop C).drop 4088 :=
  torn_any (sealB_len a hx) (sealB_len b hy) hC (by rw [sealB_take8, sealB_end a hx]) (by rw [sealB_take8, sealB_end b hy]) (by rw [sealB_take8, sealB_take8]; exact fun e => hab (leB8_inj ha hb e)) h1 h2

section
variable {P : Program} {ops : Array Oper} {o : Oper} {a : Act} {Q : Exit → Act → World → Prop} {w : World}
/-- append of what is read onto a row of the call's own, as one step of a region that draws. -/
theorem step_append_bytes {K : Act → World → Prop} {E : Prop} (hgd : o.guard = none) (s x : Operand) (t : TypeId)
    (ho : o.op = .call { callee := .builtin .append, args := #[s, x], argTypes := #[t, t] })
    (base : Nat) (ht : P.underlying t = some (.slice 5)) (hinfo : (P.info? 5).map (fun i => (i.zero, i.size, i.bytes)) = some (some (.int .u8 0), 1, 1))
    (v : Value) (xs ys : List UInt8) (hs : a.eval s = v) (hown : Own w base v xs) (A : Option Addr) (m c : Nat) (hx : a.eval x = .slice A m c) (hm : ys.length = m) (hr : Rd w A ys)
    (hbytes : xs.length + m ≤ 211106232532992) (hbase : base ≤ w.heap.size)
    (h : ∀ v' w', Own w' base v' (xs ++ ys) → w.grownBy w' v.ownBlock → K (a.put o.dst v') w') :
    if Region.wanted o (yielded ops a.tmps) = true then Oper.wp P o a w K Q else E := by
  rw [if_pos (by simp [Region.wanted, hgd])]
  obtain ⟨v', w', hr, h2, h3, h4, h5⟩ := append_bytes_run (P := P) (w := w) base t o.type ht hinfo v xs ys hown A m c hm hr hbytes hbase
  unfold Oper.wp execOp
  simp only [ho, resolve, invoke, builtin, Sem.run_bind, Sem.run_pure, Result.andThen_ok, List.map_toArray, List.map_cons, List.map_nil, hs, hx, hr]
  exact h v' w' h2 h3
end

end Go.Proofs.Ytobnomlbkhkodaa.Y
