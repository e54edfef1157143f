/-
  DiskSpares' walk.
-/
import Derived.Test.YtobnomlbkhkodaaDM
import Derived.Test.YtobnomlbkhkodaaDG
import Derived.Test.YtobnomlbkhkodaaYX
import Derived.Test.YtobnomlbkhkodaaYZ
set_option linter.unusedVariables false
set_option linter.unusedSimpArgs false
namespace Go.Proofs.Ytobnomlbkhkodaa.Y
open Go.RowKit
attribute [local go_sem ↓] Go.wp_at_zero Go.wp_at_succ

theorem own_place {w : World} {B g n c : Nat} {xs : List UInt8} (h : Own w B (.slice (some ⟨g, 0, none⟩) n c) xs) : B ≤ g ∧ g < w.heap.size := World.ownsRow.lt h g rfl
theorem four_get {a b c d : Value} {P : Nat → Value → Prop} (h0 : P 0 a) (h1 : P 1 b) (h2 : P 2 c) (h3 : P 3 d) : ∀ (j : Nat) v, ([a, b, c, d] : List Value)[j]? = some v → P j v := fun j v hv => by
  match j, hv with
  | 0, hv => injection hv with hv; subst hv; exact h0
  | 1, hv => injection hv with hv; subst hv; exact h1
  | 2, hv => injection hv with hv; subst hv; exact h2
  | 3, hv => injection hv with hv; subst hv; exact h3
  | (k + 4), hv => simp at hv
theorem four_apart {a b c d : Value} (hab : a.ownBlock ≠ b.ownBlock) (hac : a.ownBlock ≠ c.ownBlock) (had : a.ownBlock ≠ d.ownBlock) (hbc : b.ownBlock ≠ c.ownBlock) (hbd : b.ownBlock ≠ d.ownBlock) (hcd : c.ownBlock ≠ d.ownBlock) :
    ∀ (i j : Nat) (u v : Value), i ≠ j → ([a, b, c, d] : List Value)[i]? = some u → ([a, b, c, d] : List Value)[j]? = some v → u.ownBlock ≠ v.ownBlock := fun i j u v hij hu hv =>
  four_get (P := fun i u => i ≠ j → u.ownBlock ≠ v.ownBlock)
    (four_get (P := fun j v => 0 ≠ j → a.ownBlock ≠ v.ownBlock) (fun h => absurd rfl h) (fun _ => hab) (fun _ => hac) (fun _ => had) j v hv)
    (four_get (P := fun j v => 1 ≠ j → b.ownBlock ≠ v.ownBlock) (fun _ => hab.symm) (fun h => absurd rfl h) (fun _ => hbc) (fun _ => hbd) j v hv)
    (four_get (P := fun j v => 2 ≠ j → c.ownBlock ≠ v.ownBlock) (fun _ => hac.symm) (fun _ => hbc.symm) (fun h => absurd rfl h) (fun _ => hcd) j v hv)
    (four_get (P := fun j v => 3 ≠ j → d.ownBlock ≠ v.ownBlock) (fun _ => had.symm) (fun _ => hbd.symm) (fun _ => hcd.symm) (fun h => absurd rfl h) j v hv) i u hu hij
set_option maxHeartbeats 6400000 in
set_option maxRecDepth 100000 in
theorem diskSpares_walk (s : Int) (w : World) (ws : (Lit.int .i64 s).wf = true) :
    Calls Try.prog 9 #[.int .i64 s] w fun e w' => e = .returned (.bool true) ∧ Below w.heap.size w w' := by
  obtain ⟨s1, s2⟩ := int_wf64 ws
  obtain ⟨L, hL⟩ : ∃ L, L = madeL s 4096 := ⟨_, rfl⟩
  have HL := Lib.hid hL
  have LL : Hid (L.length = 4096) := by show _ = _; rw [hL]; simp
  have M := fun (w : World) => made_det (w := w) s 4096 (by decide) s1 s2
  rw [← hL] at M
  have HM := Lib.hid M
  clear hL M ws s1 s2
  go_enter Try.func9, Try.ntmps9
  go_wp2_with fail
  refine (new_anyR 2 (by decide) (by decide)).mono ?_
  rintro e w1 ⟨g, gb, rfl, hh, hr, hb⟩
  have B1 := Lib.hid hb
  have H1 : Hid (DiskAt w1 w.heap.size g gb (.slice none 0 0) (newD 2)) := hh
  have R1 := Lib.hid hr
  clear hh hr hb
  go_wp2_with fail
  refine (HM.out w1).mono ?_
  rintro e w2 ⟨vi, rfl, hvn, ho, hb⟩
  obtain ⟨gi, ci, rfl, -, -, hci, -⟩ := ho.formN LL.out (by decide)
  have OI2 := Lib.hid ho
  have B2 := Lib.hid (bthen B1.out hb)
  have H2 := Lib.hid (H1.out.below hb)
  have BB2 := Lib.hid hb
  have R2 : Hid (∀ R, RowsB w2 gb 2 R) := fun R => (R1.out R).kept (hb.block gb (by obtain ⟨_, hgo, _⟩ := H1.out.row; exact hgo.lt))
  clear ho hb hvn
  go_wp2_with fail
  refine (write_okR H2.out B2.out.size 1 LL.out ci OI2.out.rd.1 (by simp) (fun w' ht => (ht.own OI2.out (own_g H2.out OI2.out)).rd.1) (by decide) rfl (by decide) rfl rfl).mono ?_
  rintro e w3 ⟨ws3, rfl, h3, t3, hgb, hrw⟩
  rw [(show Calm (newD 2) from ⟨rfl, rfl, rfl⟩).same] at h3
  obtain ⟨D3, hD3⟩ : ∃ D3, D3 = addW (newD 2) 1 L := ⟨_, rfl⟩
  rw [← hD3] at h3
  have e1 : D3.blocks.length = 2 := by rw [hD3]; rfl
  have e2 : D3.writes.length = 1 := by rw [hD3]; rfl
  have e3 : readV D3 1 = L := by rw [hD3, readV_addW, if_pos rfl]
  have e4 : Calm D3 := by rw [hD3]; exact ⟨rfl, rfl, rfl⟩
  have HD1 := Lib.hid e1
  have HD2 := Lib.hid e2
  have HD3 := Lib.hid e3
  have HD4 := Lib.hid e4
  have H3 := Lib.hid h3
  have OI3 := Lib.hid (t3.own OI2.out (own_foot H2.out OI2.out))
  have B3 := Lib.hid (B2.out.trans (t3.toBelow B2.out.size (foot_base H2.out)))
  have RW3 := Lib.hid hrw
  have R3 : Hid (∀ R, RowsB w3 gb 2 R) := fun R => (R2.out R).kept hgb
  have SZ23 := Lib.hid t3.size
  clear h3 t3 hgb hrw hD3 e1 e2 e3 e4
  go_wp2_with fail
  refine (read_any H3.out 1 (by rw [HD1.out]; decide) HD4.out.down).mono ?_
  rintro e w4 ⟨r, rfl, ho, hb⟩
  rw [HD3.out] at ho
  obtain ⟨ga, ca, rfl, -, -, -, -⟩ := ho.formN LL.out (by decide)
  have OA4 := Lib.hid ho
  have B4 := Lib.hid (bthen B3.out hb)
  have H4 := Lib.hid (H3.out.below hb)
  have OI4 := Lib.hid (OI3.out.below hb)
  have RW4 : Hid (RowsW w4 ws3 1 (fun k => w2.heap.size ≤ k ∧ k < w3.heap.size)) := RW3.out.kept (fun k hk => hb.block k (by obtain ⟨qs, _, q2, _⟩ := H3.out.wr; exact (World.ownsRow.lt q2 k hk).2))
  have R4 : Hid (∀ R, RowsB w4 gb 2 R) := fun R => (R3.out R).kept (hb.block gb (by obtain ⟨_, hgo, _⟩ := H3.out.row; exact hgo.lt))
  have SZ34 := Lib.hid hb.size
  clear ho hb
  go_wp2_with fail
  refine (sync_okR (R := fun k => w2.heap.size ≤ k ∧ k < w3.heap.size) H4.out HD4.out.stop (by rw [HD1.out]; exact R4.out _) (by rw [HD2.out]; exact RW4.out)).mono ?_
  rintro e w5 ⟨rfl, h5, t5, hrb⟩
  rw [HD4.out.same] at h5
  obtain ⟨D5, hD5⟩ : ∃ D5, D5 = syncD D3 := ⟨_, rfl⟩
  rw [← hD5] at h5
  have e1 : D5.blocks.length = 2 := by rw [hD5]; show (applyW _ _).length = 2; rw [applyW_length]; exact HD1.out
  have e2 : D5.writes = [] := by rw [hD5]; rfl
  have e3 : readV D5 1 = L := by rw [hD5, readV_sync (by rw [HD1.out]; decide)]; exact HD3.out
  have e4 : D5.down = false := by rw [hD5]; exact HD4.out.down
  have e5 : D5.blocks[1]? = some L := by rw [hD5, sync_get (by rw [HD1.out]; decide), HD3.out]
  have K1 := Lib.hid e1
  have K2 := Lib.hid e2
  have K3 := Lib.hid e3
  have K4 := Lib.hid e4
  have K5 := Lib.hid e5
  have H5 := Lib.hid h5
  have OI5 := Lib.hid (t5.own OI4.out (own_foot H4.out OI4.out))
  have OA5 := Lib.hid (t5.own OA4.out (own_foot H4.out OA4.out))
  have B5 := Lib.hid (B4.out.trans (t5.toBelow B4.out.size (foot_base H4.out)))
  have R5 : Hid (RowsB w5 gb 2 (fun k => w2.heap.size ≤ k ∧ k < w3.heap.size)) := by rw [HD1.out] at hrb; exact hrb
  have SZ45 := Lib.hid t5.size
  clear h5 t5 hrb hD5 e1 e2 e3 e4 e5
  go_wp2_with fail
  refine (read_any H5.out 1 (by rw [K1.out]; decide) K4.out).mono ?_
  rintro e w6 ⟨r, rfl, ho, hb⟩
  rw [K3.out] at ho
  obtain ⟨gB, cB, rfl, -, -, -, -⟩ := ho.formN LL.out (by decide)
  have OB6 := Lib.hid ho
  have B6 := Lib.hid (bthen B5.out hb)
  have B56 := Lib.hid hb
  clear ho hb
  go_wp2_with fail
  refine (durable_any (H5.out.below B56.out) 1 K5.out).mono ?_
  rintro e w7 ⟨r, rfl, ho, hb⟩
  obtain ⟨gC, cC, rfl, -, -, -, -⟩ := ho.formN LL.out (by decide)
  have OC7 := Lib.hid ho
  have B7 := Lib.hid (bthen B6.out hb)
  have B57 := Lib.hid (bthen B56.out hb)
  have OA7 := Lib.hid (OA5.out.below B57.out)
  have OI7 := Lib.hid (OI5.out.below B57.out)
  have OB7 := Lib.hid (OB6.out.below hb)
  have H7 := Lib.hid (H5.out.below B57.out)
  have R7 : Hid (RowsB w7 gb 2 (fun k => w2.heap.size ≤ k ∧ k < w3.heap.size)) := R5.out.kept (B57.out.block gb (by obtain ⟨_, hgo, _⟩ := H5.out.row; exact hgo.lt))
  clear ho hb
  go_wp2_with fail
  refine (sameBytes_any LL.out LL.out ca cB OA7.out.rd.1 OB7.out.rd.1).mono ?_
  rintro e w' ⟨rfl, rfl⟩
  rw [eqB_self]
  go_wp2_with fail
  refine (sameBytes_any LL.out LL.out cB cC OB7.out.rd.1 OC7.out.rd.1).mono ?_
  rintro e w' ⟨rfl, rfl⟩
  rw [eqB_self]
  go_wp2_with fail
  obtain ⟨w8, hw8⟩ : ∃ w8, w8 = w7.alloc (.cells #[.slice (some ⟨ga, 0, none⟩) 4096 ca, .slice (some ⟨gB, 0, none⟩) 4096 cB, .slice (some ⟨gC, 0, none⟩) 4096 cC, .slice (some ⟨gi, 0, none⟩) 4096 ci] 23) := ⟨_, rfl⟩
  rw [← hw8]
  have b8 : Below w7.heap.size w7 w8 := by rw [hw8]; exact balloc (Below.refl _ _) _
  have B8 := Lib.hid (bthen B7.out b8)
  have pi := own_place OI2.out
  have pa := own_place OA4.out
  have pb := own_place OB6.out
  have pc := own_place OC7.out
  have z23 := SZ23.out
  have z34 := SZ34.out
  have z45 := SZ45.out
  have z56 := B56.out.size
  have RL : Hid (RowO w8 0 23 (.slice (some ⟨w7.heap.size, 0, none⟩) 4 4) [.slice (some ⟨ga, 0, none⟩) 4096 ca, .slice (some ⟨gB, 0, none⟩) 4096 cB, .slice (some ⟨gC, 0, none⟩) 4096 cC, .slice (some ⟨gi, 0, none⟩) 4096 ci]) := by
    rw [hw8]
    exact RowO.new w7 _ [_, _, _, _] (Nat.zero_le _) (show 4 ≤ maxLen by decide)
  have hrows : ∀ (j : Nat) v, ([.slice (some ⟨ga, 0, none⟩) 4096 ca, .slice (some ⟨gB, 0, none⟩) 4096 cB, .slice (some ⟨gC, 0, none⟩) 4096 cC, .slice (some ⟨gi, 0, none⟩) 4096 ci] : List Value)[j]? = some v → RowO w8 0 5 v (bvs L) :=
    four_get (P := fun _ v => RowO w8 0 5 v (bvs L)) (RowO.ofOwn ((OA7.out.below b8).mono (Nat.zero_le _)) (by simp)) (RowO.ofOwn ((OB7.out.below b8).mono (Nat.zero_le _)) (by simp)) (RowO.ofOwn ((OC7.out.below b8).mono (Nat.zero_le _)) (by simp)) (RowO.ofOwn ((OI7.out.below b8).mono (Nat.zero_le _)) (by simp))
  have hap : ∀ (i j : Nat) (u v : Value), i ≠ j → ([.slice (some ⟨ga, 0, none⟩) 4096 ca, .slice (some ⟨gB, 0, none⟩) 4096 cB, .slice (some ⟨gC, 0, none⟩) 4096 cC, .slice (some ⟨gi, 0, none⟩) 4096 ci] : List Value)[i]? = some u → ([.slice (some ⟨ga, 0, none⟩) 4096 ca, .slice (some ⟨gB, 0, none⟩) 4096 cB, .slice (some ⟨gC, 0, none⟩) 4096 cC, .slice (some ⟨gi, 0, none⟩) 4096 ci] : List Value)[j]? = some v → u.ownBlock ≠ v.ownBlock :=
    four_apart (by simp [Value.ownBlock]; omega) (by simp [Value.ownBlock]; omega) (by simp [Value.ownBlock]; omega) (by simp [Value.ownBlock]; omega) (by simp [Value.ownBlock]; omega) (by simp [Value.ownBlock]; omega)
  have RR := Lib.hid hrows
  have AA := Lib.hid hap
  have H8 := Lib.hid (H7.out.below b8)
  have R8 : Hid (RowsB w8 gb 2 (fun k => w2.heap.size ≤ k ∧ k < w3.heap.size)) := R7.out.kept (b8.block gb (by obtain ⟨_, hgo, _⟩ := H7.out.row; exact hgo.lt))
  have PP : Hid ((gi < w2.heap.size) ∧ w3.heap.size ≤ ga ∧ w3.heap.size ≤ gB ∧ w3.heap.size ≤ gC) := ⟨pi.2, pa.1, by omega, by omega⟩
  have WB : Hid (w.heap.size ≤ ga ∧ w.heap.size ≤ gB ∧ w.heap.size ≤ gC ∧ w.heap.size ≤ gi) := by
    have := B1.out.size
    have := B2.out.size
    have := BB2.out.size
    exact ⟨by omega, by omega, by omega, by omega⟩
  clear hw8 b8 hrows hap pi pa pb pc z23 z34 z45 z56
  refine (apart_any (m := 4) (X := fun _ => L) (by decide) rfl (fun j _ => by rw [LL.out]; decide) RR.out AA.out RL.out (Nat.zero_le _)).mono ?_
  rintro e w9 ⟨rfl, t9⟩
  have H9 := Lib.hid (H8.out.keepR K2.out (by rw [K1.out]; exact R8.out) t9 (fun ⟨j, v, hv, hb⟩ => row_typed (RR.out j v hv) H8.out.obj (by decide) hb) (fun ⟨j, v, hv, hb⟩ => by obtain ⟨_, hgo, _⟩ := H8.out.row; exact row_typed (RR.out j v hv) hgo (by decide) hb) (fun k hk ⟨j, v, hv, hb⟩ => by
    have hp := PP.out
    have : ∀ (j : Nat) v, ([.slice (some ⟨ga, 0, none⟩) 4096 ca, .slice (some ⟨gB, 0, none⟩) 4096 cB, .slice (some ⟨gC, 0, none⟩) 4096 cC, .slice (some ⟨gi, 0, none⟩) 4096 ci] : List Value)[j]? = some v → v.ownBlock = some k → False := four_get (P := fun _ v => v.ownBlock = some k → False) (fun q => by simp [Value.ownBlock] at q; omega) (fun q => by simp [Value.ownBlock] at q; omega) (fun q => by simp [Value.ownBlock] at q; omega) (fun q => by simp [Value.ownBlock] at q; omega)
    exact this j v hv hb))
  have B9 : Hid (Below w.heap.size w w9) := B8.out.trans (t9.toBelow B8.out.size (fun k ⟨j, v, hv, hb⟩ => by
    have hp := WB.out
    have : ∀ (j : Nat) v, ([.slice (some ⟨ga, 0, none⟩) 4096 ca, .slice (some ⟨gB, 0, none⟩) 4096 cB, .slice (some ⟨gC, 0, none⟩) 4096 cC, .slice (some ⟨gi, 0, none⟩) 4096 ci] : List Value)[j]? = some v → v.ownBlock = some k → w.heap.size ≤ k := four_get (P := fun _ v => v.ownBlock = some k → w.heap.size ≤ k) (fun q => by simp [Value.ownBlock] at q; omega) (fun q => by simp [Value.ownBlock] at q; omega) (fun q => by simp [Value.ownBlock] at q; omega) (fun q => by simp [Value.ownBlock] at q; omega)
    exact this j v hv hb))
  clear t9
  go_wp2_with fail
  refine (read_any H9.out 1 (by rw [K1.out]; decide) K4.out).mono ?_
  rintro e wa ⟨r, rfl, ho, hb⟩
  rw [K3.out] at ho
  obtain ⟨gD, cD, rfl, -, -, -, -⟩ := ho.formN LL.out (by decide)
  have OD := Lib.hid ho
  have Ba := Lib.hid (bthen B9.out hb)
  clear ho hb
  go_wp2_with fail
  refine (HM.out wa).mono ?_
  rintro e wb ⟨vi, rfl, hvn, ho, hb⟩
  obtain ⟨gE, cE, rfl, -, -, -, -⟩ := ho.formN LL.out (by decide)
  have OE := Lib.hid ho
  have OD2 := Lib.hid (OD.out.below hb)
  have Bb := Lib.hid (bthen Ba.out hb)
  clear ho hb hvn
  go_wp2_with fail
  refine (sameBytes_any LL.out LL.out cD cE OD2.out.rd.1 OE.out.rd.1).mono ?_
  rintro e w' ⟨rfl, rfl⟩
  rw [eqB_self]
  go_wp2_with fail
  refine (awake03 (w := _)).mono ?_
  rintro e wc ⟨rfl, hb⟩
  have Bc := Lib.hid (bthen Bb.out hb)
  clear hb
  go_wp2_with fail
  go_ret
  exact ⟨rfl, Bc.out⟩
end Go.Proofs.Ytobnomlbkhkodaa.Y
