/- Part 6 of what the law LawRingOpens needs. No condition but those each theorem states. -/
import Derived.ChangeOld
import Derived.ChangeSlices
import Derived.Deep.Matrix
import Derived.Deep.MidRow
import Derived.Deep.SlicePairs
import Derived.OpenShut
import Derived.ProofKit
import Derived.SizedLaws
import Derived.Test.YtlocplkjokoknaaGreatPkLawRingOpensE
/- The law RingOpens, walked. -/
namespace Go.Proofs.YtlocplkjokoknaaGreat
set_option linter.unusedVariables false
set_option linter.unusedSimpArgs false
open Go.RowKit
attribute [local go_sem ↓] Go.wp_at_zero Go.wp_at_succ

theorem ring_onceS : OnceS ringF 1444 := fun u v n h28 hu hv he => ring_once u v n (by omega) hu hv he
set_option maxRecDepth 100000 in
set_option maxHeartbeats 16000000 in
theorem ringOpens_walk (w : World) (ep : UInt64) (A0 : Option Addr) (c0 : Nat) (zs : List Mem) (R0 : RdM w A0 zs) (n0 : zs.length ≤ c0) (b0 : zs ≠ [] → ∀ a, A0 = some a → a.block < w.heap.size) (kk : List UInt8) (hkk : kk.length = 32) :
    Calls Tryz.prog 4 #[.int .u64 (ep.toNat : Int), .slice A0 zs.length c0, .agg (W8 kk)] w fun e w' => e = .returned (.bool true) ∧ Below w.heap.size w w' := by
  have ZK := Lib.hid zeroK
  have H0 := Lib.hid R0
  have L0 := Lib.hid b0
  have HK2 := Lib.hid hkk
  obtain ⟨q, hq⟩ : ∃ q, q = zs.length := ⟨_, rfl⟩
  rw [← hq]
  have Q1 := Lib.hid hq.symm
  have NC := Lib.hid (show q ≤ c0 by omega)
  obtain ⟨KV, hKV⟩ : ∃ v, v = W8 kk := ⟨_, rfl⟩
  rw [← hKV]
  have KVE := Lib.hid hKV
  clear R0 b0 n0 hq hkk hKV
  go_enter Tryz.func4, Tryz.ntmps4
  go_upto_region 1 with fail
  generalize hMK : Array.size (World.heap w) = MK
  generalize hw0 : World.alloc w _ = w0
  have B0 := Lib.hid (show Below w.heap.size w w0 by rw [← hw0]; exact below_new _ _)
  have RK := Lib.hid (show w0.heap[MK]? = some (.cells KV 38 (0, 0)) by rw [← hw0]; exact ha_new _ _ _ hMK.symm)
  have MKE := Lib.hid hMK
  clear hMK hw0
  have h1 := cv_at (w := w0) (C := #[.int .u8 114, .int .u8 105, .int .u8 110, .int .u8 103]) w0.heap.size 4 4 rfl
  go_wp2_with fail
  clear h1
  generalize hM : Array.size (World.heap w0) = M0
  generalize hw1 : World.alloc w0 _ = w1
  have B1 := Lib.hid (show Below w0.heap.size w0 w1 by rw [← hw1]; exact below_new _ _)
  have R1 := Lib.hid (show RdB w1 (some ⟨M0, 0, none⟩) ringF from RdB.row (g := M0) (l := ringF) (t := 5) (fr := (4, 5)) (by rw [← hw1]; exact ha_new w0 _ _ hM.symm))
  have hz1 : w1.heap.size = M0 + 1 := by rw [← hw1, ha_size, hM]
  generalize hw3 : World.alloc w1 _ = w3
  have B3 := Lib.hid (show Below w1.heap.size w1 w3 by rw [← hw3]; exact below_new _ _)
  have RV := Lib.hid (show RdV w3 (some ⟨M0 + 1, 0, none⟩) [.slice (some ⟨M0, 0, none⟩) 4 4] from RdV.row (g := M0 + 1) (t := 22) (fr := (0, 0)) (by rw [← hw3]; exact ha_new _ _ _ hz1.symm))
  clear hM hw1 hw3 hz1
  refine (dnew_any w3 _ 1 1 _ [ringF] rfl RV.out (.cons ⟨some ⟨M0, 0, none⟩, 4, rfl, Nat.le_refl _, R1.out.keep B3.out⟩ .nil) ?_ (by omega)).mono ?_
  · show ([ringF] : List (List UInt8)).flatten.length ≤ 100000
    decide
  rw [show ([ringF] : List (List UInt8)).flatten = ringF by simp]
  rintro e w4 ⟨S, D, rfl, hg, hD1, hD2, hs, hb⟩
  have SW := Lib.hid (SrcW.new hg hD1 hD2 hs hb)
  have W3 := Lib.hid (show Below w.heap.size w w3 from B0.out.trans ((B1.out.trans (B3.out.mono B1.out.size)).mono B0.out.size))
  have RK3 := Lib.hid (below_block (B1.out.trans (B3.out.mono B1.out.size)) (row_lt RK.out) RK.out)
  clear hg hD1 hD2 hs hb RV R1 B1 B3 B0 RK
  go_wp2_with fail
  refine (bnew_any w3 S D ringF 0 w4 SW.out 1 (.inr rfl)).mono ?_
  rintro e w5 ⟨g, b, lo, rfl, hbx, hb2, hlo⟩
  obtain ⟨L, hL⟩ : ∃ L, L = w5.heap.size := ⟨_, rfl⟩
  have X := Lib.hid (show BoxB w3 g S D b L ⟨1, ringF, 0, [], 0⟩ w5 from hbx.raise rfl (by rw [hL]; exact hlo))
  have LE := Lib.hid hL
  have LT := Lib.hid (show g < L ∧ S < L ∧ D < L ∧ b < L by rw [hL]; exact hbx.lt)
  have WL := Lib.hid (show w3.heap.size ≤ L by rw [hL]; exact hbx.bel.size)
  have KL := Lib.hid (show MK < w3.heap.size from row_lt RK3.out)
  have BG := Lib.hid (show w3.heap.size ≤ g ∧ w3.heap.size ≤ S ∧ w3.heap.size ≤ b by have := hbx.hg; have := hbx.hS; have := hbx.hb; omega)
  have W5 := Lib.hid (show Below w.heap.size w w5 from W3.out.trans (hbx.bel.mono W3.out.size))
  have RK5 := Lib.hid (below_block hbx.bel (row_lt RK3.out) RK3.out)
  clear hbx hb2 hlo hL SW
  by_cases h8 : 20 < q
  · have hD : decide ((20 : Int) < (q : Int)) = true := by simp; omega
    go_wp2_with fail
    refine (one_true _).mono ?_
    rintro e wf ⟨rfl, hb⟩
    have BF := Lib.hid (W5.out.trans (hb.mono W5.out.size))
    clear hb
    go_wp2_with fail
    go_ret
    exact ⟨rfl, BF.out⟩
  have hD8 : decide ((20 : Int) < (q : Int)) = false := by simp; omega
  have Q20 := Lib.hid (Nat.le_of_not_lt h8)
  clear h8
  go_upto_region 4 with fail
  refine wp_region_list ?_
  simp only [List.toList_toArray]
  refine wpList_val (v := ?_) (by rfl) ?_ ?_
  rotate_left
  · go_simp
    with_reducible rfl
  simp only [Act.put, List.setIfInBounds_toArray, List.set_cons_zero, List.set_cons_succ]
  refine wpList_val (v := ?_) (by rfl) ?_ ?_
  rotate_left
  · go_simp
    with_reducible rfl
  simp only [Act.put, List.setIfInBounds_toArray, List.set_cons_zero, List.set_cons_succ]
  refine wpList_val (v := ?_) (by rfl) ?_ ?_
  rotate_left
  · go_simp
    with_reducible rfl
  simp only [Act.put, List.setIfInBounds_toArray, List.set_cons_zero, List.set_cons_succ]
  have MK4 := Lib.hid (show Calls Tryz.prog 7 #[.pointer (some ⟨g, 0, none⟩), .int .u64 (ep.toNat : Int), .slice A0 q c0] w5 (MakeP w3 g S D b L ep zs ⟨1, ringF, 0, [], 0⟩ w5) by
    rw [← Q1.out]
    exact make_any w3 g S D b L ⟨1, ringF, 0, [], 0⟩ w5 X.out (.inr rfl) ep A0 c0 zs (H0.out.keep W5.out) (by rw [Q1.out]; exact NC.out) (by rw [Q1.out]; have := Q20.out; omega) (fun h a e => by have := L0.out h a e; have := BG.out; have := W3.out.size; omega) (by show 0 + 11000 ≤ 900000; omega) (by show ringF.length ≤ 100000; decide) (by show 0 ≤ 5000; omega) (by show 0 ≤ 50000; omega) (by rw [LE.out]; exact Nat.le_refl _) LT.out.2.2.1 WL.out)
  refine wpList_op (by rfl) (fun K hK => ?_)
  go_simp
  refine MK4.out.mono ?_
  clear MK4
  rintro e w6 hmp
  obtain ⟨ra, ya, ea, rfl, hea, hma⟩ := hmp.one X.out.bel
  have EA := Lib.hid hea
  have MA := Lib.hid hma
  have RK6 := Lib.hid (row_boxF RK5.out hma.fr (by have := BG.out; have := KL.out; omega))
  clear hea hma hmp
  refine hK.out _ _ ?_
  clear hK K
  have IRA := Lib.hid (show (Tryz.prog.info? 35).map (·.size) = some ra.size by rw [MA.out.sz]; exact info_ring)
  refine wpList_val (v := ?_) (by rfl) ?_ ?_
  rotate_left
  · go_simp
    with_reducible rfl
  simp only [Act.put, List.setIfInBounds_toArray, List.set_cons_zero, List.set_cons_succ]
  refine wpList_val (v := ?_) (by rfl) ?_ ?_
  rotate_left
  · go_simp
    with_reducible rfl
  simp only [Act.put, List.setIfInBounds_toArray, List.set_cons_zero, List.set_cons_succ]
  refine wpList_val (v := ?_) (by rfl) ?_ ?_
  rotate_left
  · go_simp
    with_reducible rfl
  simp only [Act.put, List.setIfInBounds_toArray, List.set_cons_zero, List.set_cons_succ]
  refine wpList_val (v := ?_) (by rfl) ?_ ?_
  rotate_left
  · go_simp
    with_reducible rfl
  simp only [Act.put, List.setIfInBounds_toArray, List.set_cons_zero, List.set_cons_succ]
  refine wpList_op (by rfl) (fun K hK => ?_)
  go_simp
  refine hK.out _ _ ?_
  clear hK K
  refine wpList_op (by rfl) (fun K hK => ?_)
  go_simp
  refine hK.out _ _ ?_
  clear hK K
  rw [← ZK.out]
  generalize hM3 : Array.size (World.heap w6) = M7
  generalize hwa : World.alloc w6 _ = wa
  have sa : wa.heap.size = M7 + 1 := by rw [← hwa, ha_size, hM3]
  have ra' : wa.heap[M7]? = some (.cells RingZ 35 (0, 0)) := by rw [← hwa]; exact ha_new _ _ _ hM3.symm
  generalize hwb : World.alloc wa _ = wb
  have ba : Below wa.heap.size wa wb := by rw [← hwb]; exact below_new _ _
  have r1 := Lib.hid (below_block ba (row_lt ra') ra')
  have r2 := Lib.hid (show wb.heap[M7 + 1]? = some (.cells (RowK kysZ).toArray 40 (0, 0)) by rw [← hwb]; exact ha_new _ _ _ sa.symm)
  have bb := Lib.hid (show Below w6.heap.size w6 wb from by
    have h1 : Below w6.heap.size w6 wa := by rw [← hwa]; exact below_new _ _
    exact h1.trans (ba.mono h1.size))
  have MEA := Lib.hid hM3
  clear hwa sa ra' hwb ba hM3
  refine wpList_store_whole rfl rfl 35 (.tmp 9) (.tmp 50) rfl M7 ra rfl rfl 35 _ r1.out IRA.out (by rw [MA.out.sz]; rfl) MA.out.one ?_
  intro wc hzc hgc _
  refine wpList_store_whole rfl rfl 40 (.tmp 10) (.tmp 51) rfl (M7 + 1) (RowK ya).toArray rfl rfl 40 _ (grown_block hgc (fun e => by have := Option.some.inj e; omega) r2.out) (info_kysC _ MA.out.ok) (by rw [sizeK _ ok_kysZ, sizeK _ MA.out.ok]) (rowK_one _) ?_
  intro w7 hzd hgd _
  have RA := Lib.hid (grown_block hgd (fun e => by have := Option.some.inj e; omega) hzc)
  have KA := Lib.hid hzd
  have BA := Lib.hid (show Below w6.heap.size w6 w7 from grown_below_on (grown_below_on bb.out hgc (by rw [MEA.out]; exact Nat.le_refl _)) hgd (by rw [MEA.out]; omega))
  clear hzc hgc hzd hgd r1 r2 bb
  go_upto_region 5 with fail
  have BT := Lib.hid (show Below w.heap.size w w7 from W3.out.trans ((MA.out.bel.trans (BA.out.mono MA.out.bel.size)).mono W3.out.size))
  have L6 := Lib.hid (show L ≤ w6.heap.size by rw [LE.out]; exact MA.out.fr.1)
  have RK7 := Lib.hid (below_block BA.out (row_lt RK6.out) RK6.out)
  clear RK3 RK5 RK6
  rcases EA.out with rfl | rfl | rfl
  rotate_left
  ·
    have C2 := Lib.hid (show chk zs = 2 by rw [chk, MA.out.bad rfl]; rfl)
    have CKR := Lib.hid (show Calls Tryz.prog 10 #[.slice A0 q c0] w7 fun e w' => e = .returned (.int .i64 (chk zs)) ∧ Below w7.heap.size w7 w' by
      rw [← Q1.out]
      exact check_any w7 A0 c0 zs (H0.out.keep BT.out) (by rw [Q1.out]; exact NC.out) (by rw [Q1.out]; have := Q20.out; omega))
    go_wp2_with fail
    refine CKR.out.mono ?_
    rw [C2.out]
    rintro e w8 ⟨rfl, hb⟩
    have BT := Lib.hid (BT.out.trans (hb.mono BT.out.size))
    clear hb CKR
    go_wp2_with fail
    refine (one_true _).mono ?_
    rintro e wf ⟨rfl, hb⟩
    have BF := Lib.hid (BT.out.trans (hb.mono BT.out.size))
    clear hb
    go_wp2_with fail
    go_ret
    exact ⟨rfl, BF.out⟩
  ·
    exfalso
    obtain ⟨hc, s', hw⟩ := MA.out.odd rfl
    obtain ⟨xs, d, he, _⟩ := ring_ideal (N := 1444) (ok_keysOf _ _) H0.out.ok (checkL_spec hc).1 (show (1 : Nat) = 1 from rfl) (show OnceS ringF 1444 from ring_onceS) (fun p hp => by cases hp) hw (by show 64 + 1365 ≤ 1444; omega)
    cases he
  obtain ⟨hca, hya, s1, xs0, d0, hwa, hbx, hra⟩ := MA.out.good rfl
  have CK := Lib.hid hca
  obtain ⟨xs, d, he, hri, hld, hdl, _, hu1, hm1, hf1, _⟩ := ring_ideal (N := 1444) (ok_keysOf _ _) H0.out.ok (checkL_spec hca).1 (show (1 : Nat) = 1 from rfl) (show OnceS ringF 1444 from ring_onceS) (fun p hp => by cases hp) hwa (by show 64 + 1365 ≤ 1444; omega)
  have htx := wrap_texts (ok_keysOf _ _) H0.out.ok (checkL_spec hca).1 (n := 1000) (by omega) (fun p hp => by cases hp) hwa
  injection he with he
  injection he with he1 he2
  subst he1 he2
  have YE := Lib.hid (show ya.e = ep by rw [hya]; rfl)
  rw [← hya] at hri hld
  have RI := Lib.hid hri
  have LD := Lib.hid hld
  have DL := Lib.hid hdl
  have M1 := Lib.hid hm1
  have TX := Lib.hid (show ∀ p ∈ s1.m, s1.mode = 1 → p.2.text.length ≤ 100000 from fun p hp h => Nat.le_trans (htx p hp h) (by omega))
  have H7 := Lib.hid (hbx.keep BA.out)
  have RG := Lib.hid (show RgB w5.heap.size w7 (.agg ra) xs0 d0 from hra.keep BA.out)
  have OYA := Lib.hid MA.out.ok
  have Q8 := Lib.hid (show q ≤ 8 by have := (checkL_spec hca).1; rw [Q1.out] at this; exact this)
  have FL := Lib.hid (show xs0.length = 8 ∧ xs0.flatten.length = 808 from ⟨hri.len, by rw [flat_101 xs0 (fun i x hx => (hri.each i x hx).1), hri.len]⟩)
  have OSK := Lib.hid (show ∀ o, OkK (seenK ya o) from fun o => ⟨OYA.out.1, by cases o; rfl; exact OYA.out.2⟩)
  have ZKY := Lib.hid (show (Tryz.prog.info? 38).map (·.size) = some (B8 ya.k).length from info_key OYA.out.1)
  have ZKO := Lib.hid (show (Tryz.prog.info? 38).map (·.size) = some (B8 ya.o).length from info_key OYA.out.2)
  have ZKK := Lib.hid (show (Tryz.prog.info? 38).map (·.size) = some (B8 kk).length from info_key HK2.out)
  clear hca hya hwa hbx hra hri hld hdl hu1 hm1 hf1 htx
  have qb : (q : Int) ≤ 8 := by have := Q8.out; omega
  have H7L := Lib.hid (H0.out.keep BT.out)
  go_wp2_with fail
  obtain ⟨kn, hkn⟩ : ∃ kn : Nat → Bool, kn = fun j => (zs.take j).any fun z => decide (z.k = kk) := ⟨_, rfl⟩
  have KN0 := Lib.hid (show kn 0 = false by rw [hkn]; rfl)
  have KNS := Lib.hid (show ∀ j z, zs[j]? = some z → kn (j + 1) = (kn j || decide (z.k = kk)) by
    intro j z hz
    rw [hkn]
    simp only [List.take_add_one, hz, List.any_append, Option.toList_some, List.any_cons, List.any_nil, Bool.or_false])
  have KNQ := Lib.hid (show kn q = zs.any fun z => decide (z.k = kk) by rw [hkn, ← Q1.out]; simp only [List.take_length])
  clear hkn
  have KEYR := Lib.hid (rangeK_k (y := ya) (o := 0) (range_rowL KA.out))
  have OWNR := Lib.hid (rangeK_o (y := ya) (o := 0) (range_rowL KA.out) OYA.out.1)
  have IKV := Lib.hid (show (Tryz.prog.info? 38).map (·.size) = some KV.size by rw [KVE.out]; exact info_keyW HK2.out)
  have RI8 := Lib.hid (show (∀ x ∈ xs0, x.length ≤ 70000) ∧ xs0.length ≤ 1000 from ⟨fun x hx => by obtain ⟨i, hi⟩ := List.getElem?_of_mem hx; rw [(RI.out.each i x hi).1]; omega, by rw [RI.out.len]; omega⟩)
  go_loopw [11, 12] (fun k i wr => ∃ j : Nat, j ≤ q ∧ k = .bool (kn j) ∧ i = .int .i64 (j : Int) ∧ Below w7.heap.size w7 wr) (fun _ i _ => q - (intOf i).toNat)
  case atStart => exact ⟨0, Nat.zero_le _, by rw [KN0.out], rfl, Below.refl _ _⟩
  case round =>
    obtain ⟨j, hj, rfl, rfl, hbw⟩ := hrel
    have J := Lib.hid hj
    have BW := Lib.hid hbw
    clear hj hbw
    obtain ⟨wp, rfl⟩ : ∃ wp : World, wp = wr := ⟨_, rfl⟩
    obtain ⟨kb, hkb⟩ : ∃ kb, kb = kn j := ⟨_, rfl⟩
    rw [← hkb]
    have KB := Lib.hid hkb
    clear hkb
    by_cases hlt : j < q
    · have hD : decide ((j : Int) < (q : Int)) = true := by simp; omega
      obtain ⟨z, bz, oz, hz, hok, hA, hrz⟩ := H7L.out.at (show j < zs.length by rw [Q1.out]; exact hlt)
      have AE := Lib.hid hA
      have JQ := Lib.hid hlt
      have jb : (j : Int) ≤ 7 := by omega
      have ZOKZ := Lib.hid hok
      have RZ := Lib.hid hrz
      have KS1 := Lib.hid (KNS.out j z hz)
      have UM := Lib.hid (show unwrapL s1 z.k xs0 = (seenK ya z.o, 0) from unwrap_mem OYA.out RI.out M1.out j (by have := Q8.out; omega) z hz (fun i z' hi hz' => (check_keys CK.out i j z z' hi hz' hz).1))
      have ZKZ := Lib.hid (show (Tryz.prog.info? 38).map (·.size) = some (B8 z.k).length from info_key hok.1)
      clear hz hok hA hrz hlt
      go_upto_region 11 with fail
      have BWD := Lib.hid (show Below w7.heap.size w7 wp.drew from BW.out.drew)
      have RAD := Lib.hid (below_block BWD.out (row_lt RA.out) RA.out)
      have KRD := Lib.hid (rangeAt_keep (range_key RZ.out) BWD.out)
      have UWX := Lib.hid (show ∀ W : World, Below wp.drew.heap.size wp.drew W → Calls Tryz.prog 17 #[.pointer (some ⟨g, 0, none⟩), .agg ra, .agg (B8 z.k).toArray] W fun e w' => e = .returned (.tuple #[.agg (RowK (seenK ya z.o)).toArray, .int .i64 0]) ∧ Below W.heap.size W w' by
        intro W hW
        have h1 := unwrap_any w3 g S D b L s1 W ((H7.out.keep BWD.out).keep hW) (.inr M1.out) (.agg ra) xs0 d0 _ ((RG.out.keep BWD.out).keep hW) RI8.out.1 RI8.out.2 z.k ZOKZ.out.1 TX.out
        rw [UM.out] at h1
        exact h1)
      obtain ⟨zo, hzo⟩ : ∃ zo, zo = z.o := ⟨_, rfl⟩
      rw [← hzo] at UWX
      have ZO := Lib.hid hzo.symm
      clear hzo
      refine wp_region_tree (fun W => Below wp.drew.heap.size wp.drew W) (.q 0 (.q 1 (.q 2 (.q 3 (.q 4 (.q 5 (.q 6 (.two 7 (.q 8 (.q 9 (.q 10 (.t 11 (.t 12 (.q 13 .done)))))) 11 (.t 7 (.q 8 (.q 9 (.q 10 (.t 12 (.q 13 .done)))))))))))))) (by kernel_rfl) (by kernel_rfl) (fun _ _ d _ _ h => by cases d <;> exact h) ?_
      generalize World.drew wp = wd1 at RAD KRD UWX BWD ⊢
      have Z := Lib.hid (Below.refl wd1.heap.size wd1)
      refine road_q (v := ?_) rfl rfl (Z.out) ?_ ?_
      rotate_left
      · intro W hW
        go_simp
        with_reducible rfl
      simp only [Act.put, List.setIfInBounds_toArray, List.set_cons_zero, List.set_cons_succ]
      refine road_q rfl rfl (Z.out) (fun W hW => run_load_row 35 (.tmp 9) rfl M7 rfl 35 ra (0, 0) _ (below_block hW (row_lt RAD.out) RAD.out) Tryz.underlying35 rfl IRA.out) ?_
      simp only [Act.put, List.setIfInBounds_toArray, List.set_cons_zero, List.set_cons_succ]
      refine road_q (v := ?_) rfl rfl (Z.out) ?_ ?_
      rotate_left
      · intro W hW
        go_simp
        with_reducible rfl
      simp only [Act.put, List.setIfInBounds_toArray, List.set_cons_zero, List.set_cons_succ]
      refine road_q (v := ?_) rfl rfl (Z.out) ?_ ?_
      rotate_left
      · intro W hW
        go_simp
        with_reducible rfl
      simp only [Act.put, List.setIfInBounds_toArray, List.set_cons_zero, List.set_cons_succ]
      refine road_q rfl rfl (Z.out) (fun W hW => run_iaddr_slk 23 (.tmp 74) (.tmp 75) rfl 63 Tryz.underlying23 34 info_mem bz oz q c0 j JQ.out .i64 _ rfl (by rw [← AE.out]; rfl) rfl W) ?_
      simp only [Act.put, List.setIfInBounds_toArray, List.set_cons_zero, List.set_cons_succ]
      refine road_q (v := ?_) rfl rfl (Z.out) ?_ ?_
      rotate_left
      · intro W hW
        go_simp
        with_reducible rfl
      simp only [Act.put, List.setIfInBounds_toArray, List.set_cons_zero, List.set_cons_succ]
      refine road_q rfl rfl (Z.out) (fun W hW => run_load_range 38 (.tmp 77) rfl bz (oz + j * 34 + 1) rfl (B8 z.k) (rangeAt_keep KRD.out hW) Tryz.underlying38 rfl ZKZ.out) ?_
      simp only [Act.put, List.setIfInBounds_toArray, List.set_cons_zero, List.set_cons_succ]
      refine road_two ?_ ?_
      ·
        refine road_t rfl rfl (fun K hK => ?_)
        go_simp
        refine (UWX.out _ Z.out).mono ?_
        rintro e wu ⟨rfl, hb⟩
        try have R13 := Lib.hid (below_block hb (row_lt R13.out) R13.out)
        have Z := Lib.hid (Z.out.trans (hb.mono Z.out.size))
        clear hb
        refine hK.out _ _ (Z.out) ?_
        clear hK K
        refine road_q (v := ?_) rfl rfl (Z.out) ?_ ?_
        rotate_left
        · intro W hW
          go_simp
          with_reducible rfl
        simp only [Act.put, List.setIfInBounds_toArray, List.set_cons_zero, List.set_cons_succ]
        refine road_q (v := ?_) rfl rfl (Z.out) ?_ ?_
        rotate_left
        · intro W hW
          go_simp
          with_reducible rfl
        simp only [Act.put, List.setIfInBounds_toArray, List.set_cons_zero, List.set_cons_succ]
        refine road_q (v := ?_) rfl rfl (Z.out) ?_ ?_
        rotate_left
        · intro W hW
          go_simp
          with_reducible rfl
        simp only [Act.put, List.setIfInBounds_toArray, List.set_cons_zero, List.set_cons_succ]
        refine road_t rfl rfl (fun K hK => ?_)
        go_simp
        rw [← ZK.out]
        generalize hNK : Array.size (World.heap _) = N13
        generalize hw : World.alloc _ _ = wn
        have hb := Lib.hid (show Below _ _ wn by rw [← hw]; exact below_new _ _)
        have R13 := Lib.hid (show wn.heap[N13]? = some (.cells (RowK kysZ).toArray 40 (0, 0)) by rw [← hw]; exact ha_new _ _ _ hNK.symm)
        have NKL := Lib.hid (show wd1.heap.size ≤ N13 by rw [← hNK]; exact Z.out.size)
        have Z := Lib.hid (Z.out.trans (hb.out.mono Z.out.size))
        clear hNK hw hb
        refine hK.out _ _ (Z.out) ?_
        clear hK K
        refine road_t rfl rfl (fun K hK => ?_)
        refine wp_store_whole 40 (.tmp 13) (.tmp 80) rfl N13 (RowK (seenK ya zo)).toArray rfl rfl _ _ R13.out (info_kysC _ (OSK.out zo)) ((sizeK _ ok_kysZ).trans (sizeK _ (OSK.out zo)).symm) (rowK_one _) ?_
        intro ws hr hg _
        have R13 := Lib.hid hr
        have Z := Lib.hid (grown_below_on Z.out hg NKL.out)
        clear hr hg
        refine hK.out _ _ (Z.out) ?_
        clear hK K
        refine road_q (v := ?_) rfl rfl (Z.out) ?_ ?_
        rotate_left
        · intro W hW
          go_simp
          with_reducible rfl
        simp only [Act.put, List.setIfInBounds_toArray, List.set_cons_zero, List.set_cons_succ]
        refine road_done ?_
        cases zo
        ·
          go_upto_region 12 with fail
          have BS := Lib.hid (show Below w7.heap.size w7 ws from BWD.out.trans (Z.out.mono BWD.out.size))
          have D0 := Lib.hid (show Below ws.heap.size ws ws.drew from (Below.refl _ _).drew)
          have KS := Lib.hid (rangeAt_keep KEYR.out BS.out)
          have OS := Lib.hid (rangeAt_keep OWNR.out BS.out)
          have MS := Lib.hid (rangeAt_keep RZ.out BS.out)
          have K13 := Lib.hid (rangeK_k (y := seenK ya false) (o := 0) (range_rowL R13.out))
          have O13 := Lib.hid (rangeK_o (y := seenK ya false) (o := 0) (range_rowL R13.out) OYA.out.1)
          refine wp_region_road (fun W => Below ws.heap.size ws W) [(true, 0), (true, 1), (true, 2), (true, 3), (true, 4), (true, 5), (true, 6), (true, 7), (true, 8), (true, 9), (true, 10), (true, 11), (true, 12), (true, 13), (true, 14), (true, 15), (true, 16), (true, 17), (true, 18), (true, 19), (true, 20), (true, 21), (true, 22), (true, 23), (true, 24), (true, 25), (true, 26), (true, 27), (true, 28), (true, 29), (true, 30), (true, 31), (true, 32), (true, 33), (true, 34), (true, 35), (true, 36), (true, 37), (true, 38), (true, 39), (true, 40), (true, 41), (true, 42), (true, 43), (true, 44), (true, 45), (true, 46)] (by kernel_rfl) (by kernel_rfl) (fun _ _ d _ _ h => by cases d <;> exact h) ?_
          simp only [List.filterMap_cons, List.filterMap_nil, List.getElem?_toArray, List.getElem?_cons_zero, List.getElem?_cons_succ, Option.map_some]
          generalize World.drew ws = wd4 at D0 ⊢
          refine planG_q (v := ?_) (by rfl) (D0.out) ?_ ?_
          rotate_left
          · intro W hW
            go_simp
            with_reducible rfl
          simp only [Act.put, List.setIfInBounds_toArray, List.set_cons_zero, List.set_cons_succ]
          refine planG_q (v := ?_) (by rfl) (D0.out) ?_ ?_
          rotate_left
          · intro W hW
            go_simp
            with_reducible rfl
          simp only [Act.put, List.setIfInBounds_toArray, List.set_cons_zero, List.set_cons_succ]
          refine planG_q (v := ?_) (by rfl) (D0.out) ?_ ?_
          rotate_left
          · intro W hW
            go_simp
            with_reducible rfl
          simp only [Act.put, List.setIfInBounds_toArray, List.set_cons_zero, List.set_cons_succ]
          refine planG_q (v := ?_) (by rfl) (D0.out) ?_ ?_
          rotate_left
          · intro W hW
            go_simp
            with_reducible rfl
          simp only [Act.put, List.setIfInBounds_toArray, List.set_cons_zero, List.set_cons_succ]
          refine planG_q (by rfl) (D0.out) (fun W hW => run_cell 36 (.tmp 85) rfl _ Tryz.underlying36 rfl rfl (row_cell (below_block hW (row_lt R13.out) R13.out) 0 (show (RowK (seenK ya false)).toArray[0]? = some (.int .u64 (ep.toNat : Int)) by show some (Value.int .u64 (ya.e.toNat : Int)) = _; rw [YE.out]))) ?_
          simp only [Act.put, List.setIfInBounds_toArray, List.set_cons_zero, List.set_cons_succ]
          refine planG_q (v := ?_) (by rfl) (D0.out) ?_ ?_
          rotate_left
          · intro W hW
            go_simp
            with_reducible rfl
          simp only [Act.put, List.setIfInBounds_toArray, List.set_cons_zero, List.set_cons_succ]
          refine planG_q (v := ?_) (by rfl) (D0.out) ?_ ?_
          rotate_left
          · intro W hW
            go_simp
            with_reducible rfl
          simp only [Act.put, List.setIfInBounds_toArray, List.set_cons_zero, List.set_cons_succ]
          refine planG_q (v := ?_) (by rfl) (D0.out) ?_ ?_
          rotate_left
          · intro W hW
            go_simp
            with_reducible rfl
          simp only [Act.put, List.setIfInBounds_toArray, List.set_cons_zero, List.set_cons_succ]
          refine planG_q (v := ?_) (by rfl) (D0.out) ?_ ?_
          rotate_left
          · intro W hW
            go_simp
            with_reducible rfl
          simp only [Act.put, List.setIfInBounds_toArray, List.set_cons_zero, List.set_cons_succ]
          refine planG_q (v := ?_) (by rfl) (D0.out) ?_ ?_
          rotate_left
          · intro W hW
            go_simp
            with_reducible rfl
          simp only [Act.put, List.setIfInBounds_toArray, List.set_cons_zero, List.set_cons_succ]
          refine planG_q (by rfl) (D0.out) (fun W hW => run_load_range 38 (.tmp 91) rfl N13 1 rfl (B8 ya.k) (by have h1 := rangeAt_keep K13.out hW; rwa [Nat.zero_add] at h1) Tryz.underlying38 rfl ZKY.out) ?_
          simp only [Act.put, List.setIfInBounds_toArray, List.set_cons_zero, List.set_cons_succ]
          refine planG_q (v := ?_) (by rfl) (D0.out) ?_ ?_
          rotate_left
          · intro W hW
            go_simp
            with_reducible rfl
          simp only [Act.put, List.setIfInBounds_toArray, List.set_cons_zero, List.set_cons_succ]
          refine planG_q (by rfl) (D0.out) (fun W hW => run_load_range 38 (.tmp 93) rfl (M7 + 1) 1 rfl (B8 ya.k) (by have h1 := rangeAt_keep KS.out hW; rwa [Nat.zero_add] at h1) Tryz.underlying38 rfl ZKY.out) ?_
          simp only [Act.put, List.setIfInBounds_toArray, List.set_cons_zero, List.set_cons_succ]
          refine planG_q (by rfl) (D0.out) (fun W hW => run_neq_arr_false 38 _ (.tmp 92) (.tmp 94) rfl 5 32 Tryz.underlying38 Tryz.underlying5 rfl (by kernel_rfl) ya.k ya.k OYA.out.1 rfl rfl rfl W) ?_
          simp only [Act.put, List.setIfInBounds_toArray, List.set_cons_zero, List.set_cons_succ]
          refine planG_q (v := ?_) (by rfl) (D0.out) ?_ ?_
          rotate_left
          · intro W hW
            go_simp
            with_reducible rfl
          simp only [Act.put, List.setIfInBounds_toArray, List.set_cons_zero, List.set_cons_succ]
          refine planG_q (v := ?_) (by rfl) (D0.out) ?_ ?_
          rotate_left
          · intro W hW
            go_simp
            with_reducible rfl
          simp only [Act.put, List.setIfInBounds_toArray, List.set_cons_zero, List.set_cons_succ]
          refine planG_q (v := ?_) (by rfl) (D0.out) ?_ ?_
          rotate_left
          · intro W hW
            go_simp
            with_reducible rfl
          simp only [Act.put, List.setIfInBounds_toArray, List.set_cons_zero, List.set_cons_succ]
          refine planG_q (by rfl) (D0.out) (fun W hW => run_cell 4 (.tmp 98) rfl _ Tryz.underlying4 rfl rfl (row_cell (below_block hW (row_lt R13.out) R13.out) 65 (show (RowK (seenK ya false)).toArray[65]? = some (.bool false) from rowK_w (OSK.out false)))) ?_
          simp only [Act.put, List.setIfInBounds_toArray, List.set_cons_zero, List.set_cons_succ]
          refine planG_q (v := ?_) (by rfl) (D0.out) ?_ ?_
          rotate_left
          · intro W hW
            go_simp
            with_reducible rfl
          simp only [Act.put, List.setIfInBounds_toArray, List.set_cons_zero, List.set_cons_succ]
          refine planG_q (v := ?_) (by rfl) (D0.out) ?_ ?_
          rotate_left
          · intro W hW
            go_simp
            with_reducible rfl
          simp only [Act.put, List.setIfInBounds_toArray, List.set_cons_zero, List.set_cons_succ]
          refine planG_q (by rfl) (D0.out) (fun W hW => run_iaddr_slk 23 (.tmp 100) (.tmp 101) rfl 63 Tryz.underlying23 34 info_mem bz oz q c0 j JQ.out .i64 _ rfl (by rw [← AE.out]; rfl) rfl W) ?_
          simp only [Act.put, List.setIfInBounds_toArray, List.set_cons_zero, List.set_cons_succ]
          refine planG_q (v := ?_) (by rfl) (D0.out) ?_ ?_
          rotate_left
          · intro W hW
            go_simp
            with_reducible rfl
          simp only [Act.put, List.setIfInBounds_toArray, List.set_cons_zero, List.set_cons_succ]
          refine planG_q (by rfl) (D0.out) (fun W hW => run_cell 4 (.tmp 103) rfl _ Tryz.underlying4 rfl rfl ((rangeAt_keep MS.out hW) 33 _ (by have := rowM_o ZOKZ.out.1; rw [ZO.out] at this; rwa [List.getElem?_toArray] at this))) ?_
          simp only [Act.put, List.setIfInBounds_toArray, List.set_cons_zero, List.set_cons_succ]
          refine planG_q (v := ?_) (by rfl) (D0.out) ?_ ?_
          rotate_left
          · intro W hW
            go_simp
            with_reducible rfl
          simp only [Act.put, List.setIfInBounds_toArray, List.set_cons_zero, List.set_cons_succ]
          refine planG_q (v := ?_) (by rfl) (D0.out) ?_ ?_
          rotate_left
          · intro W hW
            go_simp
            with_reducible rfl
          simp only [Act.put, List.setIfInBounds_toArray, List.set_cons_zero, List.set_cons_succ]
          refine planG_q (v := ?_) (by rfl) (D0.out) ?_ ?_
          rotate_left
          · intro W hW
            go_simp
            with_reducible rfl
          simp only [Act.put, List.setIfInBounds_toArray, List.set_cons_zero, List.set_cons_succ]
          refine planG_q (v := ?_) (by rfl) (D0.out) ?_ ?_
          rotate_left
          · intro W hW
            go_simp
            with_reducible rfl
          simp only [Act.put, List.setIfInBounds_toArray, List.set_cons_zero, List.set_cons_succ]
          refine planG_q (by rfl) (D0.out) (fun W hW => run_cell 4 (.tmp 108) rfl _ Tryz.underlying4 rfl rfl (row_cell (below_block hW (row_lt R13.out) R13.out) 65 (show (RowK (seenK ya false)).toArray[65]? = some (.bool false) from rowK_w (OSK.out false)))) ?_
          simp only [Act.put, List.setIfInBounds_toArray, List.set_cons_zero, List.set_cons_succ]
          refine planG_q (v := ?_) (by rfl) (D0.out) ?_ ?_
          rotate_left
          · intro W hW
            go_simp
            with_reducible rfl
          simp only [Act.put, List.setIfInBounds_toArray, List.set_cons_zero, List.set_cons_succ]
          refine planG_qs (by rfl) (D0.out) ?_
          simp only [Act.put, List.setIfInBounds_toArray, List.set_cons_zero, List.set_cons_succ]
          refine planG_qs (by rfl) (D0.out) ?_
          simp only [Act.put, List.setIfInBounds_toArray, List.set_cons_zero, List.set_cons_succ]
          refine planG_qs (by rfl) (D0.out) ?_
          simp only [Act.put, List.setIfInBounds_toArray, List.set_cons_zero, List.set_cons_succ]
          refine planG_qs (by rfl) (D0.out) ?_
          simp only [Act.put, List.setIfInBounds_toArray, List.set_cons_zero, List.set_cons_succ]
          refine planG_qs (by rfl) (D0.out) ?_
          simp only [Act.put, List.setIfInBounds_toArray, List.set_cons_zero, List.set_cons_succ]
          refine planG_q (v := ?_) (by rfl) (D0.out) ?_ ?_
          rotate_left
          · intro W hW
            go_simp
            with_reducible rfl
          simp only [Act.put, List.setIfInBounds_toArray, List.set_cons_zero, List.set_cons_succ]
          refine planG_q (v := ?_) (by rfl) (D0.out) ?_ ?_
          rotate_left
          · intro W hW
            go_simp
            with_reducible rfl
          simp only [Act.put, List.setIfInBounds_toArray, List.set_cons_zero, List.set_cons_succ]
          refine planG_q (v := ?_) (by rfl) (D0.out) ?_ ?_
          rotate_left
          · intro W hW
            go_simp
            with_reducible rfl
          simp only [Act.put, List.setIfInBounds_toArray, List.set_cons_zero, List.set_cons_succ]
          refine planG_q (v := ?_) (by rfl) (D0.out) ?_ ?_
          rotate_left
          · intro W hW
            go_simp
            with_reducible rfl
          simp only [Act.put, List.setIfInBounds_toArray, List.set_cons_zero, List.set_cons_succ]
          refine planG_q (by rfl) (D0.out) (fun W hW => run_cell 4 (.tmp 119) rfl _ Tryz.underlying4 rfl rfl (row_cell (below_block hW (row_lt R13.out) R13.out) 65 (show (RowK (seenK ya false)).toArray[65]? = some (.bool false) from rowK_w (OSK.out false)))) ?_
          simp only [Act.put, List.setIfInBounds_toArray, List.set_cons_zero, List.set_cons_succ]
          refine planG_q (v := ?_) (by rfl) (D0.out) ?_ ?_
          rotate_left
          · intro W hW
            go_simp
            with_reducible rfl
          simp only [Act.put, List.setIfInBounds_toArray, List.set_cons_zero, List.set_cons_succ]
          refine planG_q (v := ?_) (by rfl) (D0.out) ?_ ?_
          rotate_left
          · intro W hW
            go_simp
            with_reducible rfl
          simp only [Act.put, List.setIfInBounds_toArray, List.set_cons_zero, List.set_cons_succ]
          refine planG_q (v := ?_) (by rfl) (D0.out) ?_ ?_
          rotate_left
          · intro W hW
            go_simp
            with_reducible rfl
          simp only [Act.put, List.setIfInBounds_toArray, List.set_cons_zero, List.set_cons_succ]
          refine planG_q (by rfl) (D0.out) (fun W hW => run_load_range 38 (.tmp 123) rfl N13 33 rfl (B8 z32) (by have h1 := rangeAt_keep O13.out hW; rwa [Nat.zero_add] at h1) Tryz.underlying38 rfl (info_key rfl)) ?_
          simp only [Act.put, List.setIfInBounds_toArray, List.set_cons_zero, List.set_cons_succ]
          refine planG_q (by rfl) (D0.out) (fun W hW => run_zero_key rfl W) ?_
          simp only [Act.put, List.setIfInBounds_toArray, List.set_cons_zero, List.set_cons_succ]
          refine planG_q (by rfl) (D0.out) (fun W hW => run_neq_arr_false 38 _ (.tmp 124) (.tmp 125) rfl 5 32 Tryz.underlying38 Tryz.underlying5 rfl (by kernel_rfl) z32 z32 rfl rfl rfl rfl W) ?_
          simp only [Act.put, List.setIfInBounds_toArray, List.set_cons_zero, List.set_cons_succ]
          refine planG_q (v := ?_) (by rfl) (D0.out) ?_ ?_
          rotate_left
          · intro W hW
            go_simp
            with_reducible rfl
          simp only [Act.put, List.setIfInBounds_toArray, List.set_cons_zero, List.set_cons_succ]
          refine planG_q (v := ?_) (by rfl) (D0.out) ?_ ?_
          rotate_left
          · intro W hW
            go_simp
            with_reducible rfl
          simp only [Act.put, List.setIfInBounds_toArray, List.set_cons_zero, List.set_cons_succ]
          refine planG_nil ?_
          have BQ := Lib.hid (BS.out.trans (D0.out.mono BS.out.size))
          go_upto_region 14 with fail
          have BQD := Lib.hid (show Below w7.heap.size w7 wd4.drew from BQ.out.drew)
          have RKD := Lib.hid (below_block BQD.out (row_lt RK7.out) RK7.out)
          have MSD := Lib.hid (rangeAt_keep RZ.out BQD.out)
          have E0 := Lib.hid (Below.refl wd4.drew.heap.size wd4.drew)
          cases kb
          ·
            by_cases hzk : z.k = kk
            · have EZ : decide (z.k = kk) = true := decide_eq_true hzk
              refine wp_region_road (fun W => Below wd4.drew.heap.size wd4.drew W) [(true, 0), (true, 1), (true, 2), (true, 3), (true, 4), (true, 5), (true, 6), (true, 7), (true, 8), (true, 9), (true, 10)] (by kernel_rfl) (by kernel_rfl) (fun _ _ d _ _ h => by cases d <;> exact h) ?_
              simp only [List.filterMap_cons, List.filterMap_nil, List.getElem?_toArray, List.getElem?_cons_zero, List.getElem?_cons_succ, Option.map_some]
              generalize World.drew wd4 = wd5 at BQD RKD MSD E0 ⊢
              refine planG_q (v := ?_) (by rfl) (E0.out) ?_ ?_
              rotate_left
              · intro W hW
                go_simp
                with_reducible rfl
              simp only [Act.put, List.setIfInBounds_toArray, List.set_cons_zero, List.set_cons_succ]
              refine planG_q (v := ?_) (by rfl) (E0.out) ?_ ?_
              rotate_left
              · intro W hW
                go_simp
                with_reducible rfl
              simp only [Act.put, List.setIfInBounds_toArray, List.set_cons_zero, List.set_cons_succ]
              refine planG_q (v := ?_) (by rfl) (E0.out) ?_ ?_
              rotate_left
              · intro W hW
                go_simp
                with_reducible rfl
              simp only [Act.put, List.setIfInBounds_toArray, List.set_cons_zero, List.set_cons_succ]
              refine planG_q (v := ?_) (by rfl) (E0.out) ?_ ?_
              rotate_left
              · intro W hW
                go_simp
                with_reducible rfl
              simp only [Act.put, List.setIfInBounds_toArray, List.set_cons_zero, List.set_cons_succ]
              refine planG_q (by rfl) (E0.out) (fun W hW => run_iaddr_slk 23 (.tmp 131) (.tmp 132) rfl 63 Tryz.underlying23 34 info_mem bz oz q c0 j JQ.out .i64 _ rfl (by rw [← AE.out]; rfl) rfl W) ?_
              simp only [Act.put, List.setIfInBounds_toArray, List.set_cons_zero, List.set_cons_succ]
              refine planG_q (v := ?_) (by rfl) (E0.out) ?_ ?_
              rotate_left
              · intro W hW
                go_simp
                with_reducible rfl
              simp only [Act.put, List.setIfInBounds_toArray, List.set_cons_zero, List.set_cons_succ]
              refine planG_q (by rfl) (E0.out) (fun W hW => run_load_range 38 (.tmp 134) rfl bz (oz + j * 34 + 1) rfl (B8 z.k) (rangeAt_keep (range_key MSD.out) hW) Tryz.underlying38 rfl ZKZ.out) ?_
              simp only [Act.put, List.setIfInBounds_toArray, List.set_cons_zero, List.set_cons_succ]
              refine planG_q (by rfl) (E0.out) (fun W hW => run_load_row 38 (.tmp 5) rfl MK rfl 38 KV (0, 0) _ (below_block hW (row_lt RKD.out) RKD.out) Tryz.underlying38 rfl IKV.out) ?_
              simp only [Act.put, List.setIfInBounds_toArray, List.set_cons_zero, List.set_cons_succ]
              refine planG_q (by rfl) (E0.out) (fun W hW => run_eq_arr 38 _ (.tmp 135) (.tmp 136) rfl 5 32 Tryz.underlying38 Tryz.underlying5 rfl (by kernel_rfl) z.k kk ZOKZ.out.1 HK2.out rfl (by rw [← KVE.out]; rfl) W) ?_
              simp only [Act.put, List.setIfInBounds_toArray, List.set_cons_zero, List.set_cons_succ]
              refine planG_q (v := ?_) (by rfl) (E0.out) ?_ ?_
              rotate_left
              · intro W hW
                go_simp
                with_reducible rfl
              simp only [Act.put, List.setIfInBounds_toArray, List.set_cons_zero, List.set_cons_succ]
              refine planG_q (v := ?_) (by rfl) (E0.out) ?_ ?_
              rotate_left
              · intro W hW
                go_simp
                with_reducible rfl
              simp only [Act.put, List.setIfInBounds_toArray, List.set_cons_zero, List.set_cons_succ]
              refine planG_nil ?_
              go_wp2_with fail
              go_roundw
              case rel => exact ⟨j + 1, by have := JQ.out; omega, by rw [KS1.out, ← KB.out, EZ]; rfl, by go_num, BQD.out⟩
              case measure => have := JQ.out; simp [intOf]; omega
            · have EZ : decide (z.k = kk) = false := decide_eq_false hzk
              refine wp_region_road (fun W => Below wd4.drew.heap.size wd4.drew W) [(true, 0), (true, 1), (true, 2), (true, 3), (true, 4), (true, 5), (true, 6), (true, 7), (true, 8), (true, 9), (true, 10)] (by kernel_rfl) (by kernel_rfl) (fun _ _ d _ _ h => by cases d <;> exact h) ?_
              simp only [List.filterMap_cons, List.filterMap_nil, List.getElem?_toArray, List.getElem?_cons_zero, List.getElem?_cons_succ, Option.map_some]
              generalize World.drew wd4 = wd5 at BQD RKD MSD E0 ⊢
              refine planG_q (v := ?_) (by rfl) (E0.out) ?_ ?_
              rotate_left
              · intro W hW
                go_simp
                with_reducible rfl
              simp only [Act.put, List.setIfInBounds_toArray, List.set_cons_zero, List.set_cons_succ]
              refine planG_q (v := ?_) (by rfl) (E0.out) ?_ ?_
              rotate_left
              · intro W hW
                go_simp
                with_reducible rfl
              simp only [Act.put, List.setIfInBounds_toArray, List.set_cons_zero, List.set_cons_succ]
              refine planG_q (v := ?_) (by rfl) (E0.out) ?_ ?_
              rotate_left
              · intro W hW
                go_simp
                with_reducible rfl
              simp only [Act.put, List.setIfInBounds_toArray, List.set_cons_zero, List.set_cons_succ]
              refine planG_q (v := ?_) (by rfl) (E0.out) ?_ ?_
              rotate_left
              · intro W hW
                go_simp
                with_reducible rfl
              simp only [Act.put, List.setIfInBounds_toArray, List.set_cons_zero, List.set_cons_succ]
              refine planG_q (by rfl) (E0.out) (fun W hW => run_iaddr_slk 23 (.tmp 131) (.tmp 132) rfl 63 Tryz.underlying23 34 info_mem bz oz q c0 j JQ.out .i64 _ rfl (by rw [← AE.out]; rfl) rfl W) ?_
              simp only [Act.put, List.setIfInBounds_toArray, List.set_cons_zero, List.set_cons_succ]
              refine planG_q (v := ?_) (by rfl) (E0.out) ?_ ?_
              rotate_left
              · intro W hW
                go_simp
                with_reducible rfl
              simp only [Act.put, List.setIfInBounds_toArray, List.set_cons_zero, List.set_cons_succ]
              refine planG_q (by rfl) (E0.out) (fun W hW => run_load_range 38 (.tmp 134) rfl bz (oz + j * 34 + 1) rfl (B8 z.k) (rangeAt_keep (range_key MSD.out) hW) Tryz.underlying38 rfl ZKZ.out) ?_
              simp only [Act.put, List.setIfInBounds_toArray, List.set_cons_zero, List.set_cons_succ]
              refine planG_q (by rfl) (E0.out) (fun W hW => run_load_row 38 (.tmp 5) rfl MK rfl 38 KV (0, 0) _ (below_block hW (row_lt RKD.out) RKD.out) Tryz.underlying38 rfl IKV.out) ?_
              simp only [Act.put, List.setIfInBounds_toArray, List.set_cons_zero, List.set_cons_succ]
              refine planG_q (by rfl) (E0.out) (fun W hW => run_eq_arr 38 _ (.tmp 135) (.tmp 136) rfl 5 32 Tryz.underlying38 Tryz.underlying5 rfl (by kernel_rfl) z.k kk ZOKZ.out.1 HK2.out rfl (by rw [← KVE.out]; rfl) W) ?_
              simp only [Act.put, List.setIfInBounds_toArray, List.set_cons_zero, List.set_cons_succ]
              refine planG_q (v := ?_) (by rfl) (E0.out) ?_ ?_
              rotate_left
              · intro W hW
                go_simp
                with_reducible rfl
              simp only [Act.put, List.setIfInBounds_toArray, List.set_cons_zero, List.set_cons_succ]
              refine planG_q (v := ?_) (by rfl) (E0.out) ?_ ?_
              rotate_left
              · intro W hW
                go_simp
                with_reducible rfl
              simp only [Act.put, List.setIfInBounds_toArray, List.set_cons_zero, List.set_cons_succ]
              refine planG_nil ?_
              go_wp2_with fail
              go_roundw
              case rel => exact ⟨j + 1, by have := JQ.out; omega, by rw [KS1.out, ← KB.out, EZ]; rfl, by go_num, BQD.out⟩
              case measure => have := JQ.out; simp [intOf]; omega
          ·
            refine wp_region_road (fun W => Below wd4.drew.heap.size wd4.drew W) [(true, 0), (true, 1), (true, 2), (true, 3), (true, 4), (true, 5), (true, 6), (true, 7), (true, 8), (true, 9), (true, 10)] (by kernel_rfl) (by kernel_rfl) (fun _ _ d _ _ h => by cases d <;> exact h) ?_
            simp only [List.filterMap_cons, List.filterMap_nil, List.getElem?_toArray, List.getElem?_cons_zero, List.getElem?_cons_succ, Option.map_some]
            generalize World.drew wd4 = wd5 at BQD RKD MSD E0 ⊢
            refine planG_q (v := ?_) (by rfl) (E0.out) ?_ ?_
            rotate_left
            · intro W hW
              go_simp
              with_reducible rfl
            simp only [Act.put, List.setIfInBounds_toArray, List.set_cons_zero, List.set_cons_succ]
            refine planG_q (v := ?_) (by rfl) (E0.out) ?_ ?_
            rotate_left
            · intro W hW
              go_simp
              with_reducible rfl
            simp only [Act.put, List.setIfInBounds_toArray, List.set_cons_zero, List.set_cons_succ]
            refine planG_qs (by rfl) (E0.out) ?_
            simp only [Act.put, List.setIfInBounds_toArray, List.set_cons_zero, List.set_cons_succ]
            refine planG_qs (by rfl) (E0.out) ?_
            simp only [Act.put, List.setIfInBounds_toArray, List.set_cons_zero, List.set_cons_succ]
            refine planG_qs (by rfl) (E0.out) ?_
            simp only [Act.put, List.setIfInBounds_toArray, List.set_cons_zero, List.set_cons_succ]
            refine planG_qs (by rfl) (E0.out) ?_
            simp only [Act.put, List.setIfInBounds_toArray, List.set_cons_zero, List.set_cons_succ]
            refine planG_qs (by rfl) (E0.out) ?_
            simp only [Act.put, List.setIfInBounds_toArray, List.set_cons_zero, List.set_cons_succ]
            refine planG_qs (by rfl) (E0.out) ?_
            simp only [Act.put, List.setIfInBounds_toArray, List.set_cons_zero, List.set_cons_succ]
            refine planG_qs (by rfl) (E0.out) ?_
            simp only [Act.put, List.setIfInBounds_toArray, List.set_cons_zero, List.set_cons_succ]
            refine planG_q (v := ?_) (by rfl) (E0.out) ?_ ?_
            rotate_left
            · intro W hW
              go_simp
              with_reducible rfl
            simp only [Act.put, List.setIfInBounds_toArray, List.set_cons_zero, List.set_cons_succ]
            refine planG_q (v := ?_) (by rfl) (E0.out) ?_ ?_
            rotate_left
            · intro W hW
              go_simp
              with_reducible rfl
            simp only [Act.put, List.setIfInBounds_toArray, List.set_cons_zero, List.set_cons_succ]
            refine planG_nil ?_
            go_wp2_with fail
            go_roundw
            case rel => exact ⟨j + 1, by have := JQ.out; omega, by rw [KS1.out, ← KB.out]; rfl, by go_num, BQD.out⟩
            case measure => have := JQ.out; simp [intOf]; omega
        ·
          go_upto_region 12 with fail
          have BS := Lib.hid (show Below w7.heap.size w7 ws from BWD.out.trans (Z.out.mono BWD.out.size))
          have D0 := Lib.hid (show Below ws.heap.size ws ws.drew from (Below.refl _ _).drew)
          have KS := Lib.hid (rangeAt_keep KEYR.out BS.out)
          have OS := Lib.hid (rangeAt_keep OWNR.out BS.out)
          have MS := Lib.hid (rangeAt_keep RZ.out BS.out)
          have K13 := Lib.hid (rangeK_k (y := seenK ya true) (o := 0) (range_rowL R13.out))
          have O13 := Lib.hid (rangeK_o (y := seenK ya true) (o := 0) (range_rowL R13.out) OYA.out.1)
          refine wp_region_road (fun W => Below ws.heap.size ws W) [(true, 0), (true, 1), (true, 2), (true, 3), (true, 4), (true, 5), (true, 6), (true, 7), (true, 8), (true, 9), (true, 10), (true, 11), (true, 12), (true, 13), (true, 14), (true, 15), (true, 16), (true, 17), (true, 18), (true, 19), (true, 20), (true, 21), (true, 22), (true, 23), (true, 24), (true, 25), (true, 26), (true, 27), (true, 28), (true, 29), (true, 30), (true, 31), (true, 32), (true, 33), (true, 34), (true, 35), (true, 36), (true, 37), (true, 38), (true, 39), (true, 40), (true, 41), (true, 42), (true, 43), (true, 44), (true, 45), (true, 46)] (by kernel_rfl) (by kernel_rfl) (fun _ _ d _ _ h => by cases d <;> exact h) ?_
          simp only [List.filterMap_cons, List.filterMap_nil, List.getElem?_toArray, List.getElem?_cons_zero, List.getElem?_cons_succ, Option.map_some]
          generalize World.drew ws = wd4 at D0 ⊢
          refine planG_q (v := ?_) (by rfl) (D0.out) ?_ ?_
          rotate_left
          · intro W hW
            go_simp
            with_reducible rfl
          simp only [Act.put, List.setIfInBounds_toArray, List.set_cons_zero, List.set_cons_succ]
          refine planG_q (v := ?_) (by rfl) (D0.out) ?_ ?_
          rotate_left
          · intro W hW
            go_simp
            with_reducible rfl
          simp only [Act.put, List.setIfInBounds_toArray, List.set_cons_zero, List.set_cons_succ]
          refine planG_q (v := ?_) (by rfl) (D0.out) ?_ ?_
          rotate_left
          · intro W hW
            go_simp
            with_reducible rfl
          simp only [Act.put, List.setIfInBounds_toArray, List.set_cons_zero, List.set_cons_succ]
          refine planG_q (v := ?_) (by rfl) (D0.out) ?_ ?_
          rotate_left
          · intro W hW
            go_simp
            with_reducible rfl
          simp only [Act.put, List.setIfInBounds_toArray, List.set_cons_zero, List.set_cons_succ]
          refine planG_q (by rfl) (D0.out) (fun W hW => run_cell 36 (.tmp 85) rfl _ Tryz.underlying36 rfl rfl (row_cell (below_block hW (row_lt R13.out) R13.out) 0 (show (RowK (seenK ya true)).toArray[0]? = some (.int .u64 (ep.toNat : Int)) by show some (Value.int .u64 (ya.e.toNat : Int)) = _; rw [YE.out]))) ?_
          simp only [Act.put, List.setIfInBounds_toArray, List.set_cons_zero, List.set_cons_succ]
          refine planG_q (v := ?_) (by rfl) (D0.out) ?_ ?_
          rotate_left
          · intro W hW
            go_simp
            with_reducible rfl
          simp only [Act.put, List.setIfInBounds_toArray, List.set_cons_zero, List.set_cons_succ]
          refine planG_q (v := ?_) (by rfl) (D0.out) ?_ ?_
          rotate_left
          · intro W hW
            go_simp
            with_reducible rfl
          simp only [Act.put, List.setIfInBounds_toArray, List.set_cons_zero, List.set_cons_succ]
          refine planG_q (v := ?_) (by rfl) (D0.out) ?_ ?_
          rotate_left
          · intro W hW
            go_simp
            with_reducible rfl
          simp only [Act.put, List.setIfInBounds_toArray, List.set_cons_zero, List.set_cons_succ]
          refine planG_q (v := ?_) (by rfl) (D0.out) ?_ ?_
          rotate_left
          · intro W hW
            go_simp
            with_reducible rfl
          simp only [Act.put, List.setIfInBounds_toArray, List.set_cons_zero, List.set_cons_succ]
          refine planG_q (v := ?_) (by rfl) (D0.out) ?_ ?_
          rotate_left
          · intro W hW
            go_simp
            with_reducible rfl
          simp only [Act.put, List.setIfInBounds_toArray, List.set_cons_zero, List.set_cons_succ]
          refine planG_q (by rfl) (D0.out) (fun W hW => run_load_range 38 (.tmp 91) rfl N13 1 rfl (B8 ya.k) (by have h1 := rangeAt_keep K13.out hW; rwa [Nat.zero_add] at h1) Tryz.underlying38 rfl ZKY.out) ?_
          simp only [Act.put, List.setIfInBounds_toArray, List.set_cons_zero, List.set_cons_succ]
          refine planG_q (v := ?_) (by rfl) (D0.out) ?_ ?_
          rotate_left
          · intro W hW
            go_simp
            with_reducible rfl
          simp only [Act.put, List.setIfInBounds_toArray, List.set_cons_zero, List.set_cons_succ]
          refine planG_q (by rfl) (D0.out) (fun W hW => run_load_range 38 (.tmp 93) rfl (M7 + 1) 1 rfl (B8 ya.k) (by have h1 := rangeAt_keep KS.out hW; rwa [Nat.zero_add] at h1) Tryz.underlying38 rfl ZKY.out) ?_
          simp only [Act.put, List.setIfInBounds_toArray, List.set_cons_zero, List.set_cons_succ]
          refine planG_q (by rfl) (D0.out) (fun W hW => run_neq_arr_false 38 _ (.tmp 92) (.tmp 94) rfl 5 32 Tryz.underlying38 Tryz.underlying5 rfl (by kernel_rfl) ya.k ya.k OYA.out.1 rfl rfl rfl W) ?_
          simp only [Act.put, List.setIfInBounds_toArray, List.set_cons_zero, List.set_cons_succ]
          refine planG_q (v := ?_) (by rfl) (D0.out) ?_ ?_
          rotate_left
          · intro W hW
            go_simp
            with_reducible rfl
          simp only [Act.put, List.setIfInBounds_toArray, List.set_cons_zero, List.set_cons_succ]
          refine planG_q (v := ?_) (by rfl) (D0.out) ?_ ?_
          rotate_left
          · intro W hW
            go_simp
            with_reducible rfl
          simp only [Act.put, List.setIfInBounds_toArray, List.set_cons_zero, List.set_cons_succ]
          refine planG_q (v := ?_) (by rfl) (D0.out) ?_ ?_
          rotate_left
          · intro W hW
            go_simp
            with_reducible rfl
          simp only [Act.put, List.setIfInBounds_toArray, List.set_cons_zero, List.set_cons_succ]
          refine planG_q (by rfl) (D0.out) (fun W hW => run_cell 4 (.tmp 98) rfl _ Tryz.underlying4 rfl rfl (row_cell (below_block hW (row_lt R13.out) R13.out) 65 (show (RowK (seenK ya true)).toArray[65]? = some (.bool true) from rowK_w (OSK.out true)))) ?_
          simp only [Act.put, List.setIfInBounds_toArray, List.set_cons_zero, List.set_cons_succ]
          refine planG_q (v := ?_) (by rfl) (D0.out) ?_ ?_
          rotate_left
          · intro W hW
            go_simp
            with_reducible rfl
          simp only [Act.put, List.setIfInBounds_toArray, List.set_cons_zero, List.set_cons_succ]
          refine planG_q (v := ?_) (by rfl) (D0.out) ?_ ?_
          rotate_left
          · intro W hW
            go_simp
            with_reducible rfl
          simp only [Act.put, List.setIfInBounds_toArray, List.set_cons_zero, List.set_cons_succ]
          refine planG_q (by rfl) (D0.out) (fun W hW => run_iaddr_slk 23 (.tmp 100) (.tmp 101) rfl 63 Tryz.underlying23 34 info_mem bz oz q c0 j JQ.out .i64 _ rfl (by rw [← AE.out]; rfl) rfl W) ?_
          simp only [Act.put, List.setIfInBounds_toArray, List.set_cons_zero, List.set_cons_succ]
          refine planG_q (v := ?_) (by rfl) (D0.out) ?_ ?_
          rotate_left
          · intro W hW
            go_simp
            with_reducible rfl
          simp only [Act.put, List.setIfInBounds_toArray, List.set_cons_zero, List.set_cons_succ]
          refine planG_q (by rfl) (D0.out) (fun W hW => run_cell 4 (.tmp 103) rfl _ Tryz.underlying4 rfl rfl ((rangeAt_keep MS.out hW) 33 _ (by have := rowM_o ZOKZ.out.1; rw [ZO.out] at this; rwa [List.getElem?_toArray] at this))) ?_
          simp only [Act.put, List.setIfInBounds_toArray, List.set_cons_zero, List.set_cons_succ]
          refine planG_q (v := ?_) (by rfl) (D0.out) ?_ ?_
          rotate_left
          · intro W hW
            go_simp
            with_reducible rfl
          simp only [Act.put, List.setIfInBounds_toArray, List.set_cons_zero, List.set_cons_succ]
          refine planG_q (v := ?_) (by rfl) (D0.out) ?_ ?_
          rotate_left
          · intro W hW
            go_simp
            with_reducible rfl
          simp only [Act.put, List.setIfInBounds_toArray, List.set_cons_zero, List.set_cons_succ]
          refine planG_q (v := ?_) (by rfl) (D0.out) ?_ ?_
          rotate_left
          · intro W hW
            go_simp
            with_reducible rfl
          simp only [Act.put, List.setIfInBounds_toArray, List.set_cons_zero, List.set_cons_succ]
          refine planG_q (v := ?_) (by rfl) (D0.out) ?_ ?_
          rotate_left
          · intro W hW
            go_simp
            with_reducible rfl
          simp only [Act.put, List.setIfInBounds_toArray, List.set_cons_zero, List.set_cons_succ]
          refine planG_q (by rfl) (D0.out) (fun W hW => run_cell 4 (.tmp 108) rfl _ Tryz.underlying4 rfl rfl (row_cell (below_block hW (row_lt R13.out) R13.out) 65 (show (RowK (seenK ya true)).toArray[65]? = some (.bool true) from rowK_w (OSK.out true)))) ?_
          simp only [Act.put, List.setIfInBounds_toArray, List.set_cons_zero, List.set_cons_succ]
          refine planG_q (v := ?_) (by rfl) (D0.out) ?_ ?_
          rotate_left
          · intro W hW
            go_simp
            with_reducible rfl
          simp only [Act.put, List.setIfInBounds_toArray, List.set_cons_zero, List.set_cons_succ]
          refine planG_q (v := ?_) (by rfl) (D0.out) ?_ ?_
          rotate_left
          · intro W hW
            go_simp
            with_reducible rfl
          simp only [Act.put, List.setIfInBounds_toArray, List.set_cons_zero, List.set_cons_succ]
          refine planG_q (by rfl) (D0.out) (fun W hW => run_load_range 38 (.tmp 111) rfl N13 33 rfl (B8 ya.o) (by have h1 := rangeAt_keep O13.out hW; rwa [Nat.zero_add] at h1) Tryz.underlying38 rfl ZKO.out) ?_
          simp only [Act.put, List.setIfInBounds_toArray, List.set_cons_zero, List.set_cons_succ]
          refine planG_q (v := ?_) (by rfl) (D0.out) ?_ ?_
          rotate_left
          · intro W hW
            go_simp
            with_reducible rfl
          simp only [Act.put, List.setIfInBounds_toArray, List.set_cons_zero, List.set_cons_succ]
          refine planG_q (by rfl) (D0.out) (fun W hW => run_load_range 38 (.tmp 113) rfl (M7 + 1) 33 rfl (B8 ya.o) (by have h1 := rangeAt_keep OS.out hW; rwa [Nat.zero_add] at h1) Tryz.underlying38 rfl ZKO.out) ?_
          simp only [Act.put, List.setIfInBounds_toArray, List.set_cons_zero, List.set_cons_succ]
          refine planG_q (by rfl) (D0.out) (fun W hW => run_neq_arr_false 38 _ (.tmp 112) (.tmp 114) rfl 5 32 Tryz.underlying38 Tryz.underlying5 rfl (by kernel_rfl) ya.o ya.o OYA.out.2 rfl rfl rfl W) ?_
          simp only [Act.put, List.setIfInBounds_toArray, List.set_cons_zero, List.set_cons_succ]
          refine planG_q (v := ?_) (by rfl) (D0.out) ?_ ?_
          rotate_left
          · intro W hW
            go_simp
            with_reducible rfl
          simp only [Act.put, List.setIfInBounds_toArray, List.set_cons_zero, List.set_cons_succ]
          refine planG_q (v := ?_) (by rfl) (D0.out) ?_ ?_
          rotate_left
          · intro W hW
            go_simp
            with_reducible rfl
          simp only [Act.put, List.setIfInBounds_toArray, List.set_cons_zero, List.set_cons_succ]
          refine planG_q (v := ?_) (by rfl) (D0.out) ?_ ?_
          rotate_left
          · intro W hW
            go_simp
            with_reducible rfl
          simp only [Act.put, List.setIfInBounds_toArray, List.set_cons_zero, List.set_cons_succ]
          refine planG_q (v := ?_) (by rfl) (D0.out) ?_ ?_
          rotate_left
          · intro W hW
            go_simp
            with_reducible rfl
          simp only [Act.put, List.setIfInBounds_toArray, List.set_cons_zero, List.set_cons_succ]
          refine planG_q (by rfl) (D0.out) (fun W hW => run_cell 4 (.tmp 119) rfl _ Tryz.underlying4 rfl rfl (row_cell (below_block hW (row_lt R13.out) R13.out) 65 (show (RowK (seenK ya true)).toArray[65]? = some (.bool true) from rowK_w (OSK.out true)))) ?_
          simp only [Act.put, List.setIfInBounds_toArray, List.set_cons_zero, List.set_cons_succ]
          refine planG_q (v := ?_) (by rfl) (D0.out) ?_ ?_
          rotate_left
          · intro W hW
            go_simp
            with_reducible rfl
          simp only [Act.put, List.setIfInBounds_toArray, List.set_cons_zero, List.set_cons_succ]
          refine planG_q (v := ?_) (by rfl) (D0.out) ?_ ?_
          rotate_left
          · intro W hW
            go_simp
            with_reducible rfl
          simp only [Act.put, List.setIfInBounds_toArray, List.set_cons_zero, List.set_cons_succ]
          refine planG_qs (by rfl) (D0.out) ?_
          simp only [Act.put, List.setIfInBounds_toArray, List.set_cons_zero, List.set_cons_succ]
          refine planG_qs (by rfl) (D0.out) ?_
          simp only [Act.put, List.setIfInBounds_toArray, List.set_cons_zero, List.set_cons_succ]
          refine planG_qs (by rfl) (D0.out) ?_
          simp only [Act.put, List.setIfInBounds_toArray, List.set_cons_zero, List.set_cons_succ]
          refine planG_qs (by rfl) (D0.out) ?_
          simp only [Act.put, List.setIfInBounds_toArray, List.set_cons_zero, List.set_cons_succ]
          refine planG_q (v := ?_) (by rfl) (D0.out) ?_ ?_
          rotate_left
          · intro W hW
            go_simp
            with_reducible rfl
          simp only [Act.put, List.setIfInBounds_toArray, List.set_cons_zero, List.set_cons_succ]
          refine planG_q (v := ?_) (by rfl) (D0.out) ?_ ?_
          rotate_left
          · intro W hW
            go_simp
            with_reducible rfl
          simp only [Act.put, List.setIfInBounds_toArray, List.set_cons_zero, List.set_cons_succ]
          refine planG_nil ?_
          have BQ := Lib.hid (BS.out.trans (D0.out.mono BS.out.size))
          go_upto_region 14 with fail
          have BQD := Lib.hid (show Below w7.heap.size w7 wd4.drew from BQ.out.drew)
          have RKD := Lib.hid (below_block BQD.out (row_lt RK7.out) RK7.out)
          have MSD := Lib.hid (rangeAt_keep RZ.out BQD.out)
          have E0 := Lib.hid (Below.refl wd4.drew.heap.size wd4.drew)
          cases kb
          ·
            by_cases hzk : z.k = kk
            · have EZ : decide (z.k = kk) = true := decide_eq_true hzk
              refine wp_region_road (fun W => Below wd4.drew.heap.size wd4.drew W) [(true, 0), (true, 1), (true, 2), (true, 3), (true, 4), (true, 5), (true, 6), (true, 7), (true, 8), (true, 9), (true, 10)] (by kernel_rfl) (by kernel_rfl) (fun _ _ d _ _ h => by cases d <;> exact h) ?_
              simp only [List.filterMap_cons, List.filterMap_nil, List.getElem?_toArray, List.getElem?_cons_zero, List.getElem?_cons_succ, Option.map_some]
              generalize World.drew wd4 = wd5 at BQD RKD MSD E0 ⊢
              refine planG_q (v := ?_) (by rfl) (E0.out) ?_ ?_
              rotate_left
              · intro W hW
                go_simp
                with_reducible rfl
              simp only [Act.put, List.setIfInBounds_toArray, List.set_cons_zero, List.set_cons_succ]
              refine planG_q (v := ?_) (by rfl) (E0.out) ?_ ?_
              rotate_left
              · intro W hW
                go_simp
                with_reducible rfl
              simp only [Act.put, List.setIfInBounds_toArray, List.set_cons_zero, List.set_cons_succ]
              refine planG_q (v := ?_) (by rfl) (E0.out) ?_ ?_
              rotate_left
              · intro W hW
                go_simp
                with_reducible rfl
              simp only [Act.put, List.setIfInBounds_toArray, List.set_cons_zero, List.set_cons_succ]
              refine planG_q (v := ?_) (by rfl) (E0.out) ?_ ?_
              rotate_left
              · intro W hW
                go_simp
                with_reducible rfl
              simp only [Act.put, List.setIfInBounds_toArray, List.set_cons_zero, List.set_cons_succ]
              refine planG_q (by rfl) (E0.out) (fun W hW => run_iaddr_slk 23 (.tmp 131) (.tmp 132) rfl 63 Tryz.underlying23 34 info_mem bz oz q c0 j JQ.out .i64 _ rfl (by rw [← AE.out]; rfl) rfl W) ?_
              simp only [Act.put, List.setIfInBounds_toArray, List.set_cons_zero, List.set_cons_succ]
              refine planG_q (v := ?_) (by rfl) (E0.out) ?_ ?_
              rotate_left
              · intro W hW
                go_simp
                with_reducible rfl
              simp only [Act.put, List.setIfInBounds_toArray, List.set_cons_zero, List.set_cons_succ]
              refine planG_q (by rfl) (E0.out) (fun W hW => run_load_range 38 (.tmp 134) rfl bz (oz + j * 34 + 1) rfl (B8 z.k) (rangeAt_keep (range_key MSD.out) hW) Tryz.underlying38 rfl ZKZ.out) ?_
              simp only [Act.put, List.setIfInBounds_toArray, List.set_cons_zero, List.set_cons_succ]
              refine planG_q (by rfl) (E0.out) (fun W hW => run_load_row 38 (.tmp 5) rfl MK rfl 38 KV (0, 0) _ (below_block hW (row_lt RKD.out) RKD.out) Tryz.underlying38 rfl IKV.out) ?_
              simp only [Act.put, List.setIfInBounds_toArray, List.set_cons_zero, List.set_cons_succ]
              refine planG_q (by rfl) (E0.out) (fun W hW => run_eq_arr 38 _ (.tmp 135) (.tmp 136) rfl 5 32 Tryz.underlying38 Tryz.underlying5 rfl (by kernel_rfl) z.k kk ZOKZ.out.1 HK2.out rfl (by rw [← KVE.out]; rfl) W) ?_
              simp only [Act.put, List.setIfInBounds_toArray, List.set_cons_zero, List.set_cons_succ]
              refine planG_q (v := ?_) (by rfl) (E0.out) ?_ ?_
              rotate_left
              · intro W hW
                go_simp
                with_reducible rfl
              simp only [Act.put, List.setIfInBounds_toArray, List.set_cons_zero, List.set_cons_succ]
              refine planG_q (v := ?_) (by rfl) (E0.out) ?_ ?_
              rotate_left
              · intro W hW
                go_simp
                with_reducible rfl
              simp only [Act.put, List.setIfInBounds_toArray, List.set_cons_zero, List.set_cons_succ]
              refine planG_nil ?_
              go_wp2_with fail
              go_roundw
              case rel => exact ⟨j + 1, by have := JQ.out; omega, by rw [KS1.out, ← KB.out, EZ]; rfl, by go_num, BQD.out⟩
              case measure => have := JQ.out; simp [intOf]; omega
            · have EZ : decide (z.k = kk) = false := decide_eq_false hzk
              refine wp_region_road (fun W => Below wd4.drew.heap.size wd4.drew W) [(true, 0), (true, 1), (true, 2), (true, 3), (true, 4), (true, 5), (true, 6), (true, 7), (true, 8), (true, 9), (true, 10)] (by kernel_rfl) (by kernel_rfl) (fun _ _ d _ _ h => by cases d <;> exact h) ?_
              simp only [List.filterMap_cons, List.filterMap_nil, List.getElem?_toArray, List.getElem?_cons_zero, List.getElem?_cons_succ, Option.map_some]
              generalize World.drew wd4 = wd5 at BQD RKD MSD E0 ⊢
              refine planG_q (v := ?_) (by rfl) (E0.out) ?_ ?_
              rotate_left
              · intro W hW
                go_simp
                with_reducible rfl
              simp only [Act.put, List.setIfInBounds_toArray, List.set_cons_zero, List.set_cons_succ]
              refine planG_q (v := ?_) (by rfl) (E0.out) ?_ ?_
              rotate_left
              · intro W hW
                go_simp
                with_reducible rfl
              simp only [Act.put, List.setIfInBounds_toArray, List.set_cons_zero, List.set_cons_succ]
              refine planG_q (v := ?_) (by rfl) (E0.out) ?_ ?_
              rotate_left
              · intro W hW
                go_simp
                with_reducible rfl
              simp only [Act.put, List.setIfInBounds_toArray, List.set_cons_zero, List.set_cons_succ]
              refine planG_q (v := ?_) (by rfl) (E0.out) ?_ ?_
              rotate_left
              · intro W hW
                go_simp
                with_reducible rfl
              simp only [Act.put, List.setIfInBounds_toArray, List.set_cons_zero, List.set_cons_succ]
              refine planG_q (by rfl) (E0.out) (fun W hW => run_iaddr_slk 23 (.tmp 131) (.tmp 132) rfl 63 Tryz.underlying23 34 info_mem bz oz q c0 j JQ.out .i64 _ rfl (by rw [← AE.out]; rfl) rfl W) ?_
              simp only [Act.put, List.setIfInBounds_toArray, List.set_cons_zero, List.set_cons_succ]
              refine planG_q (v := ?_) (by rfl) (E0.out) ?_ ?_
              rotate_left
              · intro W hW
                go_simp
                with_reducible rfl
              simp only [Act.put, List.setIfInBounds_toArray, List.set_cons_zero, List.set_cons_succ]
              refine planG_q (by rfl) (E0.out) (fun W hW => run_load_range 38 (.tmp 134) rfl bz (oz + j * 34 + 1) rfl (B8 z.k) (rangeAt_keep (range_key MSD.out) hW) Tryz.underlying38 rfl ZKZ.out) ?_
              simp only [Act.put, List.setIfInBounds_toArray, List.set_cons_zero, List.set_cons_succ]
              refine planG_q (by rfl) (E0.out) (fun W hW => run_load_row 38 (.tmp 5) rfl MK rfl 38 KV (0, 0) _ (below_block hW (row_lt RKD.out) RKD.out) Tryz.underlying38 rfl IKV.out) ?_
              simp only [Act.put, List.setIfInBounds_toArray, List.set_cons_zero, List.set_cons_succ]
              refine planG_q (by rfl) (E0.out) (fun W hW => run_eq_arr 38 _ (.tmp 135) (.tmp 136) rfl 5 32 Tryz.underlying38 Tryz.underlying5 rfl (by kernel_rfl) z.k kk ZOKZ.out.1 HK2.out rfl (by rw [← KVE.out]; rfl) W) ?_
              simp only [Act.put, List.setIfInBounds_toArray, List.set_cons_zero, List.set_cons_succ]
              refine planG_q (v := ?_) (by rfl) (E0.out) ?_ ?_
              rotate_left
              · intro W hW
                go_simp
                with_reducible rfl
              simp only [Act.put, List.setIfInBounds_toArray, List.set_cons_zero, List.set_cons_succ]
              refine planG_q (v := ?_) (by rfl) (E0.out) ?_ ?_
              rotate_left
              · intro W hW
                go_simp
                with_reducible rfl
              simp only [Act.put, List.setIfInBounds_toArray, List.set_cons_zero, List.set_cons_succ]
              refine planG_nil ?_
              go_wp2_with fail
              go_roundw
              case rel => exact ⟨j + 1, by have := JQ.out; omega, by rw [KS1.out, ← KB.out, EZ]; rfl, by go_num, BQD.out⟩
              case measure => have := JQ.out; simp [intOf]; omega
          ·
            refine wp_region_road (fun W => Below wd4.drew.heap.size wd4.drew W) [(true, 0), (true, 1), (true, 2), (true, 3), (true, 4), (true, 5), (true, 6), (true, 7), (true, 8), (true, 9), (true, 10)] (by kernel_rfl) (by kernel_rfl) (fun _ _ d _ _ h => by cases d <;> exact h) ?_
            simp only [List.filterMap_cons, List.filterMap_nil, List.getElem?_toArray, List.getElem?_cons_zero, List.getElem?_cons_succ, Option.map_some]
            generalize World.drew wd4 = wd5 at BQD RKD MSD E0 ⊢
            refine planG_q (v := ?_) (by rfl) (E0.out) ?_ ?_
            rotate_left
            · intro W hW
              go_simp
              with_reducible rfl
            simp only [Act.put, List.setIfInBounds_toArray, List.set_cons_zero, List.set_cons_succ]
            refine planG_q (v := ?_) (by rfl) (E0.out) ?_ ?_
            rotate_left
            · intro W hW
              go_simp
              with_reducible rfl
            simp only [Act.put, List.setIfInBounds_toArray, List.set_cons_zero, List.set_cons_succ]
            refine planG_qs (by rfl) (E0.out) ?_
            simp only [Act.put, List.setIfInBounds_toArray, List.set_cons_zero, List.set_cons_succ]
            refine planG_qs (by rfl) (E0.out) ?_
            simp only [Act.put, List.setIfInBounds_toArray, List.set_cons_zero, List.set_cons_succ]
            refine planG_qs (by rfl) (E0.out) ?_
            simp only [Act.put, List.setIfInBounds_toArray, List.set_cons_zero, List.set_cons_succ]
            refine planG_qs (by rfl) (E0.out) ?_
            simp only [Act.put, List.setIfInBounds_toArray, List.set_cons_zero, List.set_cons_succ]
            refine planG_qs (by rfl) (E0.out) ?_
            simp only [Act.put, List.setIfInBounds_toArray, List.set_cons_zero, List.set_cons_succ]
            refine planG_qs (by rfl) (E0.out) ?_
            simp only [Act.put, List.setIfInBounds_toArray, List.set_cons_zero, List.set_cons_succ]
            refine planG_qs (by rfl) (E0.out) ?_
            simp only [Act.put, List.setIfInBounds_toArray, List.set_cons_zero, List.set_cons_succ]
            refine planG_q (v := ?_) (by rfl) (E0.out) ?_ ?_
            rotate_left
            · intro W hW
              go_simp
              with_reducible rfl
            simp only [Act.put, List.setIfInBounds_toArray, List.set_cons_zero, List.set_cons_succ]
            refine planG_q (v := ?_) (by rfl) (E0.out) ?_ ?_
            rotate_left
            · intro W hW
              go_simp
              with_reducible rfl
            simp only [Act.put, List.setIfInBounds_toArray, List.set_cons_zero, List.set_cons_succ]
            refine planG_nil ?_
            go_wp2_with fail
            go_roundw
            case rel => exact ⟨j + 1, by have := JQ.out; omega, by rw [KS1.out, ← KB.out]; rfl, by go_num, BQD.out⟩
            case measure => have := JQ.out; simp [intOf]; omega
      ·
        refine road_t rfl rfl (fun K hK => ?_)
        go_simp
        rw [← ZK.out]
        generalize hNK : Array.size (World.heap _) = N13
        generalize hw : World.alloc _ _ = wn
        have hb := Lib.hid (show Below _ _ wn by rw [← hw]; exact below_new _ _)
        have R13 := Lib.hid (show wn.heap[N13]? = some (.cells (RowK kysZ).toArray 40 (0, 0)) by rw [← hw]; exact ha_new _ _ _ hNK.symm)
        have NKL := Lib.hid (show wd1.heap.size ≤ N13 by rw [← hNK]; exact Z.out.size)
        have Z := Lib.hid (Z.out.trans (hb.out.mono Z.out.size))
        clear hNK hw hb
        refine hK.out _ _ (Z.out) ?_
        clear hK K
        refine road_t rfl rfl (fun K hK => ?_)
        go_simp
        refine (UWX.out _ Z.out).mono ?_
        rintro e wu ⟨rfl, hb⟩
        try have R13 := Lib.hid (below_block hb (row_lt R13.out) R13.out)
        have Z := Lib.hid (Z.out.trans (hb.mono Z.out.size))
        clear hb
        refine hK.out _ _ (Z.out) ?_
        clear hK K
        refine road_q (v := ?_) rfl rfl (Z.out) ?_ ?_
        rotate_left
        · intro W hW
          go_simp
          with_reducible rfl
        simp only [Act.put, List.setIfInBounds_toArray, List.set_cons_zero, List.set_cons_succ]
        refine road_q (v := ?_) rfl rfl (Z.out) ?_ ?_
        rotate_left
        · intro W hW
          go_simp
          with_reducible rfl
        simp only [Act.put, List.setIfInBounds_toArray, List.set_cons_zero, List.set_cons_succ]
        refine road_q (v := ?_) rfl rfl (Z.out) ?_ ?_
        rotate_left
        · intro W hW
          go_simp
          with_reducible rfl
        simp only [Act.put, List.setIfInBounds_toArray, List.set_cons_zero, List.set_cons_succ]
        refine road_t rfl rfl (fun K hK => ?_)
        refine wp_store_whole 40 (.tmp 13) (.tmp 80) rfl N13 (RowK (seenK ya zo)).toArray rfl rfl _ _ R13.out (info_kysC _ (OSK.out zo)) ((sizeK _ ok_kysZ).trans (sizeK _ (OSK.out zo)).symm) (rowK_one _) ?_
        intro ws hr hg _
        have R13 := Lib.hid hr
        have Z := Lib.hid (grown_below_on Z.out hg NKL.out)
        clear hr hg
        refine hK.out _ _ (Z.out) ?_
        clear hK K
        refine road_q (v := ?_) rfl rfl (Z.out) ?_ ?_
        rotate_left
        · intro W hW
          go_simp
          with_reducible rfl
        simp only [Act.put, List.setIfInBounds_toArray, List.set_cons_zero, List.set_cons_succ]
        refine road_done ?_
        cases zo
        ·
          go_upto_region 12 with fail
          have BS := Lib.hid (show Below w7.heap.size w7 ws from BWD.out.trans (Z.out.mono BWD.out.size))
          have D0 := Lib.hid (show Below ws.heap.size ws ws.drew from (Below.refl _ _).drew)
          have KS := Lib.hid (rangeAt_keep KEYR.out BS.out)
          have OS := Lib.hid (rangeAt_keep OWNR.out BS.out)
          have MS := Lib.hid (rangeAt_keep RZ.out BS.out)
          have K13 := Lib.hid (rangeK_k (y := seenK ya false) (o := 0) (range_rowL R13.out))
          have O13 := Lib.hid (rangeK_o (y := seenK ya false) (o := 0) (range_rowL R13.out) OYA.out.1)
          refine wp_region_road (fun W => Below ws.heap.size ws W) [(true, 0), (true, 1), (true, 2), (true, 3), (true, 4), (true, 5), (true, 6), (true, 7), (true, 8), (true, 9), (true, 10), (true, 11), (true, 12), (true, 13), (true, 14), (true, 15), (true, 16), (true, 17), (true, 18), (true, 19), (true, 20), (true, 21), (true, 22), (true, 23), (true, 24), (true, 25), (true, 26), (true, 27), (true, 28), (true, 29), (true, 30), (true, 31), (true, 32), (true, 33), (true, 34), (true, 35), (true, 36), (true, 37), (true, 38), (true, 39), (true, 40), (true, 41), (true, 42), (true, 43), (true, 44), (true, 45), (true, 46)] (by kernel_rfl) (by kernel_rfl) (fun _ _ d _ _ h => by cases d <;> exact h) ?_
          simp only [List.filterMap_cons, List.filterMap_nil, List.getElem?_toArray, List.getElem?_cons_zero, List.getElem?_cons_succ, Option.map_some]
          generalize World.drew ws = wd4 at D0 ⊢
          refine planG_q (v := ?_) (by rfl) (D0.out) ?_ ?_
          rotate_left
          · intro W hW
            go_simp
            with_reducible rfl
          simp only [Act.put, List.setIfInBounds_toArray, List.set_cons_zero, List.set_cons_succ]
          refine planG_q (v := ?_) (by rfl) (D0.out) ?_ ?_
          rotate_left
          · intro W hW
            go_simp
            with_reducible rfl
          simp only [Act.put, List.setIfInBounds_toArray, List.set_cons_zero, List.set_cons_succ]
          refine planG_q (v := ?_) (by rfl) (D0.out) ?_ ?_
          rotate_left
          · intro W hW
            go_simp
            with_reducible rfl
          simp only [Act.put, List.setIfInBounds_toArray, List.set_cons_zero, List.set_cons_succ]
          refine planG_q (v := ?_) (by rfl) (D0.out) ?_ ?_
          rotate_left
          · intro W hW
            go_simp
            with_reducible rfl
          simp only [Act.put, List.setIfInBounds_toArray, List.set_cons_zero, List.set_cons_succ]
          refine planG_q (by rfl) (D0.out) (fun W hW => run_cell 36 (.tmp 85) rfl _ Tryz.underlying36 rfl rfl (row_cell (below_block hW (row_lt R13.out) R13.out) 0 (show (RowK (seenK ya false)).toArray[0]? = some (.int .u64 (ep.toNat : Int)) by show some (Value.int .u64 (ya.e.toNat : Int)) = _; rw [YE.out]))) ?_
          simp only [Act.put, List.setIfInBounds_toArray, List.set_cons_zero, List.set_cons_succ]
          refine planG_q (v := ?_) (by rfl) (D0.out) ?_ ?_
          rotate_left
          · intro W hW
            go_simp
            with_reducible rfl
          simp only [Act.put, List.setIfInBounds_toArray, List.set_cons_zero, List.set_cons_succ]
          refine planG_q (v := ?_) (by rfl) (D0.out) ?_ ?_
          rotate_left
          · intro W hW
            go_simp
            with_reducible rfl
          simp only [Act.put, List.setIfInBounds_toArray, List.set_cons_zero, List.set_cons_succ]
          refine planG_q (v := ?_) (by rfl) (D0.out) ?_ ?_
          rotate_left
          · intro W hW
            go_simp
            with_reducible rfl
          simp only [Act.put, List.setIfInBounds_toArray, List.set_cons_zero, List.set_cons_succ]
          refine planG_q (v := ?_) (by rfl) (D0.out) ?_ ?_
          rotate_left
          · intro W hW
            go_simp
            with_reducible rfl
          simp only [Act.put, List.setIfInBounds_toArray, List.set_cons_zero, List.set_cons_succ]
          refine planG_q (v := ?_) (by rfl) (D0.out) ?_ ?_
          rotate_left
          · intro W hW
            go_simp
            with_reducible rfl
          simp only [Act.put, List.setIfInBounds_toArray, List.set_cons_zero, List.set_cons_succ]
          refine planG_q (by rfl) (D0.out) (fun W hW => run_load_range 38 (.tmp 91) rfl N13 1 rfl (B8 ya.k) (by have h1 := rangeAt_keep K13.out hW; rwa [Nat.zero_add] at h1) Tryz.underlying38 rfl ZKY.out) ?_
          simp only [Act.put, List.setIfInBounds_toArray, List.set_cons_zero, List.set_cons_succ]
          refine planG_q (v := ?_) (by rfl) (D0.out) ?_ ?_
          rotate_left
          · intro W hW
            go_simp
            with_reducible rfl
          simp only [Act.put, List.setIfInBounds_toArray, List.set_cons_zero, List.set_cons_succ]
          refine planG_q (by rfl) (D0.out) (fun W hW => run_load_range 38 (.tmp 93) rfl (M7 + 1) 1 rfl (B8 ya.k) (by have h1 := rangeAt_keep KS.out hW; rwa [Nat.zero_add] at h1) Tryz.underlying38 rfl ZKY.out) ?_
          simp only [Act.put, List.setIfInBounds_toArray, List.set_cons_zero, List.set_cons_succ]
          refine planG_q (by rfl) (D0.out) (fun W hW => run_neq_arr_false 38 _ (.tmp 92) (.tmp 94) rfl 5 32 Tryz.underlying38 Tryz.underlying5 rfl (by kernel_rfl) ya.k ya.k OYA.out.1 rfl rfl rfl W) ?_
          simp only [Act.put, List.setIfInBounds_toArray, List.set_cons_zero, List.set_cons_succ]
          refine planG_q (v := ?_) (by rfl) (D0.out) ?_ ?_
          rotate_left
          · intro W hW
            go_simp
            with_reducible rfl
          simp only [Act.put, List.setIfInBounds_toArray, List.set_cons_zero, List.set_cons_succ]
          refine planG_q (v := ?_) (by rfl) (D0.out) ?_ ?_
          rotate_left
          · intro W hW
            go_simp
            with_reducible rfl
          simp only [Act.put, List.setIfInBounds_toArray, List.set_cons_zero, List.set_cons_succ]
          refine planG_q (v := ?_) (by rfl) (D0.out) ?_ ?_
          rotate_left
          · intro W hW
            go_simp
            with_reducible rfl
          simp only [Act.put, List.setIfInBounds_toArray, List.set_cons_zero, List.set_cons_succ]
          refine planG_q (by rfl) (D0.out) (fun W hW => run_cell 4 (.tmp 98) rfl _ Tryz.underlying4 rfl rfl (row_cell (below_block hW (row_lt R13.out) R13.out) 65 (show (RowK (seenK ya false)).toArray[65]? = some (.bool false) from rowK_w (OSK.out false)))) ?_
          simp only [Act.put, List.setIfInBounds_toArray, List.set_cons_zero, List.set_cons_succ]
          refine planG_q (v := ?_) (by rfl) (D0.out) ?_ ?_
          rotate_left
          · intro W hW
            go_simp
            with_reducible rfl
          simp only [Act.put, List.setIfInBounds_toArray, List.set_cons_zero, List.set_cons_succ]
          refine planG_q (v := ?_) (by rfl) (D0.out) ?_ ?_
          rotate_left
          · intro W hW
            go_simp
            with_reducible rfl
          simp only [Act.put, List.setIfInBounds_toArray, List.set_cons_zero, List.set_cons_succ]
          refine planG_q (by rfl) (D0.out) (fun W hW => run_iaddr_slk 23 (.tmp 100) (.tmp 101) rfl 63 Tryz.underlying23 34 info_mem bz oz q c0 j JQ.out .i64 _ rfl (by rw [← AE.out]; rfl) rfl W) ?_
          simp only [Act.put, List.setIfInBounds_toArray, List.set_cons_zero, List.set_cons_succ]
          refine planG_q (v := ?_) (by rfl) (D0.out) ?_ ?_
          rotate_left
          · intro W hW
            go_simp
            with_reducible rfl
          simp only [Act.put, List.setIfInBounds_toArray, List.set_cons_zero, List.set_cons_succ]
          refine planG_q (by rfl) (D0.out) (fun W hW => run_cell 4 (.tmp 103) rfl _ Tryz.underlying4 rfl rfl ((rangeAt_keep MS.out hW) 33 _ (by have := rowM_o ZOKZ.out.1; rw [ZO.out] at this; rwa [List.getElem?_toArray] at this))) ?_
          simp only [Act.put, List.setIfInBounds_toArray, List.set_cons_zero, List.set_cons_succ]
          refine planG_q (v := ?_) (by rfl) (D0.out) ?_ ?_
          rotate_left
          · intro W hW
            go_simp
            with_reducible rfl
          simp only [Act.put, List.setIfInBounds_toArray, List.set_cons_zero, List.set_cons_succ]
          refine planG_q (v := ?_) (by rfl) (D0.out) ?_ ?_
          rotate_left
          · intro W hW
            go_simp
            with_reducible rfl
          simp only [Act.put, List.setIfInBounds_toArray, List.set_cons_zero, List.set_cons_succ]
          refine planG_q (v := ?_) (by rfl) (D0.out) ?_ ?_
          rotate_left
          · intro W hW
            go_simp
            with_reducible rfl
          simp only [Act.put, List.setIfInBounds_toArray, List.set_cons_zero, List.set_cons_succ]
          refine planG_q (v := ?_) (by rfl) (D0.out) ?_ ?_
          rotate_left
          · intro W hW
            go_simp
            with_reducible rfl
          simp only [Act.put, List.setIfInBounds_toArray, List.set_cons_zero, List.set_cons_succ]
          refine planG_q (by rfl) (D0.out) (fun W hW => run_cell 4 (.tmp 108) rfl _ Tryz.underlying4 rfl rfl (row_cell (below_block hW (row_lt R13.out) R13.out) 65 (show (RowK (seenK ya false)).toArray[65]? = some (.bool false) from rowK_w (OSK.out false)))) ?_
          simp only [Act.put, List.setIfInBounds_toArray, List.set_cons_zero, List.set_cons_succ]
          refine planG_q (v := ?_) (by rfl) (D0.out) ?_ ?_
          rotate_left
          · intro W hW
            go_simp
            with_reducible rfl
          simp only [Act.put, List.setIfInBounds_toArray, List.set_cons_zero, List.set_cons_succ]
          refine planG_qs (by rfl) (D0.out) ?_
          simp only [Act.put, List.setIfInBounds_toArray, List.set_cons_zero, List.set_cons_succ]
          refine planG_qs (by rfl) (D0.out) ?_
          simp only [Act.put, List.setIfInBounds_toArray, List.set_cons_zero, List.set_cons_succ]
          refine planG_qs (by rfl) (D0.out) ?_
          simp only [Act.put, List.setIfInBounds_toArray, List.set_cons_zero, List.set_cons_succ]
          refine planG_qs (by rfl) (D0.out) ?_
          simp only [Act.put, List.setIfInBounds_toArray, List.set_cons_zero, List.set_cons_succ]
          refine planG_qs (by rfl) (D0.out) ?_
          simp only [Act.put, List.setIfInBounds_toArray, List.set_cons_zero, List.set_cons_succ]
          refine planG_q (v := ?_) (by rfl) (D0.out) ?_ ?_
          rotate_left
          · intro W hW
            go_simp
            with_reducible rfl
          simp only [Act.put, List.setIfInBounds_toArray, List.set_cons_zero, List.set_cons_succ]
          refine planG_q (v := ?_) (by rfl) (D0.out) ?_ ?_
          rotate_left
          · intro W hW
            go_simp
            with_reducible rfl
          simp only [Act.put, List.setIfInBounds_toArray, List.set_cons_zero, List.set_cons_succ]
          refine planG_q (v := ?_) (by rfl) (D0.out) ?_ ?_
          rotate_left
          · intro W hW
            go_simp
            with_reducible rfl
          simp only [Act.put, List.setIfInBounds_toArray, List.set_cons_zero, List.set_cons_succ]
          refine planG_q (v := ?_) (by rfl) (D0.out) ?_ ?_
          rotate_left
          · intro W hW
            go_simp
            with_reducible rfl
          simp only [Act.put, List.setIfInBounds_toArray, List.set_cons_zero, List.set_cons_succ]
          refine planG_q (by rfl) (D0.out) (fun W hW => run_cell 4 (.tmp 119) rfl _ Tryz.underlying4 rfl rfl (row_cell (below_block hW (row_lt R13.out) R13.out) 65 (show (RowK (seenK ya false)).toArray[65]? = some (.bool false) from rowK_w (OSK.out false)))) ?_
          simp only [Act.put, List.setIfInBounds_toArray, List.set_cons_zero, List.set_cons_succ]
          refine planG_q (v := ?_) (by rfl) (D0.out) ?_ ?_
          rotate_left
          · intro W hW
            go_simp
            with_reducible rfl
          simp only [Act.put, List.setIfInBounds_toArray, List.set_cons_zero, List.set_cons_succ]
          refine planG_q (v := ?_) (by rfl) (D0.out) ?_ ?_
          rotate_left
          · intro W hW
            go_simp
            with_reducible rfl
          simp only [Act.put, List.setIfInBounds_toArray, List.set_cons_zero, List.set_cons_succ]
          refine planG_q (v := ?_) (by rfl) (D0.out) ?_ ?_
          rotate_left
          · intro W hW
            go_simp
            with_reducible rfl
          simp only [Act.put, List.setIfInBounds_toArray, List.set_cons_zero, List.set_cons_succ]
          refine planG_q (by rfl) (D0.out) (fun W hW => run_load_range 38 (.tmp 123) rfl N13 33 rfl (B8 z32) (by have h1 := rangeAt_keep O13.out hW; rwa [Nat.zero_add] at h1) Tryz.underlying38 rfl (info_key rfl)) ?_
          simp only [Act.put, List.setIfInBounds_toArray, List.set_cons_zero, List.set_cons_succ]
          refine planG_q (by rfl) (D0.out) (fun W hW => run_zero_key rfl W) ?_
          simp only [Act.put, List.setIfInBounds_toArray, List.set_cons_zero, List.set_cons_succ]
          refine planG_q (by rfl) (D0.out) (fun W hW => run_neq_arr_false 38 _ (.tmp 124) (.tmp 125) rfl 5 32 Tryz.underlying38 Tryz.underlying5 rfl (by kernel_rfl) z32 z32 rfl rfl rfl rfl W) ?_
          simp only [Act.put, List.setIfInBounds_toArray, List.set_cons_zero, List.set_cons_succ]
          refine planG_q (v := ?_) (by rfl) (D0.out) ?_ ?_
          rotate_left
          · intro W hW
            go_simp
            with_reducible rfl
          simp only [Act.put, List.setIfInBounds_toArray, List.set_cons_zero, List.set_cons_succ]
          refine planG_q (v := ?_) (by rfl) (D0.out) ?_ ?_
          rotate_left
          · intro W hW
            go_simp
            with_reducible rfl
          simp only [Act.put, List.setIfInBounds_toArray, List.set_cons_zero, List.set_cons_succ]
          refine planG_nil ?_
          have BQ := Lib.hid (BS.out.trans (D0.out.mono BS.out.size))
          go_upto_region 14 with fail
          have BQD := Lib.hid (show Below w7.heap.size w7 wd4.drew from BQ.out.drew)
          have RKD := Lib.hid (below_block BQD.out (row_lt RK7.out) RK7.out)
          have MSD := Lib.hid (rangeAt_keep RZ.out BQD.out)
          have E0 := Lib.hid (Below.refl wd4.drew.heap.size wd4.drew)
          cases kb
          ·
            by_cases hzk : z.k = kk
            · have EZ : decide (z.k = kk) = true := decide_eq_true hzk
              refine wp_region_road (fun W => Below wd4.drew.heap.size wd4.drew W) [(true, 0), (true, 1), (true, 2), (true, 3), (true, 4), (true, 5), (true, 6), (true, 7), (true, 8), (true, 9), (true, 10)] (by kernel_rfl) (by kernel_rfl) (fun _ _ d _ _ h => by cases d <;> exact h) ?_
              simp only [List.filterMap_cons, List.filterMap_nil, List.getElem?_toArray, List.getElem?_cons_zero, List.getElem?_cons_succ, Option.map_some]
              generalize World.drew wd4 = wd5 at BQD RKD MSD E0 ⊢
              refine planG_q (v := ?_) (by rfl) (E0.out) ?_ ?_
              rotate_left
              · intro W hW
                go_simp
                with_reducible rfl
              simp only [Act.put, List.setIfInBounds_toArray, List.set_cons_zero, List.set_cons_succ]
              refine planG_q (v := ?_) (by rfl) (E0.out) ?_ ?_
              rotate_left
              · intro W hW
                go_simp
                with_reducible rfl
              simp only [Act.put, List.setIfInBounds_toArray, List.set_cons_zero, List.set_cons_succ]
              refine planG_q (v := ?_) (by rfl) (E0.out) ?_ ?_
              rotate_left
              · intro W hW
                go_simp
                with_reducible rfl
              simp only [Act.put, List.setIfInBounds_toArray, List.set_cons_zero, List.set_cons_succ]
              refine planG_q (v := ?_) (by rfl) (E0.out) ?_ ?_
              rotate_left
              · intro W hW
                go_simp
                with_reducible rfl
              simp only [Act.put, List.setIfInBounds_toArray, List.set_cons_zero, List.set_cons_succ]
              refine planG_q (by rfl) (E0.out) (fun W hW => run_iaddr_slk 23 (.tmp 131) (.tmp 132) rfl 63 Tryz.underlying23 34 info_mem bz oz q c0 j JQ.out .i64 _ rfl (by rw [← AE.out]; rfl) rfl W) ?_
              simp only [Act.put, List.setIfInBounds_toArray, List.set_cons_zero, List.set_cons_succ]
              refine planG_q (v := ?_) (by rfl) (E0.out) ?_ ?_
              rotate_left
              · intro W hW
                go_simp
                with_reducible rfl
              simp only [Act.put, List.setIfInBounds_toArray, List.set_cons_zero, List.set_cons_succ]
              refine planG_q (by rfl) (E0.out) (fun W hW => run_load_range 38 (.tmp 134) rfl bz (oz + j * 34 + 1) rfl (B8 z.k) (rangeAt_keep (range_key MSD.out) hW) Tryz.underlying38 rfl ZKZ.out) ?_
              simp only [Act.put, List.setIfInBounds_toArray, List.set_cons_zero, List.set_cons_succ]
              refine planG_q (by rfl) (E0.out) (fun W hW => run_load_row 38 (.tmp 5) rfl MK rfl 38 KV (0, 0) _ (below_block hW (row_lt RKD.out) RKD.out) Tryz.underlying38 rfl IKV.out) ?_
              simp only [Act.put, List.setIfInBounds_toArray, List.set_cons_zero, List.set_cons_succ]
              refine planG_q (by rfl) (E0.out) (fun W hW => run_eq_arr 38 _ (.tmp 135) (.tmp 136) rfl 5 32 Tryz.underlying38 Tryz.underlying5 rfl (by kernel_rfl) z.k kk ZOKZ.out.1 HK2.out rfl (by rw [← KVE.out]; rfl) W) ?_
              simp only [Act.put, List.setIfInBounds_toArray, List.set_cons_zero, List.set_cons_succ]
              refine planG_q (v := ?_) (by rfl) (E0.out) ?_ ?_
              rotate_left
              · intro W hW
                go_simp
                with_reducible rfl
              simp only [Act.put, List.setIfInBounds_toArray, List.set_cons_zero, List.set_cons_succ]
              refine planG_q (v := ?_) (by rfl) (E0.out) ?_ ?_
              rotate_left
              · intro W hW
                go_simp
                with_reducible rfl
              simp only [Act.put, List.setIfInBounds_toArray, List.set_cons_zero, List.set_cons_succ]
              refine planG_nil ?_
              go_wp2_with fail
              go_roundw
              case rel => exact ⟨j + 1, by have := JQ.out; omega, by rw [KS1.out, ← KB.out, EZ]; rfl, by go_num, BQD.out⟩
              case measure => have := JQ.out; simp [intOf]; omega
            · have EZ : decide (z.k = kk) = false := decide_eq_false hzk
              refine wp_region_road (fun W => Below wd4.drew.heap.size wd4.drew W) [(true, 0), (true, 1), (true, 2), (true, 3), (true, 4), (true, 5), (true, 6), (true, 7), (true, 8), (true, 9), (true, 10)] (by kernel_rfl) (by kernel_rfl) (fun _ _ d _ _ h => by cases d <;> exact h) ?_
              simp only [List.filterMap_cons, List.filterMap_nil, List.getElem?_toArray, List.getElem?_cons_zero, List.getElem?_cons_succ, Option.map_some]
              generalize World.drew wd4 = wd5 at BQD RKD MSD E0 ⊢
              refine planG_q (v := ?_) (by rfl) (E0.out) ?_ ?_
              rotate_left
              · intro W hW
                go_simp
                with_reducible rfl
              simp only [Act.put, List.setIfInBounds_toArray, List.set_cons_zero, List.set_cons_succ]
              refine planG_q (v := ?_) (by rfl) (E0.out) ?_ ?_
              rotate_left
              · intro W hW
                go_simp
                with_reducible rfl
              simp only [Act.put, List.setIfInBounds_toArray, List.set_cons_zero, List.set_cons_succ]
              refine planG_q (v := ?_) (by rfl) (E0.out) ?_ ?_
              rotate_left
              · intro W hW
                go_simp
                with_reducible rfl
              simp only [Act.put, List.setIfInBounds_toArray, List.set_cons_zero, List.set_cons_succ]
              refine planG_q (v := ?_) (by rfl) (E0.out) ?_ ?_
              rotate_left
              · intro W hW
                go_simp
                with_reducible rfl
              simp only [Act.put, List.setIfInBounds_toArray, List.set_cons_zero, List.set_cons_succ]
              refine planG_q (by rfl) (E0.out) (fun W hW => run_iaddr_slk 23 (.tmp 131) (.tmp 132) rfl 63 Tryz.underlying23 34 info_mem bz oz q c0 j JQ.out .i64 _ rfl (by rw [← AE.out]; rfl) rfl W) ?_
              simp only [Act.put, List.setIfInBounds_toArray, List.set_cons_zero, List.set_cons_succ]
              refine planG_q (v := ?_) (by rfl) (E0.out) ?_ ?_
              rotate_left
              · intro W hW
                go_simp
                with_reducible rfl
              simp only [Act.put, List.setIfInBounds_toArray, List.set_cons_zero, List.set_cons_succ]
              refine planG_q (by rfl) (E0.out) (fun W hW => run_load_range 38 (.tmp 134) rfl bz (oz + j * 34 + 1) rfl (B8 z.k) (rangeAt_keep (range_key MSD.out) hW) Tryz.underlying38 rfl ZKZ.out) ?_
              simp only [Act.put, List.setIfInBounds_toArray, List.set_cons_zero, List.set_cons_succ]
              refine planG_q (by rfl) (E0.out) (fun W hW => run_load_row 38 (.tmp 5) rfl MK rfl 38 KV (0, 0) _ (below_block hW (row_lt RKD.out) RKD.out) Tryz.underlying38 rfl IKV.out) ?_
              simp only [Act.put, List.setIfInBounds_toArray, List.set_cons_zero, List.set_cons_succ]
              refine planG_q (by rfl) (E0.out) (fun W hW => run_eq_arr 38 _ (.tmp 135) (.tmp 136) rfl 5 32 Tryz.underlying38 Tryz.underlying5 rfl (by kernel_rfl) z.k kk ZOKZ.out.1 HK2.out rfl (by rw [← KVE.out]; rfl) W) ?_
              simp only [Act.put, List.setIfInBounds_toArray, List.set_cons_zero, List.set_cons_succ]
              refine planG_q (v := ?_) (by rfl) (E0.out) ?_ ?_
              rotate_left
              · intro W hW
                go_simp
                with_reducible rfl
              simp only [Act.put, List.setIfInBounds_toArray, List.set_cons_zero, List.set_cons_succ]
              refine planG_q (v := ?_) (by rfl) (E0.out) ?_ ?_
              rotate_left
              · intro W hW
                go_simp
                with_reducible rfl
              simp only [Act.put, List.setIfInBounds_toArray, List.set_cons_zero, List.set_cons_succ]
              refine planG_nil ?_
              go_wp2_with fail
              go_roundw
              case rel => exact ⟨j + 1, by have := JQ.out; omega, by rw [KS1.out, ← KB.out, EZ]; rfl, by go_num, BQD.out⟩
              case measure => have := JQ.out; simp [intOf]; omega
          ·
            refine wp_region_road (fun W => Below wd4.drew.heap.size wd4.drew W) [(true, 0), (true, 1), (true, 2), (true, 3), (true, 4), (true, 5), (true, 6), (true, 7), (true, 8), (true, 9), (true, 10)] (by kernel_rfl) (by kernel_rfl) (fun _ _ d _ _ h => by cases d <;> exact h) ?_
            simp only [List.filterMap_cons, List.filterMap_nil, List.getElem?_toArray, List.getElem?_cons_zero, List.getElem?_cons_succ, Option.map_some]
            generalize World.drew wd4 = wd5 at BQD RKD MSD E0 ⊢
            refine planG_q (v := ?_) (by rfl) (E0.out) ?_ ?_
            rotate_left
            · intro W hW
              go_simp
              with_reducible rfl
            simp only [Act.put, List.setIfInBounds_toArray, List.set_cons_zero, List.set_cons_succ]
            refine planG_q (v := ?_) (by rfl) (E0.out) ?_ ?_
            rotate_left
            · intro W hW
              go_simp
              with_reducible rfl
            simp only [Act.put, List.setIfInBounds_toArray, List.set_cons_zero, List.set_cons_succ]
            refine planG_qs (by rfl) (E0.out) ?_
            simp only [Act.put, List.setIfInBounds_toArray, List.set_cons_zero, List.set_cons_succ]
            refine planG_qs (by rfl) (E0.out) ?_
            simp only [Act.put, List.setIfInBounds_toArray, List.set_cons_zero, List.set_cons_succ]
            refine planG_qs (by rfl) (E0.out) ?_
            simp only [Act.put, List.setIfInBounds_toArray, List.set_cons_zero, List.set_cons_succ]
            refine planG_qs (by rfl) (E0.out) ?_
            simp only [Act.put, List.setIfInBounds_toArray, List.set_cons_zero, List.set_cons_succ]
            refine planG_qs (by rfl) (E0.out) ?_
            simp only [Act.put, List.setIfInBounds_toArray, List.set_cons_zero, List.set_cons_succ]
            refine planG_qs (by rfl) (E0.out) ?_
            simp only [Act.put, List.setIfInBounds_toArray, List.set_cons_zero, List.set_cons_succ]
            refine planG_qs (by rfl) (E0.out) ?_
            simp only [Act.put, List.setIfInBounds_toArray, List.set_cons_zero, List.set_cons_succ]
            refine planG_q (v := ?_) (by rfl) (E0.out) ?_ ?_
            rotate_left
            · intro W hW
              go_simp
              with_reducible rfl
            simp only [Act.put, List.setIfInBounds_toArray, List.set_cons_zero, List.set_cons_succ]
            refine planG_q (v := ?_) (by rfl) (E0.out) ?_ ?_
            rotate_left
            · intro W hW
              go_simp
              with_reducible rfl
            simp only [Act.put, List.setIfInBounds_toArray, List.set_cons_zero, List.set_cons_succ]
            refine planG_nil ?_
            go_wp2_with fail
            go_roundw
            case rel => exact ⟨j + 1, by have := JQ.out; omega, by rw [KS1.out, ← KB.out]; rfl, by go_num, BQD.out⟩
            case measure => have := JQ.out; simp [intOf]; omega
        ·
          go_upto_region 12 with fail
          have BS := Lib.hid (show Below w7.heap.size w7 ws from BWD.out.trans (Z.out.mono BWD.out.size))
          have D0 := Lib.hid (show Below ws.heap.size ws ws.drew from (Below.refl _ _).drew)
          have KS := Lib.hid (rangeAt_keep KEYR.out BS.out)
          have OS := Lib.hid (rangeAt_keep OWNR.out BS.out)
          have MS := Lib.hid (rangeAt_keep RZ.out BS.out)
          have K13 := Lib.hid (rangeK_k (y := seenK ya true) (o := 0) (range_rowL R13.out))
          have O13 := Lib.hid (rangeK_o (y := seenK ya true) (o := 0) (range_rowL R13.out) OYA.out.1)
          refine wp_region_road (fun W => Below ws.heap.size ws W) [(true, 0), (true, 1), (true, 2), (true, 3), (true, 4), (true, 5), (true, 6), (true, 7), (true, 8), (true, 9), (true, 10), (true, 11), (true, 12), (true, 13), (true, 14), (true, 15), (true, 16), (true, 17), (true, 18), (true, 19), (true, 20), (true, 21), (true, 22), (true, 23), (true, 24), (true, 25), (true, 26), (true, 27), (true, 28), (true, 29), (true, 30), (true, 31), (true, 32), (true, 33), (true, 34), (true, 35), (true, 36), (true, 37), (true, 38), (true, 39), (true, 40), (true, 41), (true, 42), (true, 43), (true, 44), (true, 45), (true, 46)] (by kernel_rfl) (by kernel_rfl) (fun _ _ d _ _ h => by cases d <;> exact h) ?_
          simp only [List.filterMap_cons, List.filterMap_nil, List.getElem?_toArray, List.getElem?_cons_zero, List.getElem?_cons_succ, Option.map_some]
          generalize World.drew ws = wd4 at D0 ⊢
          refine planG_q (v := ?_) (by rfl) (D0.out) ?_ ?_
          rotate_left
          · intro W hW
            go_simp
            with_reducible rfl
          simp only [Act.put, List.setIfInBounds_toArray, List.set_cons_zero, List.set_cons_succ]
          refine planG_q (v := ?_) (by rfl) (D0.out) ?_ ?_
          rotate_left
          · intro W hW
            go_simp
            with_reducible rfl
          simp only [Act.put, List.setIfInBounds_toArray, List.set_cons_zero, List.set_cons_succ]
          refine planG_q (v := ?_) (by rfl) (D0.out) ?_ ?_
          rotate_left
          · intro W hW
            go_simp
            with_reducible rfl
          simp only [Act.put, List.setIfInBounds_toArray, List.set_cons_zero, List.set_cons_succ]
          refine planG_q (v := ?_) (by rfl) (D0.out) ?_ ?_
          rotate_left
          · intro W hW
            go_simp
            with_reducible rfl
          simp only [Act.put, List.setIfInBounds_toArray, List.set_cons_zero, List.set_cons_succ]
          refine planG_q (by rfl) (D0.out) (fun W hW => run_cell 36 (.tmp 85) rfl _ Tryz.underlying36 rfl rfl (row_cell (below_block hW (row_lt R13.out) R13.out) 0 (show (RowK (seenK ya true)).toArray[0]? = some (.int .u64 (ep.toNat : Int)) by show some (Value.int .u64 (ya.e.toNat : Int)) = _; rw [YE.out]))) ?_
          simp only [Act.put, List.setIfInBounds_toArray, List.set_cons_zero, List.set_cons_succ]
          refine planG_q (v := ?_) (by rfl) (D0.out) ?_ ?_
          rotate_left
          · intro W hW
            go_simp
            with_reducible rfl
          simp only [Act.put, List.setIfInBounds_toArray, List.set_cons_zero, List.set_cons_succ]
          refine planG_q (v := ?_) (by rfl) (D0.out) ?_ ?_
          rotate_left
          · intro W hW
            go_simp
            with_reducible rfl
          simp only [Act.put, List.setIfInBounds_toArray, List.set_cons_zero, List.set_cons_succ]
          refine planG_q (v := ?_) (by rfl) (D0.out) ?_ ?_
          rotate_left
          · intro W hW
            go_simp
            with_reducible rfl
          simp only [Act.put, List.setIfInBounds_toArray, List.set_cons_zero, List.set_cons_succ]
          refine planG_q (v := ?_) (by rfl) (D0.out) ?_ ?_
          rotate_left
          · intro W hW
            go_simp
            with_reducible rfl
          simp only [Act.put, List.setIfInBounds_toArray, List.set_cons_zero, List.set_cons_succ]
          refine planG_q (v := ?_) (by rfl) (D0.out) ?_ ?_
          rotate_left
          · intro W hW
            go_simp
            with_reducible rfl
          simp only [Act.put, List.setIfInBounds_toArray, List.set_cons_zero, List.set_cons_succ]
          refine planG_q (by rfl) (D0.out) (fun W hW => run_load_range 38 (.tmp 91) rfl N13 1 rfl (B8 ya.k) (by have h1 := rangeAt_keep K13.out hW; rwa [Nat.zero_add] at h1) Tryz.underlying38 rfl ZKY.out) ?_
          simp only [Act.put, List.setIfInBounds_toArray, List.set_cons_zero, List.set_cons_succ]
          refine planG_q (v := ?_) (by rfl) (D0.out) ?_ ?_
          rotate_left
          · intro W hW
            go_simp
            with_reducible rfl
          simp only [Act.put, List.setIfInBounds_toArray, List.set_cons_zero, List.set_cons_succ]
          refine planG_q (by rfl) (D0.out) (fun W hW => run_load_range 38 (.tmp 93) rfl (M7 + 1) 1 rfl (B8 ya.k) (by have h1 := rangeAt_keep KS.out hW; rwa [Nat.zero_add] at h1) Tryz.underlying38 rfl ZKY.out) ?_
          simp only [Act.put, List.setIfInBounds_toArray, List.set_cons_zero, List.set_cons_succ]
          refine planG_q (by rfl) (D0.out) (fun W hW => run_neq_arr_false 38 _ (.tmp 92) (.tmp 94) rfl 5 32 Tryz.underlying38 Tryz.underlying5 rfl (by kernel_rfl) ya.k ya.k OYA.out.1 rfl rfl rfl W) ?_
          simp only [Act.put, List.setIfInBounds_toArray, List.set_cons_zero, List.set_cons_succ]
          refine planG_q (v := ?_) (by rfl) (D0.out) ?_ ?_
          rotate_left
          · intro W hW
            go_simp
            with_reducible rfl
          simp only [Act.put, List.setIfInBounds_toArray, List.set_cons_zero, List.set_cons_succ]
          refine planG_q (v := ?_) (by rfl) (D0.out) ?_ ?_
          rotate_left
          · intro W hW
            go_simp
            with_reducible rfl
          simp only [Act.put, List.setIfInBounds_toArray, List.set_cons_zero, List.set_cons_succ]
          refine planG_q (v := ?_) (by rfl) (D0.out) ?_ ?_
          rotate_left
          · intro W hW
            go_simp
            with_reducible rfl
          simp only [Act.put, List.setIfInBounds_toArray, List.set_cons_zero, List.set_cons_succ]
          refine planG_q (by rfl) (D0.out) (fun W hW => run_cell 4 (.tmp 98) rfl _ Tryz.underlying4 rfl rfl (row_cell (below_block hW (row_lt R13.out) R13.out) 65 (show (RowK (seenK ya true)).toArray[65]? = some (.bool true) from rowK_w (OSK.out true)))) ?_
          simp only [Act.put, List.setIfInBounds_toArray, List.set_cons_zero, List.set_cons_succ]
          refine planG_q (v := ?_) (by rfl) (D0.out) ?_ ?_
          rotate_left
          · intro W hW
            go_simp
            with_reducible rfl
          simp only [Act.put, List.setIfInBounds_toArray, List.set_cons_zero, List.set_cons_succ]
          refine planG_q (v := ?_) (by rfl) (D0.out) ?_ ?_
          rotate_left
          · intro W hW
            go_simp
            with_reducible rfl
          simp only [Act.put, List.setIfInBounds_toArray, List.set_cons_zero, List.set_cons_succ]
          refine planG_q (by rfl) (D0.out) (fun W hW => run_iaddr_slk 23 (.tmp 100) (.tmp 101) rfl 63 Tryz.underlying23 34 info_mem bz oz q c0 j JQ.out .i64 _ rfl (by rw [← AE.out]; rfl) rfl W) ?_
          simp only [Act.put, List.setIfInBounds_toArray, List.set_cons_zero, List.set_cons_succ]
          refine planG_q (v := ?_) (by rfl) (D0.out) ?_ ?_
          rotate_left
          · intro W hW
            go_simp
            with_reducible rfl
          simp only [Act.put, List.setIfInBounds_toArray, List.set_cons_zero, List.set_cons_succ]
          refine planG_q (by rfl) (D0.out) (fun W hW => run_cell 4 (.tmp 103) rfl _ Tryz.underlying4 rfl rfl ((rangeAt_keep MS.out hW) 33 _ (by have := rowM_o ZOKZ.out.1; rw [ZO.out] at this; rwa [List.getElem?_toArray] at this))) ?_
          simp only [Act.put, List.setIfInBounds_toArray, List.set_cons_zero, List.set_cons_succ]
          refine planG_q (v := ?_) (by rfl) (D0.out) ?_ ?_
          rotate_left
          · intro W hW
            go_simp
            with_reducible rfl
          simp only [Act.put, List.setIfInBounds_toArray, List.set_cons_zero, List.set_cons_succ]
          refine planG_q (v := ?_) (by rfl) (D0.out) ?_ ?_
          rotate_left
          · intro W hW
            go_simp
            with_reducible rfl
          simp only [Act.put, List.setIfInBounds_toArray, List.set_cons_zero, List.set_cons_succ]
          refine planG_q (v := ?_) (by rfl) (D0.out) ?_ ?_
          rotate_left
          · intro W hW
            go_simp
            with_reducible rfl
          simp only [Act.put, List.setIfInBounds_toArray, List.set_cons_zero, List.set_cons_succ]
          refine planG_q (v := ?_) (by rfl) (D0.out) ?_ ?_
          rotate_left
          · intro W hW
            go_simp
            with_reducible rfl
          simp only [Act.put, List.setIfInBounds_toArray, List.set_cons_zero, List.set_cons_succ]
          refine planG_q (by rfl) (D0.out) (fun W hW => run_cell 4 (.tmp 108) rfl _ Tryz.underlying4 rfl rfl (row_cell (below_block hW (row_lt R13.out) R13.out) 65 (show (RowK (seenK ya true)).toArray[65]? = some (.bool true) from rowK_w (OSK.out true)))) ?_
          simp only [Act.put, List.setIfInBounds_toArray, List.set_cons_zero, List.set_cons_succ]
          refine planG_q (v := ?_) (by rfl) (D0.out) ?_ ?_
          rotate_left
          · intro W hW
            go_simp
            with_reducible rfl
          simp only [Act.put, List.setIfInBounds_toArray, List.set_cons_zero, List.set_cons_succ]
          refine planG_q (v := ?_) (by rfl) (D0.out) ?_ ?_
          rotate_left
          · intro W hW
            go_simp
            with_reducible rfl
          simp only [Act.put, List.setIfInBounds_toArray, List.set_cons_zero, List.set_cons_succ]
          refine planG_q (by rfl) (D0.out) (fun W hW => run_load_range 38 (.tmp 111) rfl N13 33 rfl (B8 ya.o) (by have h1 := rangeAt_keep O13.out hW; rwa [Nat.zero_add] at h1) Tryz.underlying38 rfl ZKO.out) ?_
          simp only [Act.put, List.setIfInBounds_toArray, List.set_cons_zero, List.set_cons_succ]
          refine planG_q (v := ?_) (by rfl) (D0.out) ?_ ?_
          rotate_left
          · intro W hW
            go_simp
            with_reducible rfl
          simp only [Act.put, List.setIfInBounds_toArray, List.set_cons_zero, List.set_cons_succ]
          refine planG_q (by rfl) (D0.out) (fun W hW => run_load_range 38 (.tmp 113) rfl (M7 + 1) 33 rfl (B8 ya.o) (by have h1 := rangeAt_keep OS.out hW; rwa [Nat.zero_add] at h1) Tryz.underlying38 rfl ZKO.out) ?_
          simp only [Act.put, List.setIfInBounds_toArray, List.set_cons_zero, List.set_cons_succ]
          refine planG_q (by rfl) (D0.out) (fun W hW => run_neq_arr_false 38 _ (.tmp 112) (.tmp 114) rfl 5 32 Tryz.underlying38 Tryz.underlying5 rfl (by kernel_rfl) ya.o ya.o OYA.out.2 rfl rfl rfl W) ?_
          simp only [Act.put, List.setIfInBounds_toArray, List.set_cons_zero, List.set_cons_succ]
          refine planG_q (v := ?_) (by rfl) (D0.out) ?_ ?_
          rotate_left
          · intro W hW
            go_simp
            with_reducible rfl
          simp only [Act.put, List.setIfInBounds_toArray, List.set_cons_zero, List.set_cons_succ]
          refine planG_q (v := ?_) (by rfl) (D0.out) ?_ ?_
          rotate_left
          · intro W hW
            go_simp
            with_reducible rfl
          simp only [Act.put, List.setIfInBounds_toArray, List.set_cons_zero, List.set_cons_succ]
          refine planG_q (v := ?_) (by rfl) (D0.out) ?_ ?_
          rotate_left
          · intro W hW
            go_simp
            with_reducible rfl
          simp only [Act.put, List.setIfInBounds_toArray, List.set_cons_zero, List.set_cons_succ]
          refine planG_q (v := ?_) (by rfl) (D0.out) ?_ ?_
          rotate_left
          · intro W hW
            go_simp
            with_reducible rfl
          simp only [Act.put, List.setIfInBounds_toArray, List.set_cons_zero, List.set_cons_succ]
          refine planG_q (by rfl) (D0.out) (fun W hW => run_cell 4 (.tmp 119) rfl _ Tryz.underlying4 rfl rfl (row_cell (below_block hW (row_lt R13.out) R13.out) 65 (show (RowK (seenK ya true)).toArray[65]? = some (.bool true) from rowK_w (OSK.out true)))) ?_
          simp only [Act.put, List.setIfInBounds_toArray, List.set_cons_zero, List.set_cons_succ]
          refine planG_q (v := ?_) (by rfl) (D0.out) ?_ ?_
          rotate_left
          · intro W hW
            go_simp
            with_reducible rfl
          simp only [Act.put, List.setIfInBounds_toArray, List.set_cons_zero, List.set_cons_succ]
          refine planG_q (v := ?_) (by rfl) (D0.out) ?_ ?_
          rotate_left
          · intro W hW
            go_simp
            with_reducible rfl
          simp only [Act.put, List.setIfInBounds_toArray, List.set_cons_zero, List.set_cons_succ]
          refine planG_qs (by rfl) (D0.out) ?_
          simp only [Act.put, List.setIfInBounds_toArray, List.set_cons_zero, List.set_cons_succ]
          refine planG_qs (by rfl) (D0.out) ?_
          simp only [Act.put, List.setIfInBounds_toArray, List.set_cons_zero, List.set_cons_succ]
          refine planG_qs (by rfl) (D0.out) ?_
          simp only [Act.put, List.setIfInBounds_toArray, List.set_cons_zero, List.set_cons_succ]
          refine planG_qs (by rfl) (D0.out) ?_
          simp only [Act.put, List.setIfInBounds_toArray, List.set_cons_zero, List.set_cons_succ]
          refine planG_q (v := ?_) (by rfl) (D0.out) ?_ ?_
          rotate_left
          · intro W hW
            go_simp
            with_reducible rfl
          simp only [Act.put, List.setIfInBounds_toArray, List.set_cons_zero, List.set_cons_succ]
          refine planG_q (v := ?_) (by rfl) (D0.out) ?_ ?_
          rotate_left
          · intro W hW
            go_simp
            with_reducible rfl
          simp only [Act.put, List.setIfInBounds_toArray, List.set_cons_zero, List.set_cons_succ]
          refine planG_nil ?_
          have BQ := Lib.hid (BS.out.trans (D0.out.mono BS.out.size))
          go_upto_region 14 with fail
          have BQD := Lib.hid (show Below w7.heap.size w7 wd4.drew from BQ.out.drew)
          have RKD := Lib.hid (below_block BQD.out (row_lt RK7.out) RK7.out)
          have MSD := Lib.hid (rangeAt_keep RZ.out BQD.out)
          have E0 := Lib.hid (Below.refl wd4.drew.heap.size wd4.drew)
          cases kb
          ·
            by_cases hzk : z.k = kk
            · have EZ : decide (z.k = kk) = true := decide_eq_true hzk
              refine wp_region_road (fun W => Below wd4.drew.heap.size wd4.drew W) [(true, 0), (true, 1), (true, 2), (true, 3), (true, 4), (true, 5), (true, 6), (true, 7), (true, 8), (true, 9), (true, 10)] (by kernel_rfl) (by kernel_rfl) (fun _ _ d _ _ h => by cases d <;> exact h) ?_
              simp only [List.filterMap_cons, List.filterMap_nil, List.getElem?_toArray, List.getElem?_cons_zero, List.getElem?_cons_succ, Option.map_some]
              generalize World.drew wd4 = wd5 at BQD RKD MSD E0 ⊢
              refine planG_q (v := ?_) (by rfl) (E0.out) ?_ ?_
              rotate_left
              · intro W hW
                go_simp
                with_reducible rfl
              simp only [Act.put, List.setIfInBounds_toArray, List.set_cons_zero, List.set_cons_succ]
              refine planG_q (v := ?_) (by rfl) (E0.out) ?_ ?_
              rotate_left
              · intro W hW
                go_simp
                with_reducible rfl
              simp only [Act.put, List.setIfInBounds_toArray, List.set_cons_zero, List.set_cons_succ]
              refine planG_q (v := ?_) (by rfl) (E0.out) ?_ ?_
              rotate_left
              · intro W hW
                go_simp
                with_reducible rfl
              simp only [Act.put, List.setIfInBounds_toArray, List.set_cons_zero, List.set_cons_succ]
              refine planG_q (v := ?_) (by rfl) (E0.out) ?_ ?_
              rotate_left
              · intro W hW
                go_simp
                with_reducible rfl
              simp only [Act.put, List.setIfInBounds_toArray, List.set_cons_zero, List.set_cons_succ]
              refine planG_q (by rfl) (E0.out) (fun W hW => run_iaddr_slk 23 (.tmp 131) (.tmp 132) rfl 63 Tryz.underlying23 34 info_mem bz oz q c0 j JQ.out .i64 _ rfl (by rw [← AE.out]; rfl) rfl W) ?_
              simp only [Act.put, List.setIfInBounds_toArray, List.set_cons_zero, List.set_cons_succ]
              refine planG_q (v := ?_) (by rfl) (E0.out) ?_ ?_
              rotate_left
              · intro W hW
                go_simp
                with_reducible rfl
              simp only [Act.put, List.setIfInBounds_toArray, List.set_cons_zero, List.set_cons_succ]
              refine planG_q (by rfl) (E0.out) (fun W hW => run_load_range 38 (.tmp 134) rfl bz (oz + j * 34 + 1) rfl (B8 z.k) (rangeAt_keep (range_key MSD.out) hW) Tryz.underlying38 rfl ZKZ.out) ?_
              simp only [Act.put, List.setIfInBounds_toArray, List.set_cons_zero, List.set_cons_succ]
              refine planG_q (by rfl) (E0.out) (fun W hW => run_load_row 38 (.tmp 5) rfl MK rfl 38 KV (0, 0) _ (below_block hW (row_lt RKD.out) RKD.out) Tryz.underlying38 rfl IKV.out) ?_
              simp only [Act.put, List.setIfInBounds_toArray, List.set_cons_zero, List.set_cons_succ]
              refine planG_q (by rfl) (E0.out) (fun W hW => run_eq_arr 38 _ (.tmp 135) (.tmp 136) rfl 5 32 Tryz.underlying38 Tryz.underlying5 rfl (by kernel_rfl) z.k kk ZOKZ.out.1 HK2.out rfl (by rw [← KVE.out]; rfl) W) ?_
              simp only [Act.put, List.setIfInBounds_toArray, List.set_cons_zero, List.set_cons_succ]
              refine planG_q (v := ?_) (by rfl) (E0.out) ?_ ?_
              rotate_left
              · intro W hW
                go_simp
                with_reducible rfl
              simp only [Act.put, List.setIfInBounds_toArray, List.set_cons_zero, List.set_cons_succ]
              refine planG_q (v := ?_) (by rfl) (E0.out) ?_ ?_
              rotate_left
              · intro W hW
                go_simp
                with_reducible rfl
              simp only [Act.put, List.setIfInBounds_toArray, List.set_cons_zero, List.set_cons_succ]
              refine planG_nil ?_
              go_wp2_with fail
              go_roundw
              case rel => exact ⟨j + 1, by have := JQ.out; omega, by rw [KS1.out, ← KB.out, EZ]; rfl, by go_num, BQD.out⟩
              case measure => have := JQ.out; simp [intOf]; omega
            · have EZ : decide (z.k = kk) = false := decide_eq_false hzk
              refine wp_region_road (fun W => Below wd4.drew.heap.size wd4.drew W) [(true, 0), (true, 1), (true, 2), (true, 3), (true, 4), (true, 5), (true, 6), (true, 7), (true, 8), (true, 9), (true, 10)] (by kernel_rfl) (by kernel_rfl) (fun _ _ d _ _ h => by cases d <;> exact h) ?_
              simp only [List.filterMap_cons, List.filterMap_nil, List.getElem?_toArray, List.getElem?_cons_zero, List.getElem?_cons_succ, Option.map_some]
              generalize World.drew wd4 = wd5 at BQD RKD MSD E0 ⊢
              refine planG_q (v := ?_) (by rfl) (E0.out) ?_ ?_
              rotate_left
              · intro W hW
                go_simp
                with_reducible rfl
              simp only [Act.put, List.setIfInBounds_toArray, List.set_cons_zero, List.set_cons_succ]
              refine planG_q (v := ?_) (by rfl) (E0.out) ?_ ?_
              rotate_left
              · intro W hW
                go_simp
                with_reducible rfl
              simp only [Act.put, List.setIfInBounds_toArray, List.set_cons_zero, List.set_cons_succ]
              refine planG_q (v := ?_) (by rfl) (E0.out) ?_ ?_
              rotate_left
              · intro W hW
                go_simp
                with_reducible rfl
              simp only [Act.put, List.setIfInBounds_toArray, List.set_cons_zero, List.set_cons_succ]
              refine planG_q (v := ?_) (by rfl) (E0.out) ?_ ?_
              rotate_left
              · intro W hW
                go_simp
                with_reducible rfl
              simp only [Act.put, List.setIfInBounds_toArray, List.set_cons_zero, List.set_cons_succ]
              refine planG_q (by rfl) (E0.out) (fun W hW => run_iaddr_slk 23 (.tmp 131) (.tmp 132) rfl 63 Tryz.underlying23 34 info_mem bz oz q c0 j JQ.out .i64 _ rfl (by rw [← AE.out]; rfl) rfl W) ?_
              simp only [Act.put, List.setIfInBounds_toArray, List.set_cons_zero, List.set_cons_succ]
              refine planG_q (v := ?_) (by rfl) (E0.out) ?_ ?_
              rotate_left
              · intro W hW
                go_simp
                with_reducible rfl
              simp only [Act.put, List.setIfInBounds_toArray, List.set_cons_zero, List.set_cons_succ]
              refine planG_q (by rfl) (E0.out) (fun W hW => run_load_range 38 (.tmp 134) rfl bz (oz + j * 34 + 1) rfl (B8 z.k) (rangeAt_keep (range_key MSD.out) hW) Tryz.underlying38 rfl ZKZ.out) ?_
              simp only [Act.put, List.setIfInBounds_toArray, List.set_cons_zero, List.set_cons_succ]
              refine planG_q (by rfl) (E0.out) (fun W hW => run_load_row 38 (.tmp 5) rfl MK rfl 38 KV (0, 0) _ (below_block hW (row_lt RKD.out) RKD.out) Tryz.underlying38 rfl IKV.out) ?_
              simp only [Act.put, List.setIfInBounds_toArray, List.set_cons_zero, List.set_cons_succ]
              refine planG_q (by rfl) (E0.out) (fun W hW => run_eq_arr 38 _ (.tmp 135) (.tmp 136) rfl 5 32 Tryz.underlying38 Tryz.underlying5 rfl (by kernel_rfl) z.k kk ZOKZ.out.1 HK2.out rfl (by rw [← KVE.out]; rfl) W) ?_
              simp only [Act.put, List.setIfInBounds_toArray, List.set_cons_zero, List.set_cons_succ]
              refine planG_q (v := ?_) (by rfl) (E0.out) ?_ ?_
              rotate_left
              · intro W hW
                go_simp
                with_reducible rfl
              simp only [Act.put, List.setIfInBounds_toArray, List.set_cons_zero, List.set_cons_succ]
              refine planG_q (v := ?_) (by rfl) (E0.out) ?_ ?_
              rotate_left
              · intro W hW
                go_simp
                with_reducible rfl
              simp only [Act.put, List.setIfInBounds_toArray, List.set_cons_zero, List.set_cons_succ]
              refine planG_nil ?_
              go_wp2_with fail
              go_roundw
              case rel => exact ⟨j + 1, by have := JQ.out; omega, by rw [KS1.out, ← KB.out, EZ]; rfl, by go_num, BQD.out⟩
              case measure => have := JQ.out; simp [intOf]; omega
          ·
            refine wp_region_road (fun W => Below wd4.drew.heap.size wd4.drew W) [(true, 0), (true, 1), (true, 2), (true, 3), (true, 4), (true, 5), (true, 6), (true, 7), (true, 8), (true, 9), (true, 10)] (by kernel_rfl) (by kernel_rfl) (fun _ _ d _ _ h => by cases d <;> exact h) ?_
            simp only [List.filterMap_cons, List.filterMap_nil, List.getElem?_toArray, List.getElem?_cons_zero, List.getElem?_cons_succ, Option.map_some]
            generalize World.drew wd4 = wd5 at BQD RKD MSD E0 ⊢
            refine planG_q (v := ?_) (by rfl) (E0.out) ?_ ?_
            rotate_left
            · intro W hW
              go_simp
              with_reducible rfl
            simp only [Act.put, List.setIfInBounds_toArray, List.set_cons_zero, List.set_cons_succ]
            refine planG_q (v := ?_) (by rfl) (E0.out) ?_ ?_
            rotate_left
            · intro W hW
              go_simp
              with_reducible rfl
            simp only [Act.put, List.setIfInBounds_toArray, List.set_cons_zero, List.set_cons_succ]
            refine planG_qs (by rfl) (E0.out) ?_
            simp only [Act.put, List.setIfInBounds_toArray, List.set_cons_zero, List.set_cons_succ]
            refine planG_qs (by rfl) (E0.out) ?_
            simp only [Act.put, List.setIfInBounds_toArray, List.set_cons_zero, List.set_cons_succ]
            refine planG_qs (by rfl) (E0.out) ?_
            simp only [Act.put, List.setIfInBounds_toArray, List.set_cons_zero, List.set_cons_succ]
            refine planG_qs (by rfl) (E0.out) ?_
            simp only [Act.put, List.setIfInBounds_toArray, List.set_cons_zero, List.set_cons_succ]
            refine planG_qs (by rfl) (E0.out) ?_
            simp only [Act.put, List.setIfInBounds_toArray, List.set_cons_zero, List.set_cons_succ]
            refine planG_qs (by rfl) (E0.out) ?_
            simp only [Act.put, List.setIfInBounds_toArray, List.set_cons_zero, List.set_cons_succ]
            refine planG_qs (by rfl) (E0.out) ?_
            simp only [Act.put, List.setIfInBounds_toArray, List.set_cons_zero, List.set_cons_succ]
            refine planG_q (v := ?_) (by rfl) (E0.out) ?_ ?_
            rotate_left
            · intro W hW
              go_simp
              with_reducible rfl
            simp only [Act.put, List.setIfInBounds_toArray, List.set_cons_zero, List.set_cons_succ]
            refine planG_q (v := ?_) (by rfl) (E0.out) ?_ ?_
            rotate_left
            · intro W hW
              go_simp
              with_reducible rfl
            simp only [Act.put, List.setIfInBounds_toArray, List.set_cons_zero, List.set_cons_succ]
            refine planG_nil ?_
            go_wp2_with fail
            go_roundw
            case rel => exact ⟨j + 1, by have := JQ.out; omega, by rw [KS1.out, ← KB.out]; rfl, by go_num, BQD.out⟩
            case measure => have := JQ.out; simp [intOf]; omega
    · have hD : decide ((j : Int) < (q : Int)) = false := by simp; omega
      have KBQ := Lib.hid (show kb = zs.any fun z => decide (z.k = kk) by rw [KB.out, show j = q by have := J.out; omega, KNQ.out])
      obtain ⟨yo, co, hun⟩ : ∃ yo co, unwrapL s1 kk xs0 = (yo, co) := ⟨_, _, rfl⟩
      have OYO := Lib.hid (show OkK yo by have := ok_unwrapL s1 kk xs0; rwa [hun] at this)
      have EC := Lib.hid (show decide (co = 0) = kb by
        rw [KBQ.out]
        by_cases hk : ∃ z ∈ zs, z.k = kk
        · obtain ⟨z, hm, he⟩ := hk
          obtain ⟨i, hi⟩ := List.getElem?_of_mem hm
          have h1 := unwrap_mem OYA.out RI.out M1.out i (by have h2 := (List.getElem?_eq_some_iff.1 hi).1; have := Q8.out; rw [Q1.out] at h2; omega) z hi (fun i' z' hl hz' => (check_keys CK.out i' i z z' hl hz' hi).1)
          rw [he, hun] at h1
          injection h1 with _ h2
          rw [h2, show (zs.any fun z => decide (z.k = kk)) = true from List.any_eq_true.2 ⟨z, hm, decide_eq_true he⟩]
          rfl
        · have h1 := unwrap_none RI.out M1.out kk 0 (fun j z _ hz he => hk ⟨z, List.mem_of_getElem? hz, he⟩)
          rw [List.drop_zero, hun] at h1
          injection h1 with _ h2
          rw [h2, show (zs.any fun z => decide (z.k = kk)) = false from List.any_eq_false.2 (fun z hm h => hk ⟨z, hm, of_decide_eq_true h⟩)]
          rfl)
      have UWO := Lib.hid (show Calls Tryz.prog 17 #[.pointer (some ⟨g, 0, none⟩), .agg ra, .agg KV] wp fun e w' => e = .returned (.tuple #[.agg (RowK yo).toArray, .int .i64 co]) ∧ Below wp.heap.size wp w' by
        rw [KVE.out]
        have h1 := unwrap_any w3 g S D b L s1 wp (H7.out.keep BW.out) (.inr M1.out) (.agg ra) xs0 d0 _ (RG.out.keep BW.out) RI8.out.1 RI8.out.2 kk HK2.out TX.out
        rw [hun] at h1
        exact h1)
      have RAQ := Lib.hid (below_block BW.out (row_lt RA.out) RA.out)
      have RKQ := Lib.hid (below_block BW.out (row_lt RK7.out) RK7.out)
      clear hun
      go_upto_region 15 with fail
      refine wp_region_list ?_
      simp only [List.toList_toArray]
      refine wpList_val (v := ?_) (by rfl) ?_ ?_
      rotate_left
      · go_simp
        with_reducible rfl
      simp only [Act.put, List.setIfInBounds_toArray, List.set_cons_zero, List.set_cons_succ]
      refine wpList_val (by rfl) (run_load_row 35 (.tmp 9) rfl M7 rfl 35 ra (0, 0) _ RAQ.out Tryz.underlying35 rfl IRA.out) ?_
      simp only [Act.put, List.setIfInBounds_toArray, List.set_cons_zero, List.set_cons_succ]
      refine wpList_val (by rfl) (run_load_row 38 (.tmp 5) rfl MK rfl 38 KV (0, 0) _ RKQ.out Tryz.underlying38 rfl IKV.out) ?_
      simp only [Act.put, List.setIfInBounds_toArray, List.set_cons_zero, List.set_cons_succ]
      refine wpList_op (by rfl) (fun K hK => ?_)
      go_simp
      refine UWO.out.mono ?_
      clear UWO
      rintro e w8 ⟨rfl, hb⟩
      have BQ := Lib.hid (BW.out.trans (hb.mono BW.out.size))
      clear hb RAQ RKQ
      refine hK.out _ _ ?_
      clear hK K
      go_upto_region 16 with (refine wpList_store_new rfl rfl 40 (.tmp 15) (.tmp 144) rfl (RowK yo).toArray rfl rfl (info_kysC _ OYO.out) (by rw [← ZK.out, sizeK _ ok_kysZ, sizeK _ OYO.out]) (rowK_one _) ?_)
      generalize hw9 : World.alloc w8 _ = w9
      have B9 := Lib.hid (show Below w7.heap.size w7 w9 by rw [← hw9]; exact BQ.out.alloc BQ.out.size _)
      clear hw9 BQ
      have RAQ := Lib.hid (below_block B9.out (row_lt RA.out) RA.out)
      have OWNQ := Lib.hid (rangeAt_keep OWNR.out B9.out)
      have MBR := Lib.hid (show Calls Tryz.prog 19 #[.pointer (some ⟨g, 0, none⟩), .agg ra, .agg (W8 ya.o)] w9 fun e w' => (∃ A c, e = .returned (.tuple #[.slice A q c, .int .i64 0]) ∧ RdM w' A zs ∧ q ≤ c) ∧ Below w9.heap.size w9 w' by
        refine (members_any w3 g S D b L s1 w9 (H7.out.keep B9.out) (.inr M1.out) (.agg ra) xs0 d0 _ (RG.out.keep B9.out) (by rw [DL.out]; omega) ya.o OYA.out.2 TX.out).mono ?_
        rintro e w' ⟨h, hb⟩
        refine ⟨?_, hb⟩
        have ho := opens_dir M1.out LD.out
        have hm := membersL_dir CK.out H0.out.ok
        rcases h with ⟨h1, _⟩ | ⟨t, h1, h2, _⟩ | ⟨t, A, c, h1, h2, h3, h4, h5⟩
        · rw [ho] at h1
          cases h1
        · rw [ho] at h1
          injection h1 with h1
          subst h1
          rw [hm, CK.out] at h2
          simp at h2
        · rw [ho] at h1
          injection h1 with h1
          subst h1
          rw [hm, Q1.out] at h5
          rw [hm] at h4
          rw [hm, Q1.out] at h3
          exact ⟨A, c, h3, h4, h5⟩)
      go_upto_region 16 with fail
      refine wp_region_list ?_
      simp only [List.toList_toArray]
      refine wpList_val (v := ?_) (by rfl) ?_ ?_
      rotate_left
      · go_simp
        with_reducible rfl
      simp only [Act.put, List.setIfInBounds_toArray, List.set_cons_zero, List.set_cons_succ]
      refine wpList_val (by rfl) (run_load_row 35 (.tmp 9) rfl M7 rfl 35 ra (0, 0) _ RAQ.out Tryz.underlying35 rfl IRA.out) ?_
      simp only [Act.put, List.setIfInBounds_toArray, List.set_cons_zero, List.set_cons_succ]
      refine wpList_val (v := ?_) (by rfl) ?_ ?_
      rotate_left
      · go_simp
        with_reducible rfl
      simp only [Act.put, List.setIfInBounds_toArray, List.set_cons_zero, List.set_cons_succ]
      refine wpList_val (by rfl) (run_load_range 38 (.tmp 149) rfl (M7 + 1) 33 rfl (B8 ya.o) (by have h1 := OWNQ.out; rwa [Nat.zero_add] at h1) Tryz.underlying38 rfl ZKO.out) ?_
      simp only [Act.put, List.setIfInBounds_toArray, List.set_cons_zero, List.set_cons_succ]
      refine wpList_op (by rfl) (fun K hK => ?_)
      go_simp
      refine MBR.out.mono ?_
      clear MBR
      rintro e w10 ⟨⟨Am, cm, rfl, hrm, hcm⟩, hb⟩
      have RM := Lib.hid hrm
      have B10 := Lib.hid (B9.out.trans (hb.mono B9.out.size))
      clear hrm hcm hb RAQ OWNQ B9
      refine hK.out _ _ ?_
      clear hK K
      have BT10 := Lib.hid (BT.out.trans (B10.out.mono BT.out.size))
      have HL := Lib.hid (H0.out.keep BT10.out)
      go_upto_region 17 with fail
      refine wp_region_list ?_
      simp only [List.toList_toArray]
      refine wpList_val (v := ?_) (by rfl) ?_ ?_
      rotate_left
      · go_simp
        with_reducible rfl
      simp only [Act.put, List.setIfInBounds_toArray, List.set_cons_zero, List.set_cons_succ]
      refine wpList_val (v := ?_) (by rfl) ?_ ?_
      rotate_left
      · go_simp
        with_reducible rfl
      simp only [Act.put, List.setIfInBounds_toArray, List.set_cons_zero, List.set_cons_succ]
      refine wpList_val (v := ?_) (by rfl) ?_ ?_
      rotate_left
      · go_simp
        with_reducible rfl
      simp only [Act.put, List.setIfInBounds_toArray, List.set_cons_zero, List.set_cons_succ]
      refine wpList_valg (v := ?_) (by rfl) ?_ ?_
      rotate_left
      · go_simp
        with_reducible rfl
      simp only [Act.put, List.setIfInBounds_toArray, List.set_cons_zero, List.set_cons_succ]
      refine wpList_valg (v := ?_) (by rfl) ?_ ?_
      rotate_left
      · go_simp
        with_reducible rfl
      simp only [Act.put, List.setIfInBounds_toArray, List.set_cons_zero, List.set_cons_succ]
      refine wpList_valg (v := ?_) (by rfl) ?_ ?_
      rotate_left
      · go_simp
        with_reducible rfl
      simp only [Act.put, List.setIfInBounds_toArray, List.set_cons_zero, List.set_cons_succ]
      refine wpList_valg (v := ?_) (by rfl) ?_ ?_
      rotate_left
      · go_simp
        with_reducible rfl
      simp only [Act.put, List.setIfInBounds_toArray, List.set_cons_zero, List.set_cons_succ]
      refine wpList_valg (v := ?_) (by rfl) ?_ ?_
      rotate_left
      · go_simp
        with_reducible rfl
      simp only [Act.put, List.setIfInBounds_toArray, List.set_cons_zero, List.set_cons_succ]
      refine wpList_val (v := ?_) (by rfl) ?_ ?_
      rotate_left
      · go_simp
        with_reducible rfl
      simp only [Act.put, List.setIfInBounds_toArray, List.set_cons_zero, List.set_cons_succ]
      refine wpList_val (v := ?_) (by rfl) ?_ ?_
      rotate_left
      · go_simp
        with_reducible rfl
      simp only [Act.put, List.setIfInBounds_toArray, List.set_cons_zero, List.set_cons_succ]
      refine wpList_valg (v := ?_) (by rfl) ?_ ?_
      rotate_left
      · go_simp
        with_reducible rfl
      simp only [Act.put, List.setIfInBounds_toArray, List.set_cons_zero, List.set_cons_succ]
      refine wpList_valg (v := ?_) (by rfl) ?_ ?_
      rotate_left
      · go_simp
        with_reducible rfl
      simp only [Act.put, List.setIfInBounds_toArray, List.set_cons_zero, List.set_cons_succ]
      refine wpList_valg (by rfl) (run_eq_zero _ (.tmp 165) (.const (.int .i64 0)) rfl co kb EC.out rfl rfl _) ?_
      simp only [Act.put, List.setIfInBounds_toArray, List.set_cons_zero, List.set_cons_succ]
      refine wpList_valg (by rfl) (run_neq_bool_same _ (.tmp 164) (.tmp 166) rfl kb rfl rfl _) ?_
      simp only [Act.put, List.setIfInBounds_toArray, List.set_cons_zero, List.set_cons_succ]
      refine wpList_valg (v := ?_) (by rfl) ?_ ?_
      rotate_left
      · go_simp
        with_reducible rfl
      simp only [Act.put, List.setIfInBounds_toArray, List.set_cons_zero, List.set_cons_succ]
      refine wpList_skipg (by rfl) ?_
      simp only [Act.put, List.setIfInBounds_toArray, List.set_cons_zero, List.set_cons_succ]
      refine wpList_skipg (by rfl) ?_
      simp only [Act.put, List.setIfInBounds_toArray, List.set_cons_zero, List.set_cons_succ]
      refine wpList_valg (v := ?_) (by rfl) ?_ ?_
      rotate_left
      · go_simp
        with_reducible rfl
      simp only [Act.put, List.setIfInBounds_toArray, List.set_cons_zero, List.set_cons_succ]
      refine wpList_val (v := ?_) (by rfl) ?_ ?_
      rotate_left
      · go_simp
        with_reducible rfl
      simp only [Act.put, List.setIfInBounds_toArray, List.set_cons_zero, List.set_cons_succ]
      go_wp2_with fail
      go_loopw [19] (fun i wr => ∃ j : Nat, j ≤ q ∧ i = .int .i64 (j : Int) ∧ Below w10.heap.size w10 wr) (fun i _ => q - (intOf i).toNat)
      case atStart => exact ⟨0, Nat.zero_le _, rfl, Below.refl _ _⟩
      case round =>
        obtain ⟨i, hi, rfl, hbw⟩ := hrel
        have I := Lib.hid hi
        have BV := Lib.hid hbw
        clear hi hbw
        obtain ⟨wv, rfl⟩ : ∃ wv : World, wv = wr := ⟨_, rfl⟩
        by_cases hlt : i < q
        · have hD2 : decide ((i : Int) < (q : Int)) = true := by simp; omega
          obtain ⟨z, bz, oz, hz, hok, hA, hrz⟩ := (HL.out.keep BV.out).at (show i < zs.length by rw [Q1.out]; exact hlt)
          obtain ⟨z', bm, om, hz', _, hAm, hrm⟩ := (RM.out.keep BV.out).at (show i < zs.length by rw [Q1.out]; exact hlt)
          rw [hz] at hz'
          injection hz' with hz'
          rw [← hz'] at hrm
          have AE := Lib.hid hA
          have AM := Lib.hid hAm
          have IQ := Lib.hid hlt
          have ib : (i : Int) ≤ 7 := by omega
          have ZOKZ := Lib.hid hok
          have RZ := Lib.hid hrz
          have RY := Lib.hid hrm
          have IM := Lib.hid (show (Tryz.prog.info? 63).map (·.size) = some (RowM z).length by rw [RowM_length hok]; exact info_mem)
          clear hz hok hA hrz hlt hz' hAm hrm
          go_upto_region 22 with fail
          have C0 := Lib.hid (show Below wv.heap.size wv wv.drew from (Below.refl _ _).drew)
          refine wp_region_road (fun W => Below wv.heap.size wv W) [(true, 0), (true, 1), (true, 2), (true, 3), (true, 4), (true, 5), (true, 6), (true, 7), (true, 8)] (by kernel_rfl) (by kernel_rfl) (fun _ _ d _ _ h => by cases d <;> exact h) ?_
          simp only [List.filterMap_cons, List.filterMap_nil, List.getElem?_toArray, List.getElem?_cons_zero, List.getElem?_cons_succ, Option.map_some]
          generalize World.drew wv = wd2 at C0 ⊢
          refine planG_q (v := ?_) (by rfl) (C0.out) ?_ ?_
          rotate_left
          · intro W hW
            go_simp
            with_reducible rfl
          simp only [Act.put, List.setIfInBounds_toArray, List.set_cons_zero, List.set_cons_succ]
          refine planG_q (v := ?_) (by rfl) (C0.out) ?_ ?_
          rotate_left
          · intro W hW
            go_simp
            with_reducible rfl
          simp only [Act.put, List.setIfInBounds_toArray, List.set_cons_zero, List.set_cons_succ]
          refine planG_q (by rfl) (C0.out) (fun W hW => run_iaddr_slk 23 (.tmp 179) (.tmp 180) rfl 63 Tryz.underlying23 34 info_mem bm om q cm i IQ.out .i64 _ rfl (by rw [← AM.out]; rfl) rfl W) ?_
          simp only [Act.put, List.setIfInBounds_toArray, List.set_cons_zero, List.set_cons_succ]
          refine planG_q (by rfl) (C0.out) (fun W hW => run_load_range 63 (.tmp 181) rfl bm (om + i * 34) rfl (RowM z) (rangeAt_keep RY.out hW) Tryz.underlying63 rfl IM.out) ?_
          simp only [Act.put, List.setIfInBounds_toArray, List.set_cons_zero, List.set_cons_succ]
          refine planG_q (v := ?_) (by rfl) (C0.out) ?_ ?_
          rotate_left
          · intro W hW
            go_simp
            with_reducible rfl
          simp only [Act.put, List.setIfInBounds_toArray, List.set_cons_zero, List.set_cons_succ]
          refine planG_q (v := ?_) (by rfl) (C0.out) ?_ ?_
          rotate_left
          · intro W hW
            go_simp
            with_reducible rfl
          simp only [Act.put, List.setIfInBounds_toArray, List.set_cons_zero, List.set_cons_succ]
          refine planG_q (by rfl) (C0.out) (fun W hW => run_iaddr_slk 23 (.tmp 183) (.tmp 184) rfl 63 Tryz.underlying23 34 info_mem bz oz q c0 i IQ.out .i64 _ rfl (by rw [← AE.out]; rfl) rfl W) ?_
          simp only [Act.put, List.setIfInBounds_toArray, List.set_cons_zero, List.set_cons_succ]
          refine planG_q (by rfl) (C0.out) (fun W hW => run_load_range 63 (.tmp 185) rfl bz (oz + i * 34) rfl (RowM z) (rangeAt_keep RZ.out hW) Tryz.underlying63 rfl IM.out) ?_
          simp only [Act.put, List.setIfInBounds_toArray, List.set_cons_zero, List.set_cons_succ]
          refine planG_q (by rfl) (C0.out) (fun W hW => run_neq_mem_same _ (.tmp 182) (.tmp 186) rfl z ZOKZ.out rfl rfl W) ?_
          simp only [Act.put, List.setIfInBounds_toArray, List.set_cons_zero, List.set_cons_succ]
          refine planG_nil ?_
          go_wp2_with fail
          go_roundw
          case rel => exact ⟨i + 1, by have := IQ.out; omega, by go_num, BV.out.trans (C0.out.mono BV.out.size)⟩
          case measure => have := IQ.out; simp [intOf]; omega
        · have hD2 : decide ((i : Int) < (q : Int)) = false := by simp; omega
          obtain ⟨X, hX⟩ : ∃ X, X = xs0.flatten ++ d0 := ⟨_, rfl⟩
          have XN := Lib.hid (show X.length = 1109 by rw [hX, List.length_append, FL.out.2, DL.out])
          have B11 := Lib.hid (B10.out.trans (BV.out.mono B10.out.size))
          have RAQ := Lib.hid (below_block B11.out (row_lt RA.out) RA.out)
          have PU := Lib.hid (show Calls Tryz.prog 21 #[.agg ra] wv fun e w' => ∃ u, e = .returned u ∧ OwnB w' wv.heap.size u X ∧ Below wv.heap.size wv w' by
            rw [hX]
            exact put_ring wv (.agg ra) xs0 d0 _ (RG.out.keep B11.out) (by rw [FL.out.1]; omega) (by rw [FL.out.2]; omega) (by rw [DL.out]; omega))
          have BT := Lib.hid (BT.out.trans (B11.out.mono BT.out.size))
          have TB := Lib.hid (show ByteT Tryz.prog from ⟨Tryz.underlying22, by kernel_rfl⟩)
          clear hX
          go_upto_region 24 with fail
          refine wp_region_list ?_
          simp only [List.toList_toArray]
          refine wpList_val (by rfl) (run_load_row 35 (.tmp 9) rfl M7 rfl 35 ra (0, 0) _ RAQ.out Tryz.underlying35 rfl IRA.out) ?_
          simp only [Act.put, List.setIfInBounds_toArray, List.set_cons_zero, List.set_cons_succ]
          refine wpList_op (by rfl) (fun K hK => ?_)
          go_simp
          refine PU.out.mono ?_
          clear PU
          rintro e w12 ⟨u, rfl, ho, hb⟩
          obtain ⟨Au, cu, rfl, hru, _, _, _⟩ := ho.read
          rw [XN.out]
          have RU := Lib.hid hru
          have BT := Lib.hid (BT.out.trans (hb.mono BT.out.size))
          clear ho hb hru
          refine hK.out _ _ ?_
          clear hK K
          go_wp2_with fail
          refine (read_any w12 Au cu X XN.out RU.out).mono ?_
          rintro e w13 ⟨⟨v, rfl, hrg⟩, hb⟩
          obtain ⟨rr, rfl, hsz, hone⟩ := hrg.agg
          have RG2 := Lib.hid hrg
          have RU := Lib.hid (RU.out.keep hb)
          have BT := Lib.hid (BT.out.trans (hb.mono BT.out.size))
          have IRR := Lib.hid (show (Tryz.prog.info? 35).map (·.size) = some rr.size by rw [hsz]; exact info_ring)
          have SZ := Lib.hid hsz
          have ONE := Lib.hid hone
          clear hrg hb hsz hone
          go_upto_region 26 with (refine wpList_store_new rfl rfl 35 (.tmp 21) (.tmp 193) rfl rr rfl rfl IRR.out (by rw [SZ.out]; rfl) ONE.out ?_)
          generalize hMR : Array.size (World.heap w13) = MR
          generalize hw14 : World.alloc w13 _ = w14
          have b14 : Below w13.heap.size w13 w14 := by rw [← hw14]; exact below_new _ _
          have R14 := Lib.hid (show w14.heap[MR]? = some (.cells rr 35 (0, 0)) by rw [← hw14]; exact ha_new _ _ _ hMR.symm)
          have RG2 := Lib.hid (RG2.out.keep b14)
          have RU := Lib.hid (RU.out.keep b14)
          have BT := Lib.hid (BT.out.trans (b14.mono BT.out.size))
          clear hMR hw14 b14
          go_upto_region 26 with fail
          refine wp_region_list ?_
          simp only [List.toList_toArray]
          refine wpList_op (by rfl) (fun K hK => ?_)
          go_simp
          generalize hB : Array.size (World.heap w14) = NB
          generalize hw : World.alloc w14 _ = w15
          obtain ⟨ho15, hb15, _⟩ := made_new hw hB (Below.refl w14.heap.size w14)
          have O := Lib.hid ho15
          have BX := Lib.hid hb15
          clear ho15 hb15 hw hB
          refine hK.out _ _ ?_
          clear hK K
          refine wpList_val (v := ?_) (by rfl) ?_ ?_
          rotate_left
          · go_simp
            with_reducible rfl
          simp only [Act.put, List.setIfInBounds_toArray, List.set_cons_zero, List.set_cons_succ]
          refine app_list rfl TB.out (.tmp 196) (.tmp 197) rfl w14.heap.size _ [] X Au 1109 cu rfl rfl XN.out O.out (RU.out.keep BX.out) BX.out.size (by simp) ?_
          intro v16 w16 ho hg _
          have BX := Lib.hid (BX.out.trans (grown_below hg BX.out.size (fun q e => (O.out.lt q e).1)))
          have O := Lib.hid (show OwnB w16 w14.heap.size v16 X from ho)
          clear ho hg
          obtain ⟨A16, c16, rfl, _, _, _, _⟩ := O.out.read
          rw [XN.out] at O ⊢
          refine wpList_op (by rfl) (fun K hK => ?_)
          go_simp
          generalize hB : Array.size (World.heap w16) = NC2
          generalize hw : World.alloc w16 _ = w17
          obtain ⟨hr17, _, hb17⟩ := built_one (x := 0) hw hB (Below.refl w16.heap.size w16)
          have R17 := Lib.hid hr17
          have O := Lib.hid (O.out.below hb17)
          have BX := Lib.hid (BX.out.trans (hb17.mono BX.out.size))
          clear hr17 hb17 hw hB
          refine hK.out _ _ ?_
          clear hK K
          refine app_list rfl TB.out (.tmp 198) (.tmp 199) rfl w14.heap.size _ X [(0 : UInt8)] _ 1 1 rfl rfl rfl O.out R17.out BX.out.size (by rw [XN.out]; omega) ?_
          intro v18 w18 ho hg _
          have BX := Lib.hid (BX.out.trans (grown_below hg BX.out.size (fun q e => (O.out.lt q e).1)))
          obtain ⟨A18, c18, rfl, _, _, _, _⟩ := ho.read
          have h1110 : (X ++ [(0 : UInt8)]).length = 1110 := by rw [List.length_append, XN.out]; rfl
          rw [h1110]
          clear h1110
          clear ho hg O
          refine wpList_op (by rfl) (fun K hK => ?_)
          go_simp
          refine (read_bad w18 A18 1110 c18 (by omega) (by omega)).mono ?_
          rintro e w19 ⟨rfl, hb⟩
          have BX := Lib.hid (BX.out.trans (hb.mono BX.out.size))
          clear hb
          refine hK.out _ _ ?_
          clear hK K
          go_upto_region 27 with (refine wpList_store_new rfl rfl 35 (.tmp 23) (.tmp 202) rfl RingZ rfl rfl info_ringZ rfl ringZ_one ?_)
          generalize hw20 : World.alloc w19 _ = w20
          have BX := Lib.hid (show Below w14.heap.size w14 w20 by rw [← hw20]; exact BX.out.alloc BX.out.size _)
          clear hw20
          have RG2 := Lib.hid (RG2.out.keep BX.out)
          have RU := Lib.hid (RU.out.keep BX.out)
          have R20 := Lib.hid (below_block BX.out (row_lt R14.out) R14.out)
          have BT := Lib.hid (BT.out.trans (BX.out.mono BT.out.size))
          have XE := Lib.hid (show (readX X 8).flatten ++ X.drop 808 = X from readX_flat X 8)
          have XL := Lib.hid (readX_len X XN.out)
          have PU := Lib.hid (show ∀ W : World, Below w20.heap.size w20 W → Calls Tryz.prog 21 #[.agg rr] W fun e w' => ∃ u, e = .returned u ∧ OwnB w' W.heap.size u X ∧ Below W.heap.size W w' by
            intro W hW
            have h1 := put_ring W (.agg rr) (readX X 8) (X.drop 808) _ (RG2.out.keep hW) (by rw [XL.out.1]; omega) (by rw [XL.out.2.1]; omega) (by rw [XL.out.2.2]; omega)
            rw [XE.out] at h1
            exact h1)
          go_upto_region 27 with fail
          have C0 := Lib.hid (show Below w20.heap.size w20 w20.drew from (Below.refl _ _).drew)
          refine wp_region_road (fun W => Below w20.heap.size w20 W) [(true, 0), (true, 1), (true, 2), (true, 3), (true, 6), (true, 7), (false, 4), (true, 5), (true, 8), (true, 9), (true, 10), (true, 11), (true, 12), (true, 13), (true, 14), (true, 15), (true, 16), (true, 17), (true, 18), (true, 19), (false, 20), (true, 21), (true, 22)] (by kernel_rfl) (by kernel_rfl) (fun _ _ d _ _ h => by cases d <;> exact h) ?_
          simp only [List.filterMap_cons, List.filterMap_nil, List.getElem?_toArray, List.getElem?_cons_zero, List.getElem?_cons_succ, Option.map_some]
          generalize World.drew w20 = wd3 at C0 ⊢
          refine planG_q (v := ?_) (by rfl) (C0.out) ?_ ?_
          rotate_left
          · intro W hW
            go_simp
            with_reducible rfl
          simp only [Act.put, List.setIfInBounds_toArray, List.set_cons_zero, List.set_cons_succ]
          refine planG_q (v := ?_) (by rfl) (C0.out) ?_ ?_
          rotate_left
          · intro W hW
            go_simp
            with_reducible rfl
          simp only [Act.put, List.setIfInBounds_toArray, List.set_cons_zero, List.set_cons_succ]
          refine planG_q (v := ?_) (by rfl) (C0.out) ?_ ?_
          rotate_left
          · intro W hW
            go_simp
            with_reducible rfl
          simp only [Act.put, List.setIfInBounds_toArray, List.set_cons_zero, List.set_cons_succ]
          refine planG_q (by rfl) (C0.out) (fun W hW => run_load_row 35 (.tmp 21) rfl MR rfl 35 rr (0, 0) _ (below_block hW (row_lt R20.out) R20.out) Tryz.underlying35 rfl IRR.out) ?_
          simp only [Act.put, List.setIfInBounds_toArray, List.set_cons_zero, List.set_cons_succ]
          refine planG_q (v := ?_) (by rfl) (C0.out) ?_ ?_
          rotate_left
          · intro W hW
            go_simp
            with_reducible rfl
          simp only [Act.put, List.setIfInBounds_toArray, List.set_cons_zero, List.set_cons_succ]
          refine planG_q (by rfl) (C0.out) (fun W hW => run_str 22 9 (.tmp 210) rfl Tryz.underlying22 Tryz.underlying5 Tryz.underlying9 (RU.out.keep hW) 1109 cu XN.out rfl) ?_
          simp only [Act.put, List.setIfInBounds_toArray, List.set_cons_zero, List.set_cons_succ]
          refine planG_t (by rfl) (fun K hK => ?_)
          go_simp
          refine (PU.out wd3 C0.out).mono ?_
          rintro e w21 ⟨u, rfl, ho, hb⟩
          obtain ⟨Aw, cw, rfl, hrw, _, _, _⟩ := ho.read
          rw [XN.out]
          have RW := Lib.hid hrw
          have C3 := Lib.hid (C0.out.trans (hb.mono C0.out.size))
          clear ho hb hrw
          refine hK.out _ _ (C3.out) ?_
          clear hK K
          refine planG_sw (fun W => Below w21.heap.size w21 W) (fun W hW => C3.out.trans (hW.mono C3.out.size)) ?_
          have D3 := Lib.hid (Below.refl w21.heap.size w21)
          refine planG_q (by rfl) (D3.out) (fun W hW => run_str 22 9 (.tmp 208) rfl Tryz.underlying22 Tryz.underlying5 Tryz.underlying9 (RW.out.keep hW) 1109 cw XN.out rfl) ?_
          simp only [Act.put, List.setIfInBounds_toArray, List.set_cons_zero, List.set_cons_succ]
          refine planG_q (by rfl) (D3.out) (fun W hW => run_eqstr_true 9 _ (.tmp 209) (.tmp 211) rfl X X rfl rfl rfl W) ?_
          simp only [Act.put, List.setIfInBounds_toArray, List.set_cons_zero, List.set_cons_succ]
          refine planG_q (v := ?_) (by rfl) (D3.out) ?_ ?_
          rotate_left
          · intro W hW
            go_simp
            with_reducible rfl
          simp only [Act.put, List.setIfInBounds_toArray, List.set_cons_zero, List.set_cons_succ]
          refine planG_q (v := ?_) (by rfl) (D3.out) ?_ ?_
          rotate_left
          · intro W hW
            go_simp
            with_reducible rfl
          simp only [Act.put, List.setIfInBounds_toArray, List.set_cons_zero, List.set_cons_succ]
          refine planG_q (v := ?_) (by rfl) (D3.out) ?_ ?_
          rotate_left
          · intro W hW
            go_simp
            with_reducible rfl
          simp only [Act.put, List.setIfInBounds_toArray, List.set_cons_zero, List.set_cons_succ]
          refine planG_q (v := ?_) (by rfl) (D3.out) ?_ ?_
          rotate_left
          · intro W hW
            go_simp
            with_reducible rfl
          simp only [Act.put, List.setIfInBounds_toArray, List.set_cons_zero, List.set_cons_succ]
          refine planG_q (v := ?_) (by rfl) (D3.out) ?_ ?_
          rotate_left
          · intro W hW
            go_simp
            with_reducible rfl
          simp only [Act.put, List.setIfInBounds_toArray, List.set_cons_zero, List.set_cons_succ]
          refine planG_q (v := ?_) (by rfl) (D3.out) ?_ ?_
          rotate_left
          · intro W hW
            go_simp
            with_reducible rfl
          simp only [Act.put, List.setIfInBounds_toArray, List.set_cons_zero, List.set_cons_succ]
          refine planG_q (v := ?_) (by rfl) (D3.out) ?_ ?_
          rotate_left
          · intro W hW
            go_simp
            with_reducible rfl
          simp only [Act.put, List.setIfInBounds_toArray, List.set_cons_zero, List.set_cons_succ]
          refine planG_q (v := ?_) (by rfl) (D3.out) ?_ ?_
          rotate_left
          · intro W hW
            go_simp
            with_reducible rfl
          simp only [Act.put, List.setIfInBounds_toArray, List.set_cons_zero, List.set_cons_succ]
          refine planG_q (v := ?_) (by rfl) (D3.out) ?_ ?_
          rotate_left
          · intro W hW
            go_simp
            with_reducible rfl
          simp only [Act.put, List.setIfInBounds_toArray, List.set_cons_zero, List.set_cons_succ]
          refine planG_q (v := ?_) (by rfl) (D3.out) ?_ ?_
          rotate_left
          · intro W hW
            go_simp
            with_reducible rfl
          simp only [Act.put, List.setIfInBounds_toArray, List.set_cons_zero, List.set_cons_succ]
          refine planG_q (v := ?_) (by rfl) (D3.out) ?_ ?_
          rotate_left
          · intro W hW
            go_simp
            with_reducible rfl
          simp only [Act.put, List.setIfInBounds_toArray, List.set_cons_zero, List.set_cons_succ]
          refine planG_t (by rfl) (fun K hK => ?_)
          go_simp
          refine (one_true w21).mono ?_
          rintro e wf ⟨rfl, hb⟩
          have BF := Lib.hid (show Below w.heap.size w wf from BT.out.trans ((C3.out.trans (hb.mono C3.out.size)).mono BT.out.size))
          have D6 := Lib.hid hb
          clear hb
          refine hK.out _ _ (D6.out) ?_
          clear hK K
          refine planG_q (v := ?_) (by rfl) (D6.out) ?_ ?_
          rotate_left
          · intro W hW
            go_simp
            with_reducible rfl
          simp only [Act.put, List.setIfInBounds_toArray, List.set_cons_zero, List.set_cons_succ]
          refine planG_q (v := ?_) (by rfl) (D6.out) ?_ ?_
          rotate_left
          · intro W hW
            go_simp
            with_reducible rfl
          simp only [Act.put, List.setIfInBounds_toArray, List.set_cons_zero, List.set_cons_succ]
          refine planG_nil ?_
          go_wp2_with fail
          go_ret
          exact ⟨rfl, BF.out⟩
end Go.Proofs.YtlocplkjokoknaaGreat

/- How a law's arguments are opened: bytes behind a slice, an array of bytes by value, a number. No condition. -/
namespace Go.Proofs.YtlocplkjokoknaaGreat
set_option linter.unusedVariables false
set_option linter.unusedSimpArgs false
open Go.RowKit Go.ChangeShapes Go.WideShapes

theorem list_of_array {α : Type} (a : Array α) : a = a.toList.toArray := by simp
theorem bounds_i64 {z : Int} (h : (Lit.int .i64 z).wf = true) : -9223372036854775808 ≤ z ∧ z ≤ 9223372036854775807 := by
  simp only [Lit.wf, IntKind.min, IntKind.max, IntKind.signed, IntKind.bits, Bool.and_eq_true, decide_eq_true_eq, if_true] at h
  omega
theorem wf_u8_nat {z : Int} (h : (Lit.int .u8 z).wf = true) : ∃ x : UInt8, z = (x.toNat : Int) := by
  have hb := bounds_u8 h
  refine ⟨UInt8.ofNat z.toNat, ?_⟩
  simp
  omega
theorem wf_u32_nat {z : Int} (h : (Lit.int .u32 z).wf = true) : ∃ x : UInt32, z = (x.toNat : Int) := by
  have hb := bounds_u32 h
  refine ⟨UInt32.ofNat z.toNat, ?_⟩
  simp
  omega
theorem wf_u64_nat {z : Int} (h : (Lit.int .u64 z).wf = true) : ∃ x : UInt64, z = (x.toNat : Int) := by
  have hb := bounds_u64 h
  refine ⟨UInt64.ofNat z.toNat, ?_⟩
  simp
  omega
theorem list_u8 : ∀ (zs : List Int), (∀ z ∈ zs, (Lit.int .u8 z).wf = true) → ∃ l : List UInt8, zs = l.map fun x => (x.toNat : Int)
  | [], _ => ⟨[], rfl⟩
  | z :: r, h => by
    obtain ⟨x, hx⟩ := wf_u8_nat (h z (by simp))
    obtain ⟨l, hl⟩ := list_u8 r (fun y hy => h y (by simp [hy]))
    exact ⟨x :: l, by rw [hx, hl]; rfl⟩

section
variable {H : Type} {enc : TypeId × Value → H} {P : Program} {W : World} {b0 : Nat} {sp : Nat → Bool} {held : Bool}
theorem okWide_slice_lt {t e : TypeId} {r : Reach} {base : Nat} {x : Addr} {n c : Nat} (ht : P.underlying t = some (.slice e)) (hv : Value.okWide P W r base t (.slice (some x) n c)) : x.block < W.heap.size := by
  simp only [Value.okWide, ht, Cell.okWide, Cell.ok] at hv
  obtain ⟨_, _, _, _, row, cells, hs, _⟩ := hv
  unfold World.shape? at hs
  rcases Nat.lt_or_ge x.block W.heap.size with h | h
  · exact h
  · rw [Array.getElem?_eq_none h] at hs
    simp at hs
/-- []byte. -/
theorem open_bytes {t e : TypeId} {r : Reach} {base : Nat} {v : Value} {d : DataW H} {p : List MemPlace} (ht : P.underlying t = some (.slice e)) (he : P.underlying e = some (.int .u8)) (hc : P.cellsOf e = 1)
    (hv : Value.okWide P W r base t v) (h : DataW.Trod enc P W b0 sp held t v d p) :
    ∃ A c l, v = .slice A (List.length l) c ∧ RdB W A l ∧ l.length ≤ c ∧ c ≤ 9223372036854775807 ∧ (∀ a, A = some a → a.block < W.heap.size) := by
  obtain ⟨a, len, cap, rfl⟩ := okWide_slice ht hv
  obtain ⟨fuel, hf⟩ := h
  rcases open_ints ht he hc hf with ⟨hcs, _⟩ | ⟨x, l, c, zs, hcs, _, hl, hm, hz, _, hcell, hwz⟩
  · simp [Value.cells] at hcs
    obtain ⟨rfl, rfl, rfl⟩ := hcs
    exact ⟨none, 0, [], rfl, RdB.nil _ _, by simp, by simp, fun a e => by cases e⟩
  · simp [Value.cells] at hcs
    obtain ⟨rfl, rfl, rfl⟩ := hcs
    obtain ⟨l, hl'⟩ := list_u8 (zs.take len) (fun z hzz => hwz z (List.mem_of_mem_take hzz))
    have hlen : len ≤ zs.length := by
      rw [hz]; split
      · exact hl
      · exact Nat.le_refl _
    have hll : l.length = len := by
      have : (zs.take len).length = l.length := by rw [hl']; simp
      rw [List.length_take] at this
      omega
    rcases Nat.eq_zero_or_pos len with h0 | h0
    · obtain rfl : l = [] := List.eq_nil_of_length_eq_zero (by omega)
      subst h0
      by_cases hzl : 0 < zs.length
      · refine ⟨some x, cap, [], rfl, RdB.nil _ _, by simp, by simpa [maxLen] using hm, fun a e => ?_⟩
        cases e
        have := World.block_lt_of_cell? W _ (hcell 0 hzl)
        simpa [Addr.add] using this
      · refine ⟨some x, cap, [], rfl, RdB.nil _ _, by simp, by simpa [maxLen] using hm, fun a e => ?_⟩
        cases e
        exact okWide_slice_lt ht hv
    · have hx : x.spot = none := by
        have := hcell 0 (by omega)
        unfold World.cell? at this
        by_cases hs : x.spot = none
        · exact hs
        · exfalso
          have h1 : ((x.add 0).spot.isSome) = true := by
            simp [Addr.add]
            cases hsp : x.spot with
            | none => exact absurd hsp hs
            | some _ => rfl
          rw [h1] at this
          split at this <;> simp at this
      obtain ⟨bb, oo, ss⟩ := x
      simp at hx
      subst hx
      refine ⟨some ⟨bb, oo, none⟩, cap, l, by rw [hll], fun j hj => ⟨bb, oo, rfl, ?_⟩, by omega, by simpa [maxLen] using hm, fun a e => ?_⟩
      · have := hcell j (by omega)
        rw [add_at] at this
        rw [this]
        congr 2
        have h3 : zs.getD j 0 = (zs.take len).getD j 0 := by
          rw [List.getD_eq_getElem?_getD, List.getD_eq_getElem?_getD, List.getElem?_take, if_pos (by omega)]
        rw [h3, hl', List.getD_eq_getElem?_getD, List.getD_eq_getElem?_getD, List.getElem?_map, List.getElem?_eq_getElem hj]
        rfl
      · cases e
        have := World.block_lt_of_cell? W _ (hcell 0 (by omega))
        simpa [Addr.add] using this
/-- [n]byte, by value. -/
theorem open_barr {t e n : Nat} {r : Reach} {base : Nat} {v : Value} {d : DataW H} {p : List MemPlace} (ht : P.underlying t = some (.array n e)) (he : P.underlying e = some (.int .u8)) (hc : P.cellsOf e = 1) (hct : P.cellsOf t = n)
    (hv : Value.okWide P W r base t v) (h : DataW.Trod enc P W b0 sp held t v d p) : ∃ l : List UInt8, l.length = n ∧ v = .agg (W8 l) := by
  simp only [Value.okWide, ht] at hv
  obtain ⟨cs, rfl, h2, _⟩ := hv
  obtain ⟨fuel, hf⟩ := h
  obtain ⟨xs, m, _, _, _, hxl, hel⟩ := DataW.trod_array ht hf
  have hcs : (Value.agg cs).cells = cs := rfl
  rw [hcs] at hel
  have key : ∀ i, i < n → ∃ x : UInt8, cs.toList[i]? = some (.int .u8 (x.toNat : Int)) := by
    intro i hi
    have := hel i hi
    rw [hc, Nat.mul_one, List.getElem?_eq_getElem (show i < xs.length by omega)] at this
    obtain ⟨z, hz, _, hw⟩ := DataW.trod_int he this
    obtain ⟨x, hx⟩ := wf_u8_nat hw
    refine ⟨x, ?_⟩
    rw [← hx]
    have h3 : (cs.toList.drop i).take 1 = [.int .u8 z] := hz
    have h4 : ((cs.toList.drop i).take 1)[0]? = some (.int .u8 z) := by rw [h3]; rfl
    simpa [List.getElem?_take, List.getElem?_drop] using h4
  refine ⟨cs.toList.map fun v => match v with | .int _ z => UInt8.ofNat z.toNat | _ => 0, by simp [h2, hct], ?_⟩
  rw [W8, List.map_map]
  congr 1
  conv => lhs; rw [list_of_array cs]
  congr 1
  apply List.ext_getElem?
  intro i
  rw [List.getElem?_map]
  by_cases hi : i < n
  · obtain ⟨x, hx⟩ := key i hi
    rw [hx]
    simp
  · rw [List.getElem?_eq_none (by simp [h2, hct]; omega)]
    rfl
end
end Go.Proofs.YtlocplkjokoknaaGreat

/- Openers of arguments: rows of integers. No condition. -/
namespace Go.Proofs.YtlocplkjokoknaaGreat
set_option linter.unusedVariables false
set_option linter.unusedSimpArgs false
open Go.ChangeShapes Go.WideShapes Go.ChangeAt Go.RowKit
section
variable {H : Type} {enc : TypeId × Value → H} {P : Program} {W : World} {b0 : Nat} {sp : Nat → Bool} {held : Bool}
/-- []int and the like. -/
theorem open_islice {t e : TypeId} {k : IntKind} {r : Reach} {base : Nat} {v : Value} {d : DataW H} {p : List MemPlace} (ht : P.underlying t = some (.slice e)) (he : P.underlying e = some (.int k)) (hc : P.cellsOf e = 1)
    (hv : Value.okWide P W r base t v) (h : DataW.Trod enc P W b0 sp held t v d p) :
    ∃ A c zs, v = .slice A (List.length zs) c ∧ RdV W A (zs.map (Value.int k)) ∧ zs.length ≤ c ∧ c ≤ 9223372036854775807 ∧ (∀ a, A = some a → a.block < W.heap.size) ∧ (∀ z ∈ zs, (Lit.int k z).wf = true) := by
  obtain ⟨a, len, cap, rfl⟩ := okWide_slice ht hv
  obtain ⟨fuel, hf⟩ := h
  rcases open_ints ht he hc hf with ⟨hcs, _⟩ | ⟨x, l, c, zs, hcs, _, hl, hm, hz, _, hcell, hwz⟩
  · simp [Value.cells] at hcs
    obtain ⟨rfl, rfl, rfl⟩ := hcs
    exact ⟨none, 0, [], rfl, RdV.nil _ _, by simp, by simp, (fun a e => by cases e), (fun z hz => by cases hz)⟩
  · simp [Value.cells] at hcs
    obtain ⟨rfl, rfl, rfl⟩ := hcs
    have hlen : len ≤ zs.length := by
      rw [hz]; split
      · exact hl
      · exact Nat.le_refl _
    have hll : (zs.take len).length = len := by rw [List.length_take]; omega
    refine ⟨some x, cap, zs.take len, by rw [hll], ?_, by omega, by simpa [maxLen] using hm, fun a e => ?_, fun z hzz => hwz z (List.mem_of_mem_take hzz)⟩
    · intro j u hj
      have h1 : j < (zs.take len).length := by
        have := (List.getElem?_eq_some_iff.1 hj).1
        simpa using this
      have hx : x.spot = none := by
        have := hcell 0 (by omega)
        unfold World.cell? at this
        by_cases hs : x.spot = none
        · exact hs
        · exfalso
          have h1 : ((x.add 0).spot.isSome) = true := by
            simp [Addr.add]
            cases hsp : x.spot with
            | none => exact absurd hsp hs
            | some _ => rfl
          rw [h1] at this
          split at this <;> simp at this
      obtain ⟨bb, oo, ss⟩ := x
      simp at hx
      subst hx
      refine ⟨bb, oo, rfl, ?_⟩
      have := hcell j (by omega)
      rw [add_at] at this
      rw [this, ← hj, List.getElem?_map, List.getElem?_take, if_pos (by omega), List.getElem?_eq_getElem (by omega), List.getD_eq_getElem?_getD, List.getElem?_eq_getElem (by omega)]
      rfl
    · cases e
      exact okWide_slice_lt ht hv
theorem spot_none {w : World} {a : Addr} {v : Value} (h : w.cell? a = some v) : a.spot = none := by
  unfold World.cell? at h
  cases hs : a.spot with
  | none => rfl
  | some x =>
    exfalso
    have h1 : (a.spot.isSome) = true := by rw [hs]; rfl
    rw [h1] at h
    split at h <;> simp at h
theorem spot_none_zero {w : World} {a : Addr} {v : Value} (h : w.cell? (a.add 0) = some v) : a.spot = none := by
  have h1 : a.add 0 = a := by unfold Addr.add; simp
  rw [h1] at h
  exact spot_none h
/-- [][]byte. -/
theorem open_bytess {t e q : TypeId} {r : Reach} {base : Nat} {v : Value} {d : DataW H} {p : List MemPlace} (ht : P.underlying t = some (.slice e)) (he : P.underlying e = some (.slice q)) (hq : P.underlying q = some (.int .u8)) (ce : P.cellsOf e = 1) (cq : P.cellsOf q = 1)
    (hv : Value.okWide P W r base t v) (h : DataW.Trod enc P W b0 (fun _ => true) held t v d p) :
    ∃ A c vs ls, v = .slice A (List.length vs) c ∧ RdV W A vs ∧ vs.length ≤ c ∧ c ≤ 9223372036854775807 ∧ All2 (SlB W) vs ls ∧ ls.length = vs.length ∧ ∀ l ∈ ls, l.length ≤ 9223372036854775807 := by
  obtain ⟨a, len, cap, rfl⟩ := okWide_slice ht hv
  obtain ⟨fuel, hf⟩ := h
  rcases Go.Deep.open_int_rows ht he hq ce cq hf with ⟨hcs, _⟩ | ⟨x, l, c, A, L, C, Z, hcs, _, hl, hm, _, hrow⟩
  · simp [Value.cells] at hcs
    obtain ⟨rfl, rfl, rfl⟩ := hcs
    exact ⟨none, 0, [], [], rfl, RdV.nil _ _, by simp, by simp, .nil, rfl, by simp⟩
  · simp [Value.cells] at hcs
    obtain ⟨rfl, rfl, rfl⟩ := hcs
    have key : ∀ m, m ≤ len → ∃ ls : List (List UInt8), ls.length = m ∧ All2 (SlB W) ((List.range m).map fun r => Value.slice (A r) (L r) (C r)) ls ∧ ∀ l ∈ ls, l.length ≤ 9223372036854775807 := by
      intro m
      induction m with
      | zero => intro _; exact ⟨[], rfl, .nil, by simp⟩
      | succ m ih =>
        intro hm'
        obtain ⟨ls, hls, hall, hmx⟩ := ih (by omega)
        obtain ⟨hcell, hLC, hCm, hZl, hwf, hnone, hsome⟩ := hrow m (by omega)
        obtain ⟨bs, hbs⟩ := list_u8 ((Z m).take (L m)) (fun z hz => hwf z (List.mem_of_mem_take hz))
        have hbl : bs.length = L m := by
          have : ((Z m).take (L m)).length = bs.length := by rw [hbs]; simp
          rw [List.length_take] at this
          omega
        refine ⟨ls ++ [bs], by simp [hls], ?_, fun l hl => ?_⟩
        rotate_left
        · rcases List.mem_append.1 hl with h | h
          · exact hmx l h
          · obtain rfl : l = bs := by simpa using h
            have : maxLen = 9223372036854775807 := rfl
            omega
        rw [List.range_succ, List.map_append]
        refine hall.snoc ⟨A m, C m, by rw [hbl], by omega, fun j hj => ?_⟩
        rcases hA : A m with _ | a'
        · have := hnone hA; omega
        · obtain ⟨_, hc⟩ := hsome a' hA
          have h1 := hc j (by omega)
          have hs := spot_none_zero (hc 0 (by omega))
          obtain ⟨bb, oo, ss⟩ := a'
          simp at hs
          subst hs
          refine ⟨bb, oo, rfl, ?_⟩
          rw [add_at] at h1
          rw [h1]
          congr 2
          have h3 : (Z m).getD j 0 = ((Z m).take (L m)).getD j 0 := by
            rw [List.getD_eq_getElem?_getD, List.getD_eq_getElem?_getD, List.getElem?_take, if_pos (by omega)]
          rw [h3, hbs, List.getD_eq_getElem?_getD, List.getD_eq_getElem?_getD, List.getElem?_map, List.getElem?_eq_getElem hj]
          rfl
    obtain ⟨ls, hls, hall, hmx⟩ := key len (Nat.le_refl _)
    refine ⟨some x, cap, (List.range len).map fun r => Value.slice (A r) (L r) (C r), ls, by simp, ?_, by simpa using hl, by simpa [maxLen] using hm, hall, by simp [hls], hmx⟩
    intro j v hj
    have hjl : j < len := by
      have := (List.getElem?_eq_some_iff.1 hj).1
      simpa using this
    obtain ⟨hcell, _⟩ := hrow j (by omega)
    have hs := spot_none_zero (hrow 0 (by omega)).1
    obtain ⟨bb, oo, ss⟩ := x
    simp at hs
    subst hs
    rw [List.getElem?_map, List.getElem?_range hjl] at hj
    simp at hj
    subst hj
    refine ⟨bb, oo, rfl, ?_⟩
    rw [add_at] at hcell
    exact hcell
theorem lits_length {k : IntKind} (zs : List Int) : (lits (H := H) k zs).length = zs.length := by simp [lits]
/-- How long a text that came in is at most. -/
theorem len_bytes {t e : TypeId} {k : IntKind} {d : DataW H} {p : List MemPlace} {A : Option Addr} {n c : Nat} (ht : P.underlying t = some (.slice e)) (he : P.underlying e = some (.int k)) (hc : P.cellsOf e = 1) (hbo : 0 < P.bytesOf e)
    (h : DataW.Trod enc P W b0 sp held t (.slice A n c) d p) (hw : ∀ el s, d = .slice el s → (el.length + s.length) * P.bytesOf e ≤ reachBytes) : n ≤ 140737488351232 := by
  obtain ⟨fuel, hf⟩ := h
  rcases open_ints ht he hc hf with ⟨hcs, _⟩ | ⟨x, l, c, zs, hcs, _, hl, hm, hz, hx, _, _⟩
  · simp [Value.cells] at hcs
    omega
  · simp [Value.cells] at hcs
    obtain ⟨rfl, rfl, rfl⟩ := hcs
    have h1 := hw _ _ (congrArg Prod.fst hx)
    rw [lits_length, lits_length] at h1
    have h2 : (List.take n zs).length + (List.drop n zs).length = zs.length := by simp; omega
    have h3 : n ≤ zs.length := by
      rw [hz]; split
      · exact hl
      · exact Nat.le_refl _
    rw [h2] at h1
    have h4 : zs.length ≤ zs.length * P.bytesOf e := Nat.le_mul_of_pos_right _ hbo
    unfold reachBytes at h1
    omega
/-- .. and how many texts. -/
theorem len_bytess {t e q : TypeId} {d : DataW H} {p : List MemPlace} {A : Option Addr} {n c : Nat} (ht : P.underlying t = some (.slice e)) (he : P.underlying e = some (.slice q)) (hq : P.underlying q = some (.int .u8)) (ce : P.cellsOf e = 1) (cq : P.cellsOf q = 1) (hbo : 0 < P.bytesOf e)
    (h : DataW.Trod enc P W b0 (fun _ => true) held t (.slice A n c) d p) (hw : ∀ el s, d = .slice el s → (el.length + s.length) * P.bytesOf e ≤ reachBytes) : n ≤ 140737488351232 := by
  obtain ⟨fuel, hf⟩ := h
  rcases Go.Deep.open_int_rows ht he hq ce cq hf with ⟨hcs, _⟩ | ⟨x, l, c, A', L, C, Z, hcs, _, hl, hm, hx, _⟩
  · simp [Value.cells] at hcs
    omega
  · simp [Value.cells] at hcs
    obtain ⟨rfl, rfl, rfl⟩ := hcs
    have h1 := hw _ _ (congrArg Prod.fst hx)
    rw [List.length_map, List.length_map, List.length_range, List.length_range] at h1
    have h2 : n + (c - n) = c := by omega
    rw [h2] at h1
    have h4 : c ≤ c * P.bytesOf e := Nat.le_mul_of_pos_right _ hbo
    unfold reachBytes at h1
    omega
end
end Go.Proofs.YtlocplkjokoknaaGreat

/- Openers of arguments: rows of structs of a whole number, a key of 32 bytes, and yes or no. No condition. -/
namespace Go.Proofs.YtlocplkjokoknaaGreat
set_option linter.unusedVariables false
set_option linter.unusedSimpArgs false
open Go.ChangeShapes Go.WideShapes Go.ChangeAt Go.RowKit Go.Deep
section
variable {H : Type} {enc : TypeId × Value → H} {P : Program} {W : World} {b0 : Nat} {sp : Nat → Bool} {held : Bool}
/-- An array of bytes in cells. -/
theorem trod_bytes {t e n fuel : Nat} {cs : List Value} {x : DataW H × List MemPlace} (ht : P.underlying t = some (.array n e)) (he : P.underlying e = some (.int .u8)) (hc : P.cellsOf e = 1) (hl : cs.length = n)
    (h : DataW.trod enc P W b0 sp held fuel t cs = some x) : ∃ l : List UInt8, l.length = n ∧ cs = B8 l := by
  obtain ⟨xs, m, _, _, _, hxl, hel⟩ := DataW.trod_array ht h
  have key : ∀ i, i < n → ∃ x : UInt8, cs[i]? = some (.int .u8 (x.toNat : Int)) := by
    intro i hi
    have := hel i hi
    rw [hc, Nat.mul_one, List.getElem?_eq_getElem (show i < xs.length by omega)] at this
    obtain ⟨z, hz, _, hw⟩ := DataW.trod_int he this
    obtain ⟨x, hx⟩ := wf_u8_nat hw
    refine ⟨x, ?_⟩
    rw [← hx]
    have h3 : (cs.drop i).take 1 = [.int .u8 z] := hz
    have h4 : ((cs.drop i).take 1)[0]? = some (.int .u8 z) := by rw [h3]; rfl
    simpa [List.getElem?_take, List.getElem?_drop] using h4
  refine ⟨cs.map fun v => match v with | .int _ z => UInt8.ofNat z.toNat | _ => 0, by simp [hl], ?_⟩
  apply List.ext_getElem?
  intro i
  rcases Nat.lt_or_ge i n with hi | hi
  · obtain ⟨x, hx⟩ := key i hi
    rw [hx, B8, List.getElem?_map, List.getElem?_map, hx]
    simp
  · rw [List.getElem?_eq_none (by omega), List.getElem?_eq_none (by simp [B8]; omega)]
theorem open_mems {t e eb : TypeId} {f0 f1 f2 : Field} {r : Reach} {base : Nat} {v : Value} {d : DataW H} {p : List MemPlace} (ht : P.underlying t = some (.slice e)) (he : P.underlying e = some (.struct #[f0, f1, f2])) (ce : P.cellsOf e = 34)
    (ho : f0.offset = 0 ∧ f1.offset = 1 ∧ f2.offset = 33) (hc : P.cellsOf f0.type = 1 ∧ P.cellsOf f1.type = 32 ∧ P.cellsOf f2.type = 1)
    (h0 : P.underlying f0.type = some (.int .i64)) (h1 : P.underlying f1.type = some (.array 32 eb)) (h2 : P.underlying f2.type = some .bool) (hb : P.underlying eb = some (.int .u8)) (hcb : P.cellsOf eb = 1)
    (hv : Value.okWide P W r base t v) (h : DataW.Trod enc P W b0 sp held t v d p) :
    ∃ A c zs, v = .slice A (List.length zs) c ∧ RdM W A zs ∧ zs.length ≤ c ∧ (zs ≠ [] → ∀ a, A = some a → a.block < W.heap.size) := by
  obtain ⟨a, len, cap, rfl⟩ := okWide_slice ht hv
  obtain ⟨fuel, hf⟩ := h
  rcases Go.Deep.open_slice ht hf with ⟨hcs, _⟩ | ⟨x, l, c, m, n, D, Pl, hcs, _, hl, hm, hmm, _, hrow⟩
  · simp [Value.cells] at hcs
    obtain ⟨rfl, rfl, rfl⟩ := hcs
    exact ⟨none, 0, [], rfl, RdM.nil _ _, by simp, fun hh => absurd rfl hh⟩
  · simp [Value.cells] at hcs
    obtain ⟨rfl, rfl, rfl⟩ := hcs
    have hlm : len ≤ m := by rw [hmm]; split <;> omega
    obtain ⟨o0, o1, o2⟩ := ho
    obtain ⟨c0, c1, c2⟩ := hc
    have hx : 0 < len → x.spot = none := by
      intro h0
      obtain ⟨cs', g1, _⟩ := hrow 0 (by omega)
      rw [ce] at g1
      obtain ⟨_, hlen, hcell⟩ := World.cells?_some g1
      have e0 := hcell 0 (by omega)
      rw [Nat.zero_mul] at e0
      have ea : (x.add 0).add 0 = x := by unfold Addr.add; simp
      rw [ea, List.getElem?_eq_getElem (by omega)] at e0
      exact spot_none e0
    have each : ∀ i, i < len → ∃ z : Mem, OkM z ∧ ∃ b o, some x = some (⟨b, o, none⟩ : Addr) ∧ W.rangeAt b (o + i * 34) (RowM z) := by
      intro i hi
      obtain ⟨cs', g1, g2⟩ := hrow i (by omega)
      rw [ce] at g1
      obtain ⟨_, hlen, hcell⟩ := World.cells?_some g1
      obtain ⟨xs, k, hk, hxy, _, hxl, hfl⟩ := DataW.trod_struct he g2
      match xs, hxl with
      | [y0, y1, y2], _ =>
        have t0 := hfl 0 f0 rfl
        have t1 := hfl 1 f1 rfl
        have t2 := hfl 2 f2 rfl
        simp [o0, o1, o2, c0, c1, c2] at t0 t1 t2
        obtain ⟨z0, hz0, _, w0⟩ := DataW.trod_int h0 t0
        obtain ⟨kk, hkl, hkk⟩ := trod_bytes h1 hb hcb (by simp; omega) t1
        obtain ⟨q2, hq2, _⟩ := DataW.trod_bool h2 t2
        have hs := hx (by omega)
        obtain ⟨bb, oo, ss⟩ := x
        simp only at hs
        subst hs
        have hrowM : cs' = RowM ⟨z0, kk, q2⟩ := by
          have e1 : cs' = cs'.take 1 ++ ((cs'.drop 1).take 32 ++ (cs'.drop 33).take 1) := by
            have e3 : (cs'.drop 33).take 1 = cs'.drop 33 := List.take_of_length_le (by simp; omega)
            have e4 : cs'.drop 1 = (cs'.drop 1).take 32 ++ (cs'.drop 1).drop 32 := (List.take_append_drop 32 _).symm
            rw [e3, show cs'.drop 33 = (cs'.drop 1).drop 32 by rw [List.drop_drop], ← e4, List.take_append_drop]
          rw [e1, hz0, List.drop_one, hkk, hq2]
          rfl
        refine ⟨⟨z0, kk, q2⟩, ⟨hkl, bounds_i64 w0⟩, bb, oo, rfl, fun j v hj => ?_⟩
        rw [← hrowM] at hj
        have hcj := hcell j (by rw [← hlen]; exact (List.getElem?_eq_some_iff.1 hj).1)
        rw [add_at, add_at] at hcj
        rw [hcj, ← hj]
    have key : ∀ q, q ≤ len → ∃ zs : List Mem, zs.length = q ∧ RdM W (some x) zs := by
      intro q
      induction q with
      | zero => intro _; exact ⟨[], rfl, RdM.nil _ _⟩
      | succ q ih =>
        intro hq
        obtain ⟨zs, hzs, hrd⟩ := ih (by omega)
        obtain ⟨z, hz⟩ := each q (by omega)
        refine ⟨zs ++ [z], by simp [hzs], fun j y hj => ?_⟩
        by_cases hlt : j < zs.length
        · rw [List.getElem?_append_left hlt] at hj
          exact hrd j y hj
        · have hj2 : j = q := by
            have := (List.getElem?_eq_some_iff.1 hj).1
            simp at this
            omega
          subst hj2
          rw [List.getElem?_append_right (by omega), hzs] at hj
          simp at hj
          subst hj
          exact hz
    obtain ⟨zs, hzs, hrd⟩ := key len (Nat.le_refl _)
    refine ⟨some x, cap, zs, by rw [hzs], hrd, by rw [hzs]; exact hl, fun hne a ha => ?_⟩
    obtain ⟨z, hz⟩ : ∃ z, zs[0]? = some z := by
      cases zs with
      | nil => exact absurd rfl hne
      | cons z l => exact ⟨z, rfl⟩
    obtain ⟨_, b, o, e, hr⟩ := hrd 0 z hz
    have h3 := World.block_lt_of_cell? W _ (hr 0 _ rfl)
    rw [ha] at e
    cases e
    exact h3
end
end Go.Proofs.YtlocplkjokoknaaGreat
