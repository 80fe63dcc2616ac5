/- The law KdfMacs, walked. -/
import Derived.Test.YtimdlnamicgdnaaWalkKdfEquals
import Derived.Test.YtimdlnamicgdnaaRefKdf
import Derived.Test.YtimdlnamicgdnaaKdfText
import Derived.Test.YtimdlnamicgdnaaEqArr
namespace Go.Proofs.Ytimdlnamicgdnaa
set_option linter.unusedVariables false
set_option linter.unusedSimpArgs false
open Go.RowKit
attribute [local go_sem ↓] Go.wp_at_zero Go.wp_at_succ

set_option maxRecDepth 100000 in
set_option maxHeartbeats 4000000 in
theorem kdfMacs_walk (w : World) (A0 : Option Addr) (c0 : Nat) (l0 : List UInt8) (R0 : RdB w A0 l0) (n0 : l0.length ≤ c0) (m0 : c0 ≤ 9223372036854775807) (b0 : ∀ a, A0 = some a → a.block < w.heap.size) (z0 : l0.length ≤ 140737488351232)
    (A1 : Option Addr) (c1 : Nat) (l1 : List UInt8) (R1 : RdB w A1 l1) (n1 : l1.length ≤ c1) (m1 : c1 ≤ 9223372036854775807) (b1 : ∀ a, A1 = some a → a.block < w.heap.size) (z1 : l1.length ≤ 140737488351232)
    (A2 : Option Addr) (c2 : Nat) (l2 : List UInt8) (R2 : RdB w A2 l2) (n2 : l2.length ≤ c2) (m2 : c2 ≤ 9223372036854775807) (b2 : ∀ a, A2 = some a → a.block < w.heap.size) (z2 : l2.length ≤ 140737488351232) :
    Calls Try.prog 3 #[.slice A0 l0.length c0, .slice A1 l1.length c1, .slice A2 l2.length c2] w fun e w' => e = .returned (.bool true) ∧ Below w.heap.size w w' := by
  obtain ⟨i0, hi, hz0, hz1, hz2⟩ := info_parts (show (Try.prog.info? 5).map (fun i => (i.zero, i.size, i.bytes)) = some (some (.int .u8 0), 1, 1) by kernel_rfl)
  have I0 := Lib.hid hi
  have G0 := Lib.hid (And.intro n0 m0)
  have G1 := Lib.hid (And.intro n1 m1)
  have G2 := Lib.hid (And.intro n2 m2)
  have H0 := Lib.hid (R0.take 300)
  have H1 := Lib.hid (R1.take 1000)
  have H2 := Lib.hid (R2.take 1000)
  clear hi hz0 hz1 hz2 n0 n1 n2 m0 m1 m2 R0 R1 R2 b0 b1 b2
  go_enter Try.func3, Try.ntmps3
  go_wp2_with fail
  refine (ktext_any _ A0 _ c0 l0 rfl G0.out.1 300 (by omega)).mono ?_
  obtain ⟨x0, hx0⟩ : ∃ x, x = l0.take 300 := ⟨_, rfl⟩
  obtain ⟨k0, hk0⟩ : ∃ k, k = x0.length := ⟨_, rfl⟩
  rw [← hx0, ← hk0]
  rw [← hx0] at H0
  have L0 := Lib.hid hk0.symm
  have K0 := Lib.hid (show k0 ≤ 300 ∧ k0 ≤ c0 by have := G0.out.1; rw [hk0, hx0, List.length_take]; omega)
  rintro e w ⟨rfl, rfl⟩
  clear hx0 hk0
  go_wp2_with fail
  refine (ktext_any _ A1 _ c1 l1 rfl G1.out.1 1000 (by omega)).mono ?_
  obtain ⟨x1, hx1⟩ : ∃ x, x = l1.take 1000 := ⟨_, rfl⟩
  obtain ⟨k1, hk1⟩ : ∃ k, k = x1.length := ⟨_, rfl⟩
  rw [← hx1, ← hk1]
  rw [← hx1] at H1
  have L1 := Lib.hid hk1.symm
  have K1 := Lib.hid (show k1 ≤ 1000 ∧ k1 ≤ c1 by have := G1.out.1; rw [hk1, hx1, List.length_take]; omega)
  rintro e w ⟨rfl, rfl⟩
  clear hx1 hk1
  go_wp2_with fail
  refine (ktext_any _ A2 _ c2 l2 rfl G2.out.1 1000 (by omega)).mono ?_
  obtain ⟨x2, hx2⟩ : ∃ x, x = l2.take 1000 := ⟨_, rfl⟩
  obtain ⟨k2, hk2⟩ : ∃ k, k = x2.length := ⟨_, rfl⟩
  rw [← hx2, ← hk2]
  rw [← hx2] at H2
  have L2 := Lib.hid hk2.symm
  have K2 := Lib.hid (show k2 ≤ 1000 ∧ k2 ≤ c2 by have := G2.out.1; rw [hk2, hx2, List.length_take]; omega)
  rintro e w ⟨rfl, rfl⟩
  clear hx2 hk2 G0 G1 G2
  go_wp2_with fail
  generalize hB : Array.size (World.heap _) = NB
  generalize hw : World.alloc _ _ = w2
  obtain ⟨hv, hb⟩ := built_rows hw hB
  have V := Lib.hid hv
  have S := Lib.hid hb
  clear hB hw hv hb
  refine (mac_any _ A0 k0 c0 x0 L0.out K0.out.2 (H0.out.keep S.out) (by have := K0.out.1; omega) (some ⟨NB, 0, none⟩) 2 2 _ [x1, x2] rfl V.out (.cons ⟨A1, c1, by rw [L1.out], by rw [L1.out]; exact K1.out.2, H1.out.keep S.out⟩ (.cons ⟨A2, c2, by rw [L2.out], by rw [L2.out]; exact K2.out.2, H2.out.keep S.out⟩ .nil)) (by have := K1.out.1; have := K2.out.1; simp [L1.out, L2.out]; omega) (by omega)).mono ?_
  obtain ⟨X, hX⟩ : ∃ X, X = macL x0 [x1, x2].flatten := ⟨_, rfl⟩
  rw [← hX]
  have XE := Lib.hid (show X = macL x0 (x1 ++ x2) by rw [hX]; simp)
  have XL := Lib.hid (show X.length = 32 by rw [hX, macL_length])
  have ZX := Lib.hid (show (Try.prog.info? 24).map (·.size) = some (W8 X).size by rw [W8_size, XL.out]; kernel_rfl)
  rintro e w3 ⟨rfl, hb⟩
  have S := Lib.hid (S.out.trans (hb.mono S.out.size))
  clear hX hb V
  go_upto_region 3 with (refine wpList_store_new rfl rfl 24 (.tmp 7) (.tmp 18) rfl (W8 X) rfl rfl ZX.out ?c1 (W8_one _) ?_)
  case c1 => rw [W8_size, XL.out]; rfl
  generalize hM : Array.size (World.heap w3) = M
  generalize hw : World.alloc w3 _ = w4
  have S := Lib.hid (show OneB w 24 M X w4.drew from ⟨(by rw [← hw]; exact S.out.alloc S.out.size _ : Below w.heap.size w w4).drew, by rw [← hw]; exact ha_new _ _ _ hM.symm⟩)
  clear hM hw
  refine wp_region_road (OneB w 24 M X) [(true, 0), (true, 1), (true, 2), (true, 3), (true, 4), (true, 5), (true, 6), (true, 7), (true, 8), (false, 9), (true, 10), (true, 11), (true, 12), (true, 13), (true, 14), (true, 17), (false, 15), (false, 16), (true, 18), (true, 19), (true, 20), (false, 21), (true, 22), (true, 23)] (by kernel_rfl) (by kernel_rfl) (fun _ _ d _ _ h => by cases d <;> exact h) ?_
  simp only [List.filterMap_cons, List.filterMap_nil, List.getElem?_toArray, List.getElem?_cons_zero, List.getElem?_cons_succ, Option.map_some]
  refine planG_q (by rfl) (S.out) (fun W hW => run_arr_all 24 (.tmp 7) rfl 32 5 Try.underlying24 I0.out M rfl _) ?_
  simp only [Act.put, List.setIfInBounds_toArray, List.set_cons_zero, List.set_cons_succ]
  refine planG_q (by rfl) (S.out) (fun W hW => run_str 22 9 (.tmp 19) rfl Try.underlying22 Try.underlying5 Try.underlying9 (RdB.row hW.b) 32 32 XL.out rfl) ?_
  simp only [Act.put, List.setIfInBounds_toArray, List.set_cons_zero, List.set_cons_succ]
  refine planG_q (v := ?_) (by rfl) (S.out) ?_ ?_
  rotate_left
  · intro W hW
    go_simp
    with_reducible rfl
  simp only [Act.put, List.setIfInBounds_toArray, List.set_cons_zero, List.set_cons_succ]
  refine planG_q (by rfl) (S.out) (fun W hW => run_str 22 9 (.tmp 21) rfl Try.underlying22 Try.underlying5 Try.underlying9 (H0.out.keep hW.bel) k0 c0 L0.out rfl) ?_
  simp only [Act.put, List.setIfInBounds_toArray, List.set_cons_zero, List.set_cons_succ]
  refine planG_q (v := ?_) (by rfl) (S.out) ?_ ?_
  rotate_left
  · intro W hW
    go_simp
    with_reducible rfl
  simp only [Act.put, List.setIfInBounds_toArray, List.set_cons_zero, List.set_cons_succ]
  refine planG_q (by rfl) (S.out) (fun W hW => run_str 22 9 (.tmp 23) rfl Try.underlying22 Try.underlying5 Try.underlying9 (H1.out.keep hW.bel) k1 c1 L1.out rfl) ?_
  simp only [Act.put, List.setIfInBounds_toArray, List.set_cons_zero, List.set_cons_succ]
  refine planG_q (v := ?_) (by rfl) (S.out) ?_ ?_
  rotate_left
  · intro W hW
    go_simp
    with_reducible rfl
  simp only [Act.put, List.setIfInBounds_toArray, List.set_cons_zero, List.set_cons_succ]
  refine planG_q (by rfl) (S.out) (fun W hW => run_str 22 9 (.tmp 25) rfl Try.underlying22 Try.underlying5 Try.underlying9 (H2.out.keep hW.bel) k2 c2 L2.out rfl) ?_
  simp only [Act.put, List.setIfInBounds_toArray, List.set_cons_zero, List.set_cons_succ]
  refine planG_q (by rfl) (S.out) (fun W hW => run_cat 9 _ (.tmp 24) (.tmp 26) rfl x1 x2 rfl rfl (by have := K1.out.1; have := K2.out.1; have := L1.out; have := L2.out; omega) W) ?_
  simp only [Act.put, List.setIfInBounds_toArray, List.set_cons_zero, List.set_cons_succ]
  refine planG_t (by rfl) (fun K hK => ?_)
  go_simp
  refine (rkMac_any x0 (x1 ++ x2) k0 L0.out (by have := K0.out.1; omega) (by have := K1.out.1; have := K2.out.1; have := L1.out; have := L2.out; rw [List.length_append]; omega) _).mono ?_
  rw [← XE.out]
  rintro e w5 ⟨rfl, hb⟩
  have S := Lib.hid (S.out.keep hb)
  clear hb
  refine hK.out _ _ (S.out) ?_
  clear hK K
  refine planG_q (by rfl) (S.out) (fun W hW => run_eqstr_true 9 9 (.tmp 20) (.tmp 28) rfl X X rfl rfl rfl W) ?_
  simp only [Act.put, List.setIfInBounds_toArray, List.set_cons_zero, List.set_cons_succ]
  refine planG_q (v := ?_) (by rfl) (S.out) ?_ ?_
  rotate_left
  · intro W hW
    go_simp
    with_reducible rfl
  simp only [Act.put, List.setIfInBounds_toArray, List.set_cons_zero, List.set_cons_succ]
  refine planG_q (v := ?_) (by rfl) (S.out) ?_ ?_
  rotate_left
  · intro W hW
    go_simp
    with_reducible rfl
  simp only [Act.put, List.setIfInBounds_toArray, List.set_cons_zero, List.set_cons_succ]
  refine planG_q (v := ?_) (by rfl) (S.out) ?_ ?_
  rotate_left
  · intro W hW
    go_simp
    with_reducible rfl
  simp only [Act.put, List.setIfInBounds_toArray, List.set_cons_zero, List.set_cons_succ]
  refine planG_q (v := ?_) (by rfl) (S.out) ?_ ?_
  rotate_left
  · intro W hW
    go_simp
    with_reducible rfl
  simp only [Act.put, List.setIfInBounds_toArray, List.set_cons_zero, List.set_cons_succ]
  refine planG_q (by rfl) (S.out) (fun W hW => run_load_row 24 (.tmp 7) rfl M rfl 24 (W8 X) (0, 0) _ hW.b Try.underlying24 rfl ZX.out) ?_
  simp only [Act.put, List.setIfInBounds_toArray, List.set_cons_zero, List.set_cons_succ]
  refine planG_t (by rfl) (fun K hK => ?_)
  go_simp
  generalize hB : Array.size (World.heap w5) = NC
  generalize hw : World.alloc w5 _ = w6
  obtain ⟨hv, hb⟩ := built_rows hw hB
  have V := Lib.hid hv
  have S := Lib.hid (S.out.keep hb)
  clear hB hw hv hb
  refine hK.out _ _ (S.out) ?_
  clear hK K
  refine planG_t (by rfl) (fun K hK => ?_)
  go_simp
  refine (mac_any _ A0 k0 c0 x0 L0.out K0.out.2 (H0.out.keep S.out.bel) (by have := K0.out.1; omega) (some ⟨NC, 0, none⟩) 3 3 _ [x1, x2, []] rfl V.out (.cons ⟨A1, c1, by rw [L1.out], by rw [L1.out]; exact K1.out.2, H1.out.keep S.out.bel⟩ (.cons ⟨A2, c2, by rw [L2.out], by rw [L2.out]; exact K2.out.2, H2.out.keep S.out.bel⟩ (.cons (SlB.nil _) .nil))) (by have := K1.out.1; have := K2.out.1; simp [L1.out, L2.out]; omega) (by omega)).mono ?_
  rw [show macL x0 [x1, x2, []].flatten = X by rw [XE.out]; simp]
  rintro e w7 ⟨rfl, hb⟩
  have S := Lib.hid (S.out.keep hb)
  clear hb V
  refine hK.out _ _ (S.out) ?_
  clear hK K
  refine planG_q (by rfl) (S.out) (fun W hW => run_eq_arr_true 24 _ (.tmp 35) (.tmp 36) rfl 5 32 Try.underlying24 Try.underlying5 (by kernel_rfl) (by kernel_rfl) X X XL.out rfl rfl rfl W) ?_
  simp only [Act.put, List.setIfInBounds_toArray, List.set_cons_zero, List.set_cons_succ]
  refine planG_q (v := ?_) (by rfl) (S.out) ?_ ?_
  rotate_left
  · intro W hW
    go_simp
    with_reducible rfl
  simp only [Act.put, List.setIfInBounds_toArray, List.set_cons_zero, List.set_cons_succ]
  refine planG_q (v := ?_) (by rfl) (S.out) ?_ ?_
  rotate_left
  · intro W hW
    go_simp
    with_reducible rfl
  simp only [Act.put, List.setIfInBounds_toArray, List.set_cons_zero, List.set_cons_succ]
  refine planG_t (by rfl) (fun K hK => ?_)
  go_simp
  refine (kdfOne_true _).mono ?_
  rintro e w8 ⟨rfl, hb⟩
  have S := Lib.hid (S.out.keep hb)
  clear hb
  refine hK.out _ _ (S.out) ?_
  clear hK K
  refine planG_q (v := ?_) (by rfl) (S.out) ?_ ?_
  rotate_left
  · intro W hW
    go_simp
    with_reducible rfl
  simp only [Act.put, List.setIfInBounds_toArray, List.set_cons_zero, List.set_cons_succ]
  refine planG_q (v := ?_) (by rfl) (S.out) ?_ ?_
  rotate_left
  · intro W hW
    go_simp
    with_reducible rfl
  simp only [Act.put, List.setIfInBounds_toArray, List.set_cons_zero, List.set_cons_succ]
  refine planG_nil ?_
  go_wp2_with fail
  go_ret
  exact ⟨rfl, S.out.bel⟩
end Go.Proofs.Ytimdlnamicgdnaa
