/- The law KdfExpands, walked. -/
import Derived.Test.YtimdlnamicgdnaaRefExp
import Derived.Test.YtimdlnamicgdnaaKdfText
import Derived.Test.YtimdlnamicgdnaaKdfOne
import Derived.Test.YtimdlnamicgdnaaHelp
namespace Go.Proofs.Ytimdlnamicgdnaa
set_option linter.unusedVariables false
set_option linter.unusedSimpArgs false
open Go.RowKit
attribute [local go_sem ↓] Go.wp_at_zero Go.wp_at_succ

theorem expX_take (k info : List UInt8) (j i : Nat) (h : j ≤ i) : (expX k info i).take (32 * j) = expX k info j := by
  induction i with
  | zero =>
    obtain rfl : j = 0 := by omega
    simp [expX]
  | succ i ih =>
    by_cases e : j = i + 1
    · subst e
      rw [List.take_of_length_le (by rw [expX_length]; omega)]
    · rw [expX, List.take_append_of_le_length (by rw [expX_length]; omega)]
      exact ih (by omega)
theorem expandL_take (k info : List UInt8) (m n : Nat) (h : m ≤ n) : (expandL k info n).take m = expandL k info m := by
  have hn : needX m ≤ needX n := by unfold needX; omega
  rw [expandL, List.take_take, Nat.min_eq_left h, expandL, ← expX_take k info _ _ hn, List.take_take, Nat.min_eq_left (by unfold needX; omega)]
theorem run_neqstr_false {P : Program} {o : Oper} {a : Act} (t t2 : TypeId) (x y : Operand) (ho : o.op = .binOp .neq t x y t2) (l l' : List UInt8) (h : l = l') (hx : a.eval x = .string (strB l)) (hy : a.eval y = .string (strB l')) (W : World) : (execOp a.eval o).run P W = .ok (.value (.bool false)) W := by
  have e : ((strB l).toList == (strB l').toList) = true := by rw [strB_beq]; simpa using h
  unfold execOp
  simp only [ho, hx, hy, Sem.run_bind, Sem.run_pure]
  go_simp
theorem half_ex (m : Int) (h : -9223372036854775808 ≤ m ∧ m ≤ 8299) : ∃ q : Int, Hid (q = m.tdiv 2) ∧ m.tdiv 2 = q ∧ -9223372036854775808 ≤ q ∧ q ≤ 8299 ∧ Hid (0 ≤ m → q = ((m.toNat / 2 : Nat) : Int) ∧ 0 ≤ q ∧ q ≤ m) := by
  refine ⟨_, rfl, rfl, ?_, ?_, ?_⟩
  · rcases Int.lt_or_le m 0 with h0 | h0
    · have := Int.neg_tdiv (a := -m) (b := 2); have h2 := Int.tdiv_eq_ediv_of_nonneg (a := -m) (b := 2) (by omega); rw [Int.neg_neg] at this; omega
    · rw [Int.tdiv_eq_ediv_of_nonneg h0]; omega
  · rcases Int.lt_or_le m 0 with h0 | h0
    · have := Int.neg_tdiv (a := -m) (b := 2); have h2 := Int.tdiv_eq_ediv_of_nonneg (a := -m) (b := 2) (by omega); rw [Int.neg_neg] at this; omega
    · rw [Int.tdiv_eq_ediv_of_nonneg h0]; omega
  · intro h0
    rw [Int.tdiv_eq_ediv_of_nonneg h0]
    omega
set_option maxRecDepth 100000 in
set_option maxHeartbeats 8000000 in
theorem kdfExpands_walk (w : World) (A0 : Option Addr) (c0 : Nat) (l0 : List UInt8) (R0 : RdB w A0 l0) (n0 : l0.length ≤ c0) (m0 : c0 ≤ 9223372036854775807) (b0 : ∀ a, A0 = some a → a.block < w.heap.size) (z0 : l0.length ≤ 140737488351232)
    (A1 : Option Addr) (c1 : Nat) (l1 : List UInt8) (R1 : RdB w A1 l1) (n1 : l1.length ≤ c1) (m1 : c1 ≤ 9223372036854775807) (b1 : ∀ a, A1 = some a → a.block < w.heap.size) (z1 : l1.length ≤ 140737488351232) (n : Int) (hn : -9223372036854775808 ≤ n ∧ n ≤ 9223372036854775807) :
    Calls Try.prog 6 #[.slice A0 l0.length c0, .slice A1 l1.length c1, .int .i64 n] w fun e w' => e = .returned (.bool true) ∧ Below w.heap.size w w' := by
  obtain ⟨i0, hi, hz0, hz1, hz2⟩ := info_parts (show (Try.prog.info? 5).map (fun i => (i.zero, i.size, i.bytes)) = some (some (.int .u8 0), 1, 1) by kernel_rfl)
  have I0 := Lib.hid hi
  have I2 := Lib.hid hz1
  have G0 := Lib.hid n0
  have G1 := Lib.hid n1
  have H0 := Lib.hid (R0.take 300)
  have H1 := Lib.hid (R1.take 300)
  have NN := Lib.hid hn
  clear hi hz0 hz1 hz2 n0 n1 m0 m1 R0 R1 b0 b1 hn
  go_enter Try.func6, Try.ntmps6
  go_wp2_with fail
  refine (ktext_any _ A0 _ c0 l0 rfl G0.out 300 (by omega)).mono ?_
  obtain ⟨x0, hx0⟩ : ∃ x, x = l0.take 300 := ⟨_, rfl⟩
  obtain ⟨k0, hk0⟩ : ∃ k, k = x0.length := ⟨_, rfl⟩
  rw [← hx0, ← hk0]
  rw [← hx0] at H0
  have L0 := Lib.hid hk0.symm
  have K0 := Lib.hid (show k0 ≤ 300 ∧ k0 ≤ c0 by have := G0.out; rw [hk0, hx0, List.length_take]; omega)
  rintro e w ⟨rfl, rfl⟩
  clear hx0 hk0
  go_wp2_with fail
  refine (ktext_any _ A1 _ c1 l1 rfl G1.out 300 (by omega)).mono ?_
  obtain ⟨x1, hx1⟩ : ∃ x, x = l1.take 300 := ⟨_, rfl⟩
  obtain ⟨k1, hk1⟩ : ∃ k, k = x1.length := ⟨_, rfl⟩
  rw [← hx1, ← hk1]
  rw [← hx1] at H1
  have L1 := Lib.hid hk1.symm
  have K1 := Lib.hid (show k1 ≤ 300 ∧ k1 ≤ c1 by have := G1.out; rw [hk1, hx1, List.length_take]; omega)
  rintro e w ⟨rfl, rfl⟩
  clear hx1 hk1 G0 G1
  go_wp2_with fail
  refine (extract_any _ A0 k0 c0 x0 L0.out K0.out.2 H0.out (by have := K0.out.1; omega) A1 k1 c1 x1 L1.out K1.out.2 H1.out (by have := K1.out.1; omega)).mono ?_
  obtain ⟨k, hk⟩ : ∃ k, k = macL x0 x1 := ⟨_, rfl⟩
  rw [← hk]
  have KE := Lib.hid hk
  have KL := Lib.hid (show k.length = 32 by rw [hk, macL_length])
  have ZK := Lib.hid (show (Try.prog.info? 33).map (·.size) = some (W8 k).size by rw [W8_size, KL.out]; kernel_rfl)
  rintro e w1 ⟨rfl, hb⟩
  have S := Lib.hid hb
  clear hb hk
  go_upto_region 3 with (refine wpList_store_new rfl rfl 33 (.tmp 7) (.tmp 21) rfl (W8 k) rfl rfl ZK.out ?c1 (W8_one _) ?_)
  case c1 => rw [W8_size, KL.out]; rfl
  generalize hM : Array.size (World.heap w1) = M
  generalize hw : World.alloc w1 _ = w2
  have S := Lib.hid (show OneB w 33 M k w2.drew from ⟨(by rw [← hw]; exact S.out.alloc S.out.size _ : Below w.heap.size w w2).drew, by show w2.heap[M]? = _; rw [← hw]; exact ha_new _ _ _ hM.symm⟩)
  clear hM hw
  refine wp_region_road (OneB w 33 M k) [(true, 0), (true, 1), (true, 2), (true, 3), (true, 4), (true, 5), (false, 6), (true, 7)] (by kernel_rfl) (by kernel_rfl) (fun _ _ d _ _ h => by cases d <;> exact h) ?_
  simp only [List.filterMap_cons, List.filterMap_nil, List.getElem?_toArray, List.getElem?_cons_zero, List.getElem?_cons_succ, Option.map_some]
  refine planG_q (by rfl) (S.out) (fun W hW => run_arr_all 33 (.tmp 7) rfl 32 5 Try.underlying33 I0.out M rfl _) ?_
  simp only [Act.put, List.setIfInBounds_toArray, List.set_cons_zero, List.set_cons_succ]
  refine planG_q (by rfl) (S.out) (fun W hW => run_str 22 9 (.tmp 22) rfl Try.underlying22 Try.underlying5 Try.underlying9 (RdB.row hW.b) 32 32 KL.out rfl) ?_
  simp only [Act.put, List.setIfInBounds_toArray, List.set_cons_zero, List.set_cons_succ]
  refine planG_q (v := ?_) (by rfl) (S.out) ?_ ?_
  rotate_left
  · intro W hW
    go_simp
    with_reducible rfl
  simp only [Act.put, List.setIfInBounds_toArray, List.set_cons_zero, List.set_cons_succ]
  refine planG_q (by rfl) (S.out) (fun W hW => run_str 22 9 (.tmp 24) rfl Try.underlying22 Try.underlying5 Try.underlying9 (H0.out.keep hW.bel) k0 c0 L0.out rfl) ?_
  simp only [Act.put, List.setIfInBounds_toArray, List.set_cons_zero, List.set_cons_succ]
  refine planG_q (v := ?_) (by rfl) (S.out) ?_ ?_
  rotate_left
  · intro W hW
    go_simp
    with_reducible rfl
  simp only [Act.put, List.setIfInBounds_toArray, List.set_cons_zero, List.set_cons_succ]
  refine planG_q (by rfl) (S.out) (fun W hW => run_str 22 9 (.tmp 26) rfl Try.underlying22 Try.underlying5 Try.underlying9 (H1.out.keep hW.bel) k1 c1 L1.out rfl) ?_
  simp only [Act.put, List.setIfInBounds_toArray, List.set_cons_zero, List.set_cons_succ]
  refine planG_t (by rfl) (fun K hK => ?_)
  go_simp
  refine (rkMac_any x0 x1 k0 L0.out (by have := K0.out.1; omega) (by have := K1.out.1; have := L1.out; omega) _).mono ?_
  rw [← KE.out]
  rintro e w3 ⟨rfl, hb⟩
  have S := Lib.hid (S.out.keep hb)
  clear hb
  refine hK.out _ _ (S.out) ?_
  clear hK K
  refine planG_q (by rfl) (S.out) (fun W hW => run_neqstr_false 9 9 (.tmp 23) (.tmp 28) rfl k k rfl rfl rfl W) ?_
  simp only [Act.put, List.setIfInBounds_toArray, List.set_cons_zero, List.set_cons_succ]
  refine planG_nil ?_
  go_upto_if 31 with fail
  go_cut [2] (fun u wx => ∃ m : Int, u = .int .i64 m ∧ -9223372036854775808 ≤ m ∧ m ≤ 8299 ∧ wx = w3)
  case first =>
    by_cases h3 : 300 < n
    · have hD : decide ((300 : Int) < n) = true := by simp; omega
      have nb : n ≤ 9223372036854775807 := NN.out.2
      have e1 : n.tmod 300 = n % 300 := Int.tmod_eq_emod_of_nonneg (by omega)
      go_wp2_with fail
      go_meet
      exact ⟨_, rfl, by go_num, by go_num, rfl⟩
    · have hD : decide ((300 : Int) < n) = false := by simp; omega
      go_wp2_with fail
      go_meet
      exact ⟨n, rfl, NN.out.1, by omega, rfl⟩
  case rest =>
  obtain ⟨m, rfl, hm1, hm2, hwx⟩ := hcut
  rw [hwx]
  clear hwx NN
  have MB := Lib.hid (And.intro hm1 hm2)
  go_wp2_with (refine wpList_val rfl (run_load_row 33 (.tmp 7) rfl M rfl 33 (W8 k) (0, 0) _ S.out.b Try.underlying33 rfl ZK.out) ?_)
  refine (expand_any _ k KL.out A0 k0 c0 x0 L0.out K0.out.2 (H0.out.keep S.out.bel) (by have := K0.out.1; omega) m ⟨MB.out.1, by have := MB.out.2; omega⟩).mono ?_
  rintro e w4 ⟨hb, hx⟩
  have S := Lib.hid (S.out.keep hb)
  clear hb
  rcases hx with ⟨hbad, rfl⟩ | ⟨hp, hle, Ab, rfl, hr⟩
  ·
    obtain ⟨h, hh, e2, hq1, hq2, hpos⟩ := half_ex m ⟨hm1, hm2⟩
    have e3 : wrap64 h = h := by unfold wrap64; omega
    have QB := Lib.hid (And.intro hq1 hq2)
    clear hm1 hm2 hq1 hq2
    go_upto_region 8 with fail
    have S := Lib.hid (S.out.keep (Below.refl _ _).drew)
    try have RB := Lib.hid (RB.out.keep (Below.refl _ _).drew)
    refine wp_region_road (OneB w 33 M k) [(true, 0), (true, 1), (true, 2), (true, 3), (true, 4), (false, 5), (true, 6), (true, 7), (true, 8), (true, 9), (true, 10)] (by kernel_rfl) (by kernel_rfl) (fun _ _ d _ _ h => by cases d <;> exact h) ?_
    simp only [List.filterMap_cons, List.filterMap_nil, List.getElem?_toArray, List.getElem?_cons_zero, List.getElem?_cons_succ, Option.map_some]
    refine planG_q (by rfl) (S.out) (fun W hW => run_arr_all 33 (.tmp 7) rfl 32 5 Try.underlying33 I0.out M rfl _) ?_
    simp only [Act.put, List.setIfInBounds_toArray, List.set_cons_zero, List.set_cons_succ]
    refine planG_q (by rfl) (S.out) (fun W hW => run_str 22 9 (.tmp 43) rfl Try.underlying22 Try.underlying5 Try.underlying9 (RdB.row hW.b) 32 32 KL.out rfl) ?_
    simp only [Act.put, List.setIfInBounds_toArray, List.set_cons_zero, List.set_cons_succ]
    refine planG_q (v := ?_) (by rfl) (S.out) ?_ ?_
    rotate_left
    · intro W hW
      go_simp
      with_reducible rfl
    simp only [Act.put, List.setIfInBounds_toArray, List.set_cons_zero, List.set_cons_succ]
    refine planG_q (by rfl) (S.out) (fun W hW => run_str 22 9 (.tmp 45) rfl Try.underlying22 Try.underlying5 Try.underlying9 (H0.out.keep hW.bel) k0 c0 L0.out rfl) ?_
    simp only [Act.put, List.setIfInBounds_toArray, List.set_cons_zero, List.set_cons_succ]
    refine planG_q (v := ?_) (by rfl) (S.out) ?_ ?_
    rotate_left
    · intro W hW
      go_simp
      with_reducible rfl
    simp only [Act.put, List.setIfInBounds_toArray, List.set_cons_zero, List.set_cons_succ]
    refine planG_t (by rfl) (fun K hK => ?_)
    go_simp
    refine (rexpand_any k x0 32 k0 KL.out (by omega) L0.out (by have := K0.out.1; omega) m ⟨MB.out.1, by have := MB.out.2; omega⟩ _).mono ?_
    rintro e w5 ⟨hb, hx⟩
    have S := Lib.hid (S.out.keep hb)
    try have RB := Lib.hid (RB.out.keep hb)
    clear hb
    rcases hx with ⟨_, rfl⟩ | ⟨hp, hle, _⟩
    rotate_left
    · exfalso; omega
    refine hK.out _ _ (S.out) ?_
    clear hK K
    refine planG_q (v := ?_) (by rfl) (S.out) ?_ ?_
    rotate_left
    · intro W hW
      go_simp
      with_reducible rfl
    simp only [Act.put, List.setIfInBounds_toArray, List.set_cons_zero, List.set_cons_succ]
    refine planG_q (v := ?_) (by rfl) (S.out) ?_ ?_
    rotate_left
    · intro W hW
      go_simp
      with_reducible rfl
    simp only [Act.put, List.setIfInBounds_toArray, List.set_cons_zero, List.set_cons_succ]
    refine planG_q (v := ?_) (by rfl) (S.out) ?_ ?_
    rotate_left
    · intro W hW
      go_simp
      with_reducible rfl
    simp only [Act.put, List.setIfInBounds_toArray, List.set_cons_zero, List.set_cons_succ]
    refine planG_q (v := ?_) (by rfl) (S.out) ?_ ?_
    rotate_left
    · intro W hW
      go_simp
      with_reducible rfl
    simp only [Act.put, List.setIfInBounds_toArray, List.set_cons_zero, List.set_cons_succ]
    refine planG_q (v := ?_) (by rfl) (S.out) ?_ ?_
    rotate_left
    · intro W hW
      go_simp
      with_reducible rfl
    simp only [Act.put, List.setIfInBounds_toArray, List.set_cons_zero, List.set_cons_succ]
    refine planG_nil ?_
    go_wp2_with (refine wpList_val rfl (run_load_row 33 (.tmp 7) rfl M rfl 33 (W8 k) (0, 0) _ S.out.b Try.underlying33 rfl ZK.out) ?_)
    refine (expand_any _ k KL.out A0 k0 c0 x0 L0.out K0.out.2 (H0.out.keep S.out.bel) (by have := K0.out.1; omega) h ⟨QB.out.1, by have := QB.out.2; omega⟩).mono ?_
    rintro e w6 ⟨hb, hy⟩
    have S := Lib.hid (S.out.keep hb)
    try have RB := Lib.hid (RB.out.keep hb)
    clear hb e2 e3
    obtain ⟨vd, ob, he⟩ : ∃ vd ob, e = .returned (.tuple #[vd, .bool ob]) := by
      rcases hy with ⟨_, rfl⟩ | ⟨_, _, Ad, rfl, _⟩
      · exact ⟨_, _, rfl⟩
      · exact ⟨_, _, rfl⟩
    subst he
    clear hy
    by_cases h0 : m < 0
    · have hD : decide (m < (0 : Int)) = true := by simp; omega
      go_upto_region 11 with fail
      have S := Lib.hid (S.out.keep (Below.refl _ _).drew)
      refine wp_region_road (OneB w 33 M k) [(true, 0), (true, 1), (true, 2), (true, 3), (true, 4), (true, 5), (true, 6), (true, 7), (true, 8), (true, 9), (true, 10), (true, 11), (true, 12), (true, 13), (true, 14), (true, 15), (true, 16), (true, 17), (true, 18), (true, 19), (true, 20), (true, 21), (true, 22), (true, 23), (true, 24), (true, 25), (true, 26), (true, 27), (true, 28), (true, 29), (false, 30), (true, 31), (true, 32)] (by kernel_rfl) (by kernel_rfl) (fun _ _ d _ _ h => by cases d <;> exact h) ?_
      simp only [List.filterMap_cons, List.filterMap_nil, List.getElem?_toArray, List.getElem?_cons_zero, List.getElem?_cons_succ, Option.map_some]
      refine planG_q (v := ?_) (by rfl) (S.out) ?_ ?_
      rotate_left
      · intro W hW
        go_simp
        with_reducible rfl
      simp only [Act.put, List.setIfInBounds_toArray, List.set_cons_zero, List.set_cons_succ]
      refine planG_q (by rfl) (S.out) (fun W hW => run_str 22 9 (.tmp 60) rfl Try.underlying22 Try.underlying5 Try.underlying9 (RdB.nil _ _) 0 0 rfl rfl) ?_
      simp only [Act.put, List.setIfInBounds_toArray, List.set_cons_zero, List.set_cons_succ]
      refine planG_q (v := ?_) (by rfl) (S.out) ?_ ?_
      rotate_left
      · intro W hW
        go_simp
        with_reducible rfl
      simp only [Act.put, List.setIfInBounds_toArray, List.set_cons_zero, List.set_cons_succ]
      refine planG_q (by rfl) (S.out) (fun W hW => run_eqstr_true 9 9 (.tmp 61) (.tmp 62) rfl [] [] rfl rfl rfl W) ?_
      simp only [Act.put, List.setIfInBounds_toArray, List.set_cons_zero, List.set_cons_succ]
      refine planG_q (v := ?_) (by rfl) (S.out) ?_ ?_
      rotate_left
      · intro W hW
        go_simp
        with_reducible rfl
      simp only [Act.put, List.setIfInBounds_toArray, List.set_cons_zero, List.set_cons_succ]
      refine planG_q (v := ?_) (by rfl) (S.out) ?_ ?_
      rotate_left
      · intro W hW
        go_simp
        with_reducible rfl
      simp only [Act.put, List.setIfInBounds_toArray, List.set_cons_zero, List.set_cons_succ]
      refine planG_q (v := ?_) (by rfl) (S.out) ?_ ?_
      rotate_left
      · intro W hW
        go_simp
        with_reducible rfl
      simp only [Act.put, List.setIfInBounds_toArray, List.set_cons_zero, List.set_cons_succ]
      refine planG_q (v := ?_) (by rfl) (S.out) ?_ ?_
      rotate_left
      · intro W hW
        go_simp
        with_reducible rfl
      simp only [Act.put, List.setIfInBounds_toArray, List.set_cons_zero, List.set_cons_succ]
      refine planG_q (v := ?_) (by rfl) (S.out) ?_ ?_
      rotate_left
      · intro W hW
        go_simp
        with_reducible rfl
      simp only [Act.put, List.setIfInBounds_toArray, List.set_cons_zero, List.set_cons_succ]
      refine planG_q (v := ?_) (by rfl) (S.out) ?_ ?_
      rotate_left
      · intro W hW
        go_simp
        with_reducible rfl
      simp only [Act.put, List.setIfInBounds_toArray, List.set_cons_zero, List.set_cons_succ]
      refine planG_q (v := ?_) (by rfl) (S.out) ?_ ?_
      rotate_left
      · intro W hW
        go_simp
        with_reducible rfl
      simp only [Act.put, List.setIfInBounds_toArray, List.set_cons_zero, List.set_cons_succ]
      refine planG_q (v := ?_) (by rfl) (S.out) ?_ ?_
      rotate_left
      · intro W hW
        go_simp
        with_reducible rfl
      simp only [Act.put, List.setIfInBounds_toArray, List.set_cons_zero, List.set_cons_succ]
      refine planG_q (v := ?_) (by rfl) (S.out) ?_ ?_
      rotate_left
      · intro W hW
        go_simp
        with_reducible rfl
      simp only [Act.put, List.setIfInBounds_toArray, List.set_cons_zero, List.set_cons_succ]
      refine planG_qs (by rfl) (S.out) ?_
      simp only [Act.put, List.setIfInBounds_toArray, List.set_cons_zero, List.set_cons_succ]
      refine planG_qs (by rfl) (S.out) ?_
      simp only [Act.put, List.setIfInBounds_toArray, List.set_cons_zero, List.set_cons_succ]
      refine planG_q (v := ?_) (by rfl) (S.out) ?_ ?_
      rotate_left
      · intro W hW
        go_simp
        with_reducible rfl
      simp only [Act.put, List.setIfInBounds_toArray, List.set_cons_zero, List.set_cons_succ]
      refine planG_q (v := ?_) (by rfl) (S.out) ?_ ?_
      rotate_left
      · intro W hW
        go_simp
        with_reducible rfl
      simp only [Act.put, List.setIfInBounds_toArray, List.set_cons_zero, List.set_cons_succ]
      refine planG_qs (by rfl) (S.out) ?_
      simp only [Act.put, List.setIfInBounds_toArray, List.set_cons_zero, List.set_cons_succ]
      refine planG_qs (by rfl) (S.out) ?_
      simp only [Act.put, List.setIfInBounds_toArray, List.set_cons_zero, List.set_cons_succ]
      refine planG_qs (by rfl) (S.out) ?_
      simp only [Act.put, List.setIfInBounds_toArray, List.set_cons_zero, List.set_cons_succ]
      refine planG_qs (by rfl) (S.out) ?_
      simp only [Act.put, List.setIfInBounds_toArray, List.set_cons_zero, List.set_cons_succ]
      refine planG_qs (by rfl) (S.out) ?_
      simp only [Act.put, List.setIfInBounds_toArray, List.set_cons_zero, List.set_cons_succ]
      refine planG_qs (by rfl) (S.out) ?_
      simp only [Act.put, List.setIfInBounds_toArray, List.set_cons_zero, List.set_cons_succ]
      refine planG_qs (by rfl) (S.out) ?_
      simp only [Act.put, List.setIfInBounds_toArray, List.set_cons_zero, List.set_cons_succ]
      refine planG_qs (by rfl) (S.out) ?_
      simp only [Act.put, List.setIfInBounds_toArray, List.set_cons_zero, List.set_cons_succ]
      refine planG_qs (by rfl) (S.out) ?_
      simp only [Act.put, List.setIfInBounds_toArray, List.set_cons_zero, List.set_cons_succ]
      refine planG_qs (by rfl) (S.out) ?_
      simp only [Act.put, List.setIfInBounds_toArray, List.set_cons_zero, List.set_cons_succ]
      refine planG_q (v := ?_) (by rfl) (S.out) ?_ ?_
      rotate_left
      · intro W hW
        go_simp
        with_reducible rfl
      simp only [Act.put, List.setIfInBounds_toArray, List.set_cons_zero, List.set_cons_succ]
      refine planG_q (v := ?_) (by rfl) (S.out) ?_ ?_
      rotate_left
      · intro W hW
        go_simp
        with_reducible rfl
      simp only [Act.put, List.setIfInBounds_toArray, List.set_cons_zero, List.set_cons_succ]
      refine planG_q (v := ?_) (by rfl) (S.out) ?_ ?_
      rotate_left
      · intro W hW
        go_simp
        with_reducible rfl
      simp only [Act.put, List.setIfInBounds_toArray, List.set_cons_zero, List.set_cons_succ]
      refine planG_t (by rfl) (fun K hK => ?_)
      go_simp
      refine (kdfOne_true _).mono ?_
      rintro e w7 ⟨rfl, hb⟩
      have S := Lib.hid (S.out.keep hb)
      clear hb
      refine hK.out _ _ (S.out) ?_
      clear hK K
      refine planG_q (v := ?_) (by rfl) (S.out) ?_ ?_
      rotate_left
      · intro W hW
        go_simp
        with_reducible rfl
      simp only [Act.put, List.setIfInBounds_toArray, List.set_cons_zero, List.set_cons_succ]
      refine planG_q (v := ?_) (by rfl) (S.out) ?_ ?_
      rotate_left
      · intro W hW
        go_simp
        with_reducible rfl
      simp only [Act.put, List.setIfInBounds_toArray, List.set_cons_zero, List.set_cons_succ]
      refine planG_nil ?_
      go_wp2_with fail
      go_ret
      exact ⟨rfl, S.out.bel⟩
    · have hD : decide (m < (0 : Int)) = false := by simp; omega
      go_upto_region 11 with fail
      have S := Lib.hid (S.out.keep (Below.refl _ _).drew)
      refine wp_region_road (OneB w 33 M k) [(true, 0), (true, 1), (true, 2), (true, 3), (true, 4), (true, 5), (true, 6), (true, 7), (true, 8), (true, 9), (true, 10), (true, 11), (true, 12), (true, 13), (true, 14), (true, 15), (true, 16), (true, 17), (true, 18), (true, 19), (true, 20), (true, 21), (true, 22), (true, 23), (true, 24), (true, 25), (true, 26), (true, 27), (true, 28), (true, 29), (false, 30), (true, 31), (true, 32)] (by kernel_rfl) (by kernel_rfl) (fun _ _ d _ _ h => by cases d <;> exact h) ?_
      simp only [List.filterMap_cons, List.filterMap_nil, List.getElem?_toArray, List.getElem?_cons_zero, List.getElem?_cons_succ, Option.map_some]
      refine planG_q (v := ?_) (by rfl) (S.out) ?_ ?_
      rotate_left
      · intro W hW
        go_simp
        with_reducible rfl
      simp only [Act.put, List.setIfInBounds_toArray, List.set_cons_zero, List.set_cons_succ]
      refine planG_q (by rfl) (S.out) (fun W hW => run_str 22 9 (.tmp 60) rfl Try.underlying22 Try.underlying5 Try.underlying9 (RdB.nil _ _) 0 0 rfl rfl) ?_
      simp only [Act.put, List.setIfInBounds_toArray, List.set_cons_zero, List.set_cons_succ]
      refine planG_q (v := ?_) (by rfl) (S.out) ?_ ?_
      rotate_left
      · intro W hW
        go_simp
        with_reducible rfl
      simp only [Act.put, List.setIfInBounds_toArray, List.set_cons_zero, List.set_cons_succ]
      refine planG_q (by rfl) (S.out) (fun W hW => run_eqstr_true 9 9 (.tmp 61) (.tmp 62) rfl [] [] rfl rfl rfl W) ?_
      simp only [Act.put, List.setIfInBounds_toArray, List.set_cons_zero, List.set_cons_succ]
      refine planG_q (v := ?_) (by rfl) (S.out) ?_ ?_
      rotate_left
      · intro W hW
        go_simp
        with_reducible rfl
      simp only [Act.put, List.setIfInBounds_toArray, List.set_cons_zero, List.set_cons_succ]
      refine planG_q (v := ?_) (by rfl) (S.out) ?_ ?_
      rotate_left
      · intro W hW
        go_simp
        with_reducible rfl
      simp only [Act.put, List.setIfInBounds_toArray, List.set_cons_zero, List.set_cons_succ]
      refine planG_q (v := ?_) (by rfl) (S.out) ?_ ?_
      rotate_left
      · intro W hW
        go_simp
        with_reducible rfl
      simp only [Act.put, List.setIfInBounds_toArray, List.set_cons_zero, List.set_cons_succ]
      refine planG_q (v := ?_) (by rfl) (S.out) ?_ ?_
      rotate_left
      · intro W hW
        go_simp
        with_reducible rfl
      simp only [Act.put, List.setIfInBounds_toArray, List.set_cons_zero, List.set_cons_succ]
      refine planG_q (v := ?_) (by rfl) (S.out) ?_ ?_
      rotate_left
      · intro W hW
        go_simp
        with_reducible rfl
      simp only [Act.put, List.setIfInBounds_toArray, List.set_cons_zero, List.set_cons_succ]
      refine planG_q (v := ?_) (by rfl) (S.out) ?_ ?_
      rotate_left
      · intro W hW
        go_simp
        with_reducible rfl
      simp only [Act.put, List.setIfInBounds_toArray, List.set_cons_zero, List.set_cons_succ]
      refine planG_q (v := ?_) (by rfl) (S.out) ?_ ?_
      rotate_left
      · intro W hW
        go_simp
        with_reducible rfl
      simp only [Act.put, List.setIfInBounds_toArray, List.set_cons_zero, List.set_cons_succ]
      refine planG_q (v := ?_) (by rfl) (S.out) ?_ ?_
      rotate_left
      · intro W hW
        go_simp
        with_reducible rfl
      simp only [Act.put, List.setIfInBounds_toArray, List.set_cons_zero, List.set_cons_succ]
      refine planG_q (v := ?_) (by rfl) (S.out) ?_ ?_
      rotate_left
      · intro W hW
        go_simp
        with_reducible rfl
      simp only [Act.put, List.setIfInBounds_toArray, List.set_cons_zero, List.set_cons_succ]
      refine planG_q (v := ?_) (by rfl) (S.out) ?_ ?_
      rotate_left
      · intro W hW
        go_simp
        with_reducible rfl
      simp only [Act.put, List.setIfInBounds_toArray, List.set_cons_zero, List.set_cons_succ]
      refine planG_q (v := ?_) (by rfl) (S.out) ?_ ?_
      rotate_left
      · intro W hW
        go_simp
        with_reducible rfl
      simp only [Act.put, List.setIfInBounds_toArray, List.set_cons_zero, List.set_cons_succ]
      refine planG_q (v := ?_) (by rfl) (S.out) ?_ ?_
      rotate_left
      · intro W hW
        go_simp
        with_reducible rfl
      simp only [Act.put, List.setIfInBounds_toArray, List.set_cons_zero, List.set_cons_succ]
      refine planG_q (v := ?_) (by rfl) (S.out) ?_ ?_
      rotate_left
      · intro W hW
        go_simp
        with_reducible rfl
      simp only [Act.put, List.setIfInBounds_toArray, List.set_cons_zero, List.set_cons_succ]
      refine planG_qs (by rfl) (S.out) ?_
      simp only [Act.put, List.setIfInBounds_toArray, List.set_cons_zero, List.set_cons_succ]
      refine planG_qs (by rfl) (S.out) ?_
      simp only [Act.put, List.setIfInBounds_toArray, List.set_cons_zero, List.set_cons_succ]
      refine planG_qs (by rfl) (S.out) ?_
      simp only [Act.put, List.setIfInBounds_toArray, List.set_cons_zero, List.set_cons_succ]
      refine planG_qs (by rfl) (S.out) ?_
      simp only [Act.put, List.setIfInBounds_toArray, List.set_cons_zero, List.set_cons_succ]
      refine planG_qs (by rfl) (S.out) ?_
      simp only [Act.put, List.setIfInBounds_toArray, List.set_cons_zero, List.set_cons_succ]
      refine planG_qs (by rfl) (S.out) ?_
      simp only [Act.put, List.setIfInBounds_toArray, List.set_cons_zero, List.set_cons_succ]
      refine planG_qs (by rfl) (S.out) ?_
      simp only [Act.put, List.setIfInBounds_toArray, List.set_cons_zero, List.set_cons_succ]
      refine planG_qs (by rfl) (S.out) ?_
      simp only [Act.put, List.setIfInBounds_toArray, List.set_cons_zero, List.set_cons_succ]
      refine planG_qs (by rfl) (S.out) ?_
      simp only [Act.put, List.setIfInBounds_toArray, List.set_cons_zero, List.set_cons_succ]
      refine planG_qs (by rfl) (S.out) ?_
      simp only [Act.put, List.setIfInBounds_toArray, List.set_cons_zero, List.set_cons_succ]
      refine planG_q (v := ?_) (by rfl) (S.out) ?_ ?_
      rotate_left
      · intro W hW
        go_simp
        with_reducible rfl
      simp only [Act.put, List.setIfInBounds_toArray, List.set_cons_zero, List.set_cons_succ]
      refine planG_q (v := ?_) (by rfl) (S.out) ?_ ?_
      rotate_left
      · intro W hW
        go_simp
        with_reducible rfl
      simp only [Act.put, List.setIfInBounds_toArray, List.set_cons_zero, List.set_cons_succ]
      refine planG_q (v := ?_) (by rfl) (S.out) ?_ ?_
      rotate_left
      · intro W hW
        go_simp
        with_reducible rfl
      simp only [Act.put, List.setIfInBounds_toArray, List.set_cons_zero, List.set_cons_succ]
      refine planG_t (by rfl) (fun K hK => ?_)
      go_simp
      refine (kdfOne_true _).mono ?_
      rintro e w7 ⟨rfl, hb⟩
      have S := Lib.hid (S.out.keep hb)
      clear hb
      refine hK.out _ _ (S.out) ?_
      clear hK K
      refine planG_q (v := ?_) (by rfl) (S.out) ?_ ?_
      rotate_left
      · intro W hW
        go_simp
        with_reducible rfl
      simp only [Act.put, List.setIfInBounds_toArray, List.set_cons_zero, List.set_cons_succ]
      refine planG_q (v := ?_) (by rfl) (S.out) ?_ ?_
      rotate_left
      · intro W hW
        go_simp
        with_reducible rfl
      simp only [Act.put, List.setIfInBounds_toArray, List.set_cons_zero, List.set_cons_succ]
      refine planG_nil ?_
      go_wp2_with fail
      go_ret
      exact ⟨rfl, S.out.bel⟩
  ·
    obtain ⟨z, hz⟩ : ∃ z : Nat, m.toNat = z := ⟨_, rfl⟩
    rw [hz] at hr ⊢
    have RB := Lib.hid hr
    have MZ := Lib.hid (show m = (z : Int) by omega)
    have Z := Lib.hid (show z ≤ 8160 by omega)
    obtain ⟨h, hh, e2, hq1, hq2, hpos⟩ := half_ex m ⟨hm1, hm2⟩
    have e3 : wrap64 h = h := by unfold wrap64; omega
    have QB := Lib.hid (And.intro hq1 hq2)
    have ZZ := Lib.hid hz
    clear hr hp hle hm1 hm2 hq1 hq2 hz
    go_upto_region 8 with fail
    have S := Lib.hid (S.out.keep (Below.refl _ _).drew)
    try have RB := Lib.hid (RB.out.keep (Below.refl _ _).drew)
    refine wp_region_road (OneB w 33 M k) [(true, 0), (true, 1), (true, 2), (true, 3), (true, 4), (false, 5), (true, 6), (true, 7), (true, 8), (true, 9), (true, 10)] (by kernel_rfl) (by kernel_rfl) (fun _ _ d _ _ h => by cases d <;> exact h) ?_
    simp only [List.filterMap_cons, List.filterMap_nil, List.getElem?_toArray, List.getElem?_cons_zero, List.getElem?_cons_succ, Option.map_some]
    refine planG_q (by rfl) (S.out) (fun W hW => run_arr_all 33 (.tmp 7) rfl 32 5 Try.underlying33 I0.out M rfl _) ?_
    simp only [Act.put, List.setIfInBounds_toArray, List.set_cons_zero, List.set_cons_succ]
    refine planG_q (by rfl) (S.out) (fun W hW => run_str 22 9 (.tmp 43) rfl Try.underlying22 Try.underlying5 Try.underlying9 (RdB.row hW.b) 32 32 KL.out rfl) ?_
    simp only [Act.put, List.setIfInBounds_toArray, List.set_cons_zero, List.set_cons_succ]
    refine planG_q (v := ?_) (by rfl) (S.out) ?_ ?_
    rotate_left
    · intro W hW
      go_simp
      with_reducible rfl
    simp only [Act.put, List.setIfInBounds_toArray, List.set_cons_zero, List.set_cons_succ]
    refine planG_q (by rfl) (S.out) (fun W hW => run_str 22 9 (.tmp 45) rfl Try.underlying22 Try.underlying5 Try.underlying9 (H0.out.keep hW.bel) k0 c0 L0.out rfl) ?_
    simp only [Act.put, List.setIfInBounds_toArray, List.set_cons_zero, List.set_cons_succ]
    refine planG_q (v := ?_) (by rfl) (S.out) ?_ ?_
    rotate_left
    · intro W hW
      go_simp
      with_reducible rfl
    simp only [Act.put, List.setIfInBounds_toArray, List.set_cons_zero, List.set_cons_succ]
    refine planG_t (by rfl) (fun K hK => ?_)
    go_simp
    refine (rexpand_any k x0 32 k0 KL.out (by omega) L0.out (by have := K0.out.1; omega) m ⟨MB.out.1, by have := MB.out.2; omega⟩ _).mono ?_
    rintro e w5 ⟨hb, hx⟩
    have S := Lib.hid (S.out.keep hb)
    try have RB := Lib.hid (RB.out.keep hb)
    clear hb
    rcases hx with ⟨hbad, _⟩ | ⟨_, _, rfl⟩
    · exfalso; have := Z.out; have := MZ.out; omega
    rw [ZZ.out]
    obtain ⟨X, hX⟩ : ∃ X, X = expandL k x0 z := ⟨_, rfl⟩
    rw [← hX] at RB ⊢
    have XE := Lib.hid hX
    have XL := Lib.hid (show X.length = z by rw [hX, expandL_length])
    clear hX
    refine hK.out _ _ (S.out) ?_
    clear hK K
    refine planG_q (v := ?_) (by rfl) (S.out) ?_ ?_
    rotate_left
    · intro W hW
      go_simp
      with_reducible rfl
    simp only [Act.put, List.setIfInBounds_toArray, List.set_cons_zero, List.set_cons_succ]
    refine planG_q (v := ?_) (by rfl) (S.out) ?_ ?_
    rotate_left
    · intro W hW
      go_simp
      with_reducible rfl
    simp only [Act.put, List.setIfInBounds_toArray, List.set_cons_zero, List.set_cons_succ]
    refine planG_q (v := ?_) (by rfl) (S.out) ?_ ?_
    rotate_left
    · intro W hW
      go_simp
      with_reducible rfl
    simp only [Act.put, List.setIfInBounds_toArray, List.set_cons_zero, List.set_cons_succ]
    refine planG_q (v := ?_) (by rfl) (S.out) ?_ ?_
    rotate_left
    · intro W hW
      go_simp
      with_reducible rfl
    simp only [Act.put, List.setIfInBounds_toArray, List.set_cons_zero, List.set_cons_succ]
    refine planG_q (v := ?_) (by rfl) (S.out) ?_ ?_
    rotate_left
    · intro W hW
      go_simp
      with_reducible rfl
    simp only [Act.put, List.setIfInBounds_toArray, List.set_cons_zero, List.set_cons_succ]
    refine planG_nil ?_
    go_wp2_with (refine wpList_val rfl (run_load_row 33 (.tmp 7) rfl M rfl 33 (W8 k) (0, 0) _ S.out.b Try.underlying33 rfl ZK.out) ?_)
    refine (expand_any _ k KL.out A0 k0 c0 x0 L0.out K0.out.2 (H0.out.keep S.out.bel) (by have := K0.out.1; omega) h ⟨QB.out.1, by have := QB.out.2; omega⟩).mono ?_
    rintro e w6 ⟨hb, hy⟩
    have S := Lib.hid (S.out.keep hb)
    try have RB := Lib.hid (RB.out.keep hb)
    clear hb e2 e3
    obtain ⟨hq, hq1, hq2⟩ := hpos.out (by have := MZ.out; omega)
    rw [ZZ.out] at hq
    rcases hy with ⟨hbad, _⟩ | ⟨_, _, Ad, rfl, hr⟩
    · exfalso; have := Z.out; have := MZ.out; omega
    obtain ⟨y, hy⟩ : ∃ y, y = z / 2 := ⟨_, rfl⟩
    rw [← hy] at hq
    have YZ := Lib.hid (show y ≤ z by omega)
    have hy2 : h.toNat = y := by omega
    rw [hy2] at hr ⊢
    rw [← expandL_take k x0 y z YZ.out, ← XE.out] at hr
    obtain ⟨D, hD'⟩ : ∃ D, D = X.take y := ⟨_, rfl⟩
    rw [← hD'] at hr
    have DL := Lib.hid (show D.length = y by rw [hD', List.length_take, XL.out]; have := YZ.out; omega)
    have DE := Lib.hid hD'
    have RD := Lib.hid hr
    rw [hq]
    clear hr hD' hy hq1 hq2 hy2
    have hD : decide (m < (0 : Int)) = false := by simp; have := MZ.out; omega
    have hcut := cut_to (P := Try.prog) 22 5 Try.underlying22 I0.out I2.out Ab z z y YZ.out
    go_upto_region 11 with fail
    have S := Lib.hid (show OneB w 33 M k w6.drew ∧ RdB w6.drew Ab X ∧ RdB w6.drew Ad D from ⟨S.out.keep (Below.refl _ _).drew, RB.out.keep (Below.refl _ _).drew, RD.out.keep (Below.refl _ _).drew⟩)
    refine wp_region_road (fun W => OneB w 33 M k W ∧ RdB W Ab X ∧ RdB W Ad D) [(true, 0), (true, 1), (true, 2), (true, 3), (true, 4), (true, 5), (true, 6), (true, 7), (true, 8), (true, 9), (true, 10), (true, 11), (true, 12), (true, 13), (true, 14), (true, 15), (true, 16), (true, 17), (true, 18), (true, 19), (true, 20), (true, 21), (true, 22), (true, 23), (true, 24), (true, 25), (true, 26), (true, 27), (true, 28), (true, 29), (false, 30), (true, 31), (true, 32)] (by kernel_rfl) (by kernel_rfl) (fun _ _ d _ _ h => by cases d <;> exact h) ?_
    simp only [List.filterMap_cons, List.filterMap_nil, List.getElem?_toArray, List.getElem?_cons_zero, List.getElem?_cons_succ, Option.map_some]
    refine planG_q (v := ?_) (by rfl) (S.out) ?_ ?_
    rotate_left
    · intro W hW
      go_simp
      with_reducible rfl
    simp only [Act.put, List.setIfInBounds_toArray, List.set_cons_zero, List.set_cons_succ]
    refine planG_q (by rfl) (S.out) (fun W hW => run_str 22 9 (.tmp 60) rfl Try.underlying22 Try.underlying5 Try.underlying9 hW.2.1 z z XL.out rfl) ?_
    simp only [Act.put, List.setIfInBounds_toArray, List.set_cons_zero, List.set_cons_succ]
    refine planG_q (v := ?_) (by rfl) (S.out) ?_ ?_
    rotate_left
    · intro W hW
      go_simp
      with_reducible rfl
    simp only [Act.put, List.setIfInBounds_toArray, List.set_cons_zero, List.set_cons_succ]
    refine planG_q (by rfl) (S.out) (fun W hW => run_eqstr_true 9 9 (.tmp 61) (.tmp 62) rfl X X rfl rfl rfl W) ?_
    simp only [Act.put, List.setIfInBounds_toArray, List.set_cons_zero, List.set_cons_succ]
    refine planG_q (v := ?_) (by rfl) (S.out) ?_ ?_
    rotate_left
    · intro W hW
      go_simp
      with_reducible rfl
    simp only [Act.put, List.setIfInBounds_toArray, List.set_cons_zero, List.set_cons_succ]
    refine planG_q (v := ?_) (by rfl) (S.out) ?_ ?_
    rotate_left
    · intro W hW
      go_simp
      with_reducible rfl
    simp only [Act.put, List.setIfInBounds_toArray, List.set_cons_zero, List.set_cons_succ]
    refine planG_q (v := ?_) (by rfl) (S.out) ?_ ?_
    rotate_left
    · intro W hW
      go_simp
      with_reducible rfl
    simp only [Act.put, List.setIfInBounds_toArray, List.set_cons_zero, List.set_cons_succ]
    refine planG_q (v := ?_) (by rfl) (S.out) ?_ ?_
    rotate_left
    · intro W hW
      go_simp
      with_reducible rfl
    simp only [Act.put, List.setIfInBounds_toArray, List.set_cons_zero, List.set_cons_succ]
    refine planG_q (v := ?_) (by rfl) (S.out) ?_ ?_
    rotate_left
    · intro W hW
      go_simp
      with_reducible rfl
    simp only [Act.put, List.setIfInBounds_toArray, List.set_cons_zero, List.set_cons_succ]
    refine planG_q (v := ?_) (by rfl) (S.out) ?_ ?_
    rotate_left
    · intro W hW
      go_simp
      with_reducible rfl
    simp only [Act.put, List.setIfInBounds_toArray, List.set_cons_zero, List.set_cons_succ]
    refine planG_q (v := ?_) (by rfl) (S.out) ?_ ?_
    rotate_left
    · intro W hW
      go_simp
      with_reducible rfl
    simp only [Act.put, List.setIfInBounds_toArray, List.set_cons_zero, List.set_cons_succ]
    refine planG_q (v := ?_) (by rfl) (S.out) ?_ ?_
    rotate_left
    · intro W hW
      go_simp
      with_reducible rfl
    simp only [Act.put, List.setIfInBounds_toArray, List.set_cons_zero, List.set_cons_succ]
    refine planG_q (v := ?_) (by rfl) (S.out) ?_ ?_
    rotate_left
    · intro W hW
      go_simp
      with_reducible rfl
    simp only [Act.put, List.setIfInBounds_toArray, List.set_cons_zero, List.set_cons_succ]
    refine planG_q (v := ?_) (by rfl) (S.out) ?_ ?_
    rotate_left
    · intro W hW
      go_simp
      with_reducible rfl
    simp only [Act.put, List.setIfInBounds_toArray, List.set_cons_zero, List.set_cons_succ]
    refine planG_q (v := ?_) (by rfl) (S.out) ?_ ?_
    rotate_left
    · intro W hW
      go_simp
      with_reducible rfl
    simp only [Act.put, List.setIfInBounds_toArray, List.set_cons_zero, List.set_cons_succ]
    refine planG_q (v := ?_) (by rfl) (S.out) ?_ ?_
    rotate_left
    · intro W hW
      go_simp
      with_reducible rfl
    simp only [Act.put, List.setIfInBounds_toArray, List.set_cons_zero, List.set_cons_succ]
    refine planG_q (v := ?_) (by rfl) (S.out) ?_ ?_
    rotate_left
    · intro W hW
      go_simp
      with_reducible rfl
    simp only [Act.put, List.setIfInBounds_toArray, List.set_cons_zero, List.set_cons_succ]
    refine planG_q (v := ?_) (by rfl) (S.out) ?_ ?_
    rotate_left
    · intro W hW
      go_simp
      with_reducible rfl
    simp only [Act.put, List.setIfInBounds_toArray, List.set_cons_zero, List.set_cons_succ]
    refine planG_q (v := ?_) (by rfl) (S.out) ?_ ?_
    rotate_left
    · intro W hW
      go_simp
      with_reducible rfl
    simp only [Act.put, List.setIfInBounds_toArray, List.set_cons_zero, List.set_cons_succ]
    refine planG_q (v := ?_) (by rfl) (S.out) ?_ ?_
    rotate_left
    · intro W hW
      go_simp
      with_reducible rfl
    simp only [Act.put, List.setIfInBounds_toArray, List.set_cons_zero, List.set_cons_succ]
    refine planG_q (by rfl) (S.out) (fun W hW => run_str 22 9 (.tmp 79) rfl Try.underlying22 Try.underlying5 Try.underlying9 hW.2.2 y y DL.out rfl) ?_
    simp only [Act.put, List.setIfInBounds_toArray, List.set_cons_zero, List.set_cons_succ]
    refine planG_q (v := ?_) (by rfl) (S.out) ?_ ?_
    rotate_left
    · intro W hW
      go_simp
      with_reducible rfl
    simp only [Act.put, List.setIfInBounds_toArray, List.set_cons_zero, List.set_cons_succ]
    refine planG_q (v := ?_) (by rfl) (S.out) ?_ ?_
    rotate_left
    · intro W hW
      go_simp
      with_reducible rfl
    simp only [Act.put, List.setIfInBounds_toArray, List.set_cons_zero, List.set_cons_succ]
    refine planG_q (v := ?_) (by rfl) (S.out) ?_ ?_
    rotate_left
    · intro W hW
      go_simp
      with_reducible rfl
    simp only [Act.put, List.setIfInBounds_toArray, List.set_cons_zero, List.set_cons_succ]
    refine planG_q (by rfl) (S.out) (fun W hW => run_str 22 9 (.tmp 83) rfl Try.underlying22 Try.underlying5 Try.underlying9 (hW.2.1.take y) y z (by rw [← DE.out]; exact DL.out) rfl) ?_
    simp only [Act.put, List.setIfInBounds_toArray, List.set_cons_zero, List.set_cons_succ]
    refine planG_q (by rfl) (S.out) (fun W hW => run_eqstr_true 9 9 (.tmp 80) (.tmp 84) rfl D (X.take y) DE.out rfl rfl W) ?_
    simp only [Act.put, List.setIfInBounds_toArray, List.set_cons_zero, List.set_cons_succ]
    refine planG_q (v := ?_) (by rfl) (S.out) ?_ ?_
    rotate_left
    · intro W hW
      go_simp
      with_reducible rfl
    simp only [Act.put, List.setIfInBounds_toArray, List.set_cons_zero, List.set_cons_succ]
    refine planG_q (v := ?_) (by rfl) (S.out) ?_ ?_
    rotate_left
    · intro W hW
      go_simp
      with_reducible rfl
    simp only [Act.put, List.setIfInBounds_toArray, List.set_cons_zero, List.set_cons_succ]
    refine planG_q (v := ?_) (by rfl) (S.out) ?_ ?_
    rotate_left
    · intro W hW
      go_simp
      with_reducible rfl
    simp only [Act.put, List.setIfInBounds_toArray, List.set_cons_zero, List.set_cons_succ]
    refine planG_q (v := ?_) (by rfl) (S.out) ?_ ?_
    rotate_left
    · intro W hW
      go_simp
      with_reducible rfl
    simp only [Act.put, List.setIfInBounds_toArray, List.set_cons_zero, List.set_cons_succ]
    refine planG_t (by rfl) (fun K hK => ?_)
    go_simp
    refine (kdfOne_true _).mono ?_
    rintro e w7 ⟨rfl, hb⟩
    have S := Lib.hid (And.intro (S.out.1.keep hb) (And.intro (S.out.2.1.keep hb) (S.out.2.2.keep hb)))
    clear hb
    refine hK.out _ _ (S.out) ?_
    clear hK K
    refine planG_q (v := ?_) (by rfl) (S.out) ?_ ?_
    rotate_left
    · intro W hW
      go_simp
      with_reducible rfl
    simp only [Act.put, List.setIfInBounds_toArray, List.set_cons_zero, List.set_cons_succ]
    refine planG_q (v := ?_) (by rfl) (S.out) ?_ ?_
    rotate_left
    · intro W hW
      go_simp
      with_reducible rfl
    simp only [Act.put, List.setIfInBounds_toArray, List.set_cons_zero, List.set_cons_succ]
    refine planG_nil ?_
    go_wp2_with fail
    go_ret
    exact ⟨rfl, S.out.1.bel⟩
end Go.Proofs.Ytimdlnamicgdnaa
