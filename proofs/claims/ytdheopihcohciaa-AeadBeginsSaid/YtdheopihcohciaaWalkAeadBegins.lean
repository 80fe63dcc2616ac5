/- The law AeadBegins, walked. -/
import Derived.Test.YtdheopihcohciaaAeadW
namespace Go.Proofs.Ytdheopihcohciaa
set_option linter.unusedVariables false
set_option linter.unusedSimpArgs false
open Go.RowKit
attribute [local go_sem ↓] Go.wp_at_zero Go.wp_at_succ

set_option maxRecDepth 100000 in
set_option maxHeartbeats 4000000 in
theorem aeadBegins_walk (w : World) (k : List UInt8) (hk : k.length = 32) (A0 : Option Addr) (c0 : Nat) (l0 : List UInt8) (A1 : Option Addr) (c1 : Nat) (l1 : List UInt8)
    (R0 : RdB w A0 l0 ∧ l0.length ≤ c0 ∧ c0 ≤ 9223372036854775807 ∧ (∀ a, A0 = some a → a.block < w.heap.size)) (R1 : RdB w A1 l1 ∧ l1.length ≤ c1 ∧ c1 ≤ 9223372036854775807 ∧ (∀ a, A1 = some a → a.block < w.heap.size))
    (x : Int) (hx : -9223372036854775808 ≤ x ∧ x ≤ 9223372036854775807) :
    Calls Try.prog 5 #[.agg (W8 k), .agg #[.slice A0 l0.length c0, .slice A1 l1.length c1], .int .i64 x] w fun e w' => e = .returned (.bool true) ∧ Below w.heap.size w w' := by
  obtain ⟨i0, hi0, hz0, hz1, hz2⟩ := info_parts (show (Try.prog.info? 5).map (fun i => (i.zero, i.size, i.bytes)) = some (some (.int .u8 0), 1, 1) by kernel_rfl)
  have I0 := Lib.hid hi0
  have I1 := Lib.hid hz1
  obtain ⟨j0, hj0, hy0, hy1, hy2⟩ := info_parts (show (Try.prog.info? 24).map (fun i => (i.zero, i.size, i.bytes)) = some (some (.slice none 0 0), 1, 24) by kernel_rfl)
  have J0 := Lib.hid hj0
  have J1 := Lib.hid hy1
  have HK := Lib.hid hk
  have ZK := Lib.hid (show (Try.prog.info? 23).map (·.size) = some (W8 k).size by rw [W8_size, hk]; kernel_rfl)
  have H0 := Lib.hid R0
  have H1 := Lib.hid R1
  obtain ⟨q0, hq0⟩ : ∃ q, q = l0.length := ⟨_, rfl⟩
  obtain ⟨q1, hq1⟩ : ∃ q, q = l1.length := ⟨_, rfl⟩
  rw [← hq0, ← hq1]
  have Q0 := Lib.hid hq0.symm
  have Q1 := Lib.hid hq1.symm
  obtain ⟨mm, hmm, e1⟩ := mask_i64 x 1023 (by omega)
  replace e1 : bits .and .i64 x 1023 = (mm : Int) := e1
  have mmb : (mm : Int) ≤ 1023 := by omega
  clear hi0 hz0 hz1 hz2 hj0 hy0 hy1 hy2 hk R0 R1 hq0 hq1 hmm
  go_enter Try.func5, Try.ntmps5
  go_upto_region 1 with fail
  generalize hw1 : World.alloc w _ = w1
  generalize hw2 : World.alloc w1 _ = w2
  have S := Lib.hid (show BgW w k w2 ∧ w2.heap[w.heap.size + 1]? = some (.cells #[.slice A0 q0 c0, .slice A1 q1 c1] 38 (0, 0)) by
    rw [← hw2, ← hw1]
    exact ⟨⟨((Below.refl _ _).alloc (Nat.le_refl _) _).alloc (by simp) _, ha_old _ _ _ (by simp) (ha_new _ _ _ rfl)⟩, ha_new _ _ _ (by simp)⟩)
  clear hw1 hw2
  have S := Lib.hid (show BgW w k w2.drew ∧ w2.drew.heap[w.heap.size + 1]? = some (.cells #[.slice A0 q0 c0, .slice A1 q1 c1] 38 (0, 0)) from ⟨S.out.1.keep (Below.refl _ _).drew, S.out.2⟩)
  refine wp_region_road (fun W => BgW w k W ∧ W.heap[w.heap.size + 1]? = some (.cells #[.slice A0 q0 c0, .slice A1 q1 c1] 38 (0, 0))) [(true, 0), (true, 1), (true, 3), (true, 4), (false, 2), (false, 5), (true, 6), (true, 7)] (by kernel_rfl) (by kernel_rfl) (fun _ _ d _ _ h => by cases d <;> exact h) ?_
  simp only [List.filterMap_cons, List.filterMap_nil, List.getElem?_toArray, List.getElem?_cons_zero, List.getElem?_cons_succ, Option.map_some]
  refine planG_q (by rfl) (S.out) (fun W hW => run_iaddr_arr 38 (.tmp 4) (.const (.int .i64 0)) rfl 2 24 Try.underlying38 J0.out J1.out (w.heap.size + 1) 0 (by omega) .i64 _ rfl rfl rfl W) ?_
  simp only [Act.put, List.setIfInBounds_toArray, List.set_cons_zero, List.set_cons_succ]
  refine planG_q (by rfl) (S.out) (fun W hW => run_cell 24 (.tmp 12) rfl _ Try.underlying24 rfl rfl (row_cell hW.2 0 rfl)) ?_
  simp only [Act.put, List.setIfInBounds_toArray, List.set_cons_zero, List.set_cons_succ]
  refine planG_q (by rfl) (S.out) (fun W hW => run_iaddr_arr 38 (.tmp 4) (.const (.int .i64 1)) rfl 2 24 Try.underlying38 J0.out J1.out (w.heap.size + 1) 1 (by omega) .i64 _ rfl rfl rfl W) ?_
  simp only [Act.put, List.setIfInBounds_toArray, List.set_cons_zero, List.set_cons_succ]
  refine planG_q (by rfl) (S.out) (fun W hW => run_cell 24 (.tmp 15) rfl _ Try.underlying24 rfl rfl (row_cell hW.2 1 rfl)) ?_
  simp only [Act.put, List.setIfInBounds_toArray, List.set_cons_zero, List.set_cons_succ]
  refine planG_t (by rfl) (fun K hK => ?_)
  go_simp
  refine (short_any _ A0 q0 c0 l0 Q0.out (by have := H0.out.2.1; have := Q0.out; omega) 600 (by omega)).mono ?_
  obtain ⟨t, ht⟩ : ∃ t, t = l0.take 600 := ⟨_, rfl⟩
  obtain ⟨q, hq⟩ : ∃ q, q = t.length := ⟨_, rfl⟩
  rw [← ht, ← hq]
  have TL := Lib.hid hq.symm
  have TQ := Lib.hid (show q ≤ 600 ∧ q ≤ c0 by have := H0.out.2.1; rw [hq, ht, List.length_take]; omega)
  have TR := Lib.hid (show RdB w A0 t by rw [ht]; exact H0.out.1.take _)
  rintro e wd ⟨rfl, hw⟩
  rw [hw]
  clear hw wd ht hq
  refine hK.out _ _ (S.out) ?_
  clear hK K
  refine planG_t (by rfl) (fun K hK => ?_)
  go_simp
  refine (short_any _ A1 q1 c1 l1 Q1.out (by have := H1.out.2.1; have := Q1.out; omega) 200 (by omega)).mono ?_
  obtain ⟨b, hb⟩ : ∃ b, b = l1.take 200 := ⟨_, rfl⟩
  obtain ⟨p, hp⟩ : ∃ p, p = b.length := ⟨_, rfl⟩
  rw [← hb, ← hp]
  have BL := Lib.hid hp.symm
  have BQ := Lib.hid (show p ≤ 200 ∧ p ≤ c1 by have := H1.out.2.1; rw [hp, hb, List.length_take]; omega)
  have BR := Lib.hid (show RdB w A1 b by rw [hb]; exact H1.out.1.take _)
  rintro e wd ⟨rfl, hw⟩
  rw [hw]
  clear hw wd hb hp
  refine hK.out _ _ (S.out) ?_
  clear hK K
  refine planG_q (v := ?_) (by rfl) (S.out) ?_ ?_
  rotate_left
  · intro W hW
    go_simp
    with_reducible rfl
  simp only [Act.put, List.setIfInBounds_toArray, List.set_cons_zero, List.set_cons_succ]
  refine planG_q (v := ?_) (by rfl) (S.out) ?_ ?_
  rotate_left
  · intro W hW
    go_simp
    with_reducible rfl
  simp only [Act.put, List.setIfInBounds_toArray, List.set_cons_zero, List.set_cons_succ]
  refine planG_nil ?_
  obtain ⟨w3, hw3⟩ : ∃ w3, w3 = w2.drew := ⟨_, rfl⟩
  rw [← hw3] at S ⊢
  clear hw3
  have S := Lib.hid S.out.1
  obtain ⟨m, hm⟩ : ∃ m, m = min mm q := ⟨_, rfl⟩
  have MQ := Lib.hid (show m ≤ q by omega)
  have qb : (q : Int) ≤ 600 := by have := TQ.out; omega
  go_upto_if 23 with fail
  clear e1
  go_cut [2] (fun v wx => v = .int .i64 (m : Int) ∧ wx = w3)
  case first =>
    by_cases hlt : q < mm
    · have hD : decide ((q : Int) < (mm : Int)) = true := by simp; omega
      have ME := Lib.hid (show q = m by omega)
      clear hm
      go_wp2_with fail
      go_meet
      exact ⟨by rw [ME.out], rfl⟩
    · have hD : decide ((q : Int) < (mm : Int)) = false := by simp; omega
      have ME := Lib.hid (show mm = m by omega)
      clear hm
      go_wp2_with fail
      go_meet
      exact ⟨by rw [ME.out], rfl⟩
  case rest =>
  obtain ⟨rfl, rfl⟩ := hcut
  clear hm
  obtain ⟨n9, hn9⟩ : ∃ n, n = ((9 : UInt8) :: List.replicate 11 0) := ⟨_, rfl⟩
  have N9 := Lib.hid (show n9.length = 12 by rw [hn9]; rfl)
  have RN := Lib.hid (fun (o : Oper) (a : Act) ho W => show (execOp a.eval o).run Try.prog W = .ok (.value (.agg (W8 n9))) W by rw [hn9]; exact run_build_nonce (x := 9) 9 rfl ho W)
  clear hn9
  go_wp2_with (first
    | (refine wpList_val rfl (run_load_row 23 (.tmp 3) rfl w.heap.size rfl 23 (W8 k) (0, 0) _ S.out.bk Try.underlying23 rfl ZK.out) ?_)
    | (refine wpList_val rfl (RN.out _ _ rfl _) ?_))
  refine (seal_any k n9 HK.out N9.out wc A1 p c1 b BL.out (BR.out.keep S.out.bel) A0 q c0 t TL.out TQ.out.2 (TR.out.keep S.out.bel) (fun a e => Nat.lt_of_lt_of_le (H0.out.2.2.2 a e) S.out.bel.size) (by have := BQ.out; omega) (by have := TQ.out; omega)).mono ?_
  obtain ⟨a, ha⟩ : ∃ a, a = sealL k n9 b t := ⟨_, rfl⟩
  obtain ⟨qa, hqa⟩ : ∃ q, q = a.length := ⟨_, rfl⟩
  have QA := Lib.hid (show qa = q + 16 by rw [hqa, ha, sealL_length, TL.out])
  have AM := Lib.hid (show a.take m = streamL k n9 1 (t.take m) by rw [ha]; exact seal_take _ _ _ _ _ (by rw [TL.out]; exact MQ.out))
  have AQ := Lib.hid (show a.take q = streamL k n9 1 t by rw [ha, seal_take _ _ _ _ _ (by rw [TL.out]; exact Nat.le_refl _), List.take_of_length_le (by rw [TL.out]; exact Nat.le_refl _)])
  rw [← ha]
  rintro e w4 ⟨v, rfl, ho, hb⟩
  obtain ⟨Aa, ca, rfl, hra, hla, _, _⟩ := ho.read
  rw [← hqa] at hla ⊢
  have LA := Lib.hid hqa.symm
  have RA := Lib.hid hra
  have CA := Lib.hid hla
  have S := Lib.hid (S.out.keep hb)
  clear ho hb hra hla ha hqa
  have SB := Lib.hid (show BgW w k w4.drew ∧ RdB w4.drew Aa a from ⟨S.out.keep (Below.refl _ _).drew, RA.out.keep (Below.refl _ _).drew⟩)
  go_upto_region 6 with fail
  refine wp_region_road (fun W => BgW w k W ∧ RdB W Aa a) [(true, 0), (true, 1), (true, 2), (true, 3), (true, 4), (false, 5), (true, 6)] (by kernel_rfl) (by kernel_rfl) (fun _ _ d _ _ h => by cases d <;> exact h) ?_
  simp only [List.filterMap_cons, List.filterMap_nil, List.getElem?_toArray, List.getElem?_cons_zero, List.getElem?_cons_succ, Option.map_some]
  refine planG_q (by rfl) (SB.out) (fun W hW => run_load_row 23 (.tmp 3) rfl w.heap.size rfl 23 (W8 k) (0, 0) _ hW.1.bk Try.underlying23 rfl ZK.out) ?_
  simp only [Act.put, List.setIfInBounds_toArray, List.set_cons_zero, List.set_cons_succ]
  refine planG_q (by rfl) (SB.out) (fun W hW => RN.out _ _ rfl W) ?_
  simp only [Act.put, List.setIfInBounds_toArray, List.set_cons_zero, List.set_cons_succ]
  refine planG_q (v := ?_) (by rfl) (SB.out) ?_ ?_
  rotate_left
  · intro W hW
    go_simp
    with_reducible rfl
  simp only [Act.put, List.setIfInBounds_toArray, List.set_cons_zero, List.set_cons_succ]
  refine planG_q (v := ?_) (by rfl) (SB.out) ?_ ?_
  rotate_left
  · intro W hW
    go_simp
    with_reducible rfl
  simp only [Act.put, List.setIfInBounds_toArray, List.set_cons_zero, List.set_cons_succ]
  refine planG_q (by rfl) (SB.out) (fun W hW => run_cut_to 24 (.tmp 33) (.tmp 34) rfl 5 Try.underlying24 I0.out I1.out A0 q c0 m rfl rfl (by have := MQ.out; have := TQ.out; omega) W) ?_
  simp only [Act.put, List.setIfInBounds_toArray, List.set_cons_zero, List.set_cons_succ]
  refine planG_t (by rfl) (fun K hK => ?_)
  go_simp
  refine (seal_any k n9 HK.out N9.out _ none 0 0 [] rfl (RdB.nil _ _) A0 m c0 (t.take m) (by rw [List.length_take, TL.out]; have := MQ.out; omega) (by have := MQ.out; have := TQ.out; omega) ((TR.out.take m).keep SB.out.1.bel) (fun a e => Nat.lt_of_lt_of_le (H0.out.2.2.2 a e) SB.out.1.bel.size) (by omega) (by have := MQ.out; have := TQ.out; omega)).mono ?_
  obtain ⟨d, hd⟩ : ∃ d, d = sealL k n9 [] (t.take m) := ⟨_, rfl⟩
  obtain ⟨qd, hqd⟩ : ∃ q, q = d.length := ⟨_, rfl⟩
  have TML := Lib.hid (show (t.take m).length = m by rw [List.length_take, TL.out]; have := MQ.out; omega)
  have QD := Lib.hid (show qd = m + 16 by rw [hqd, hd, sealL_length, TML.out])
  have DM := Lib.hid (show d.take m = a.take m by rw [AM.out, hd, seal_take _ _ _ _ _ (by rw [TML.out]; exact Nat.le_refl _), List.take_of_length_le (by rw [TML.out]; exact Nat.le_refl _)])
  rw [← hd]
  rintro e w5 ⟨v, rfl, ho, hb⟩
  obtain ⟨Ad, cd, rfl, hrd, hld, _, _⟩ := ho.read
  rw [← hqd] at hld ⊢
  have LD := Lib.hid hqd.symm
  have RD := Lib.hid hrd
  have CD := Lib.hid hld
  have SB := Lib.hid (show BgW w k w5 ∧ RdB w5 Aa a from ⟨SB.out.1.keep hb, SB.out.2.keep hb⟩)
  clear ho hb hrd hld hd hqd S RA
  refine hK.out _ _ (SB.out) ?_
  clear hK K
  refine planG_q (v := ?_) (by rfl) (SB.out) ?_ ?_
  rotate_left
  · intro W hW
    go_simp
    with_reducible rfl
  simp only [Act.put, List.setIfInBounds_toArray, List.set_cons_zero, List.set_cons_succ]
  refine planG_nil ?_
  go_wp2_with (first
    | (refine wpList_val rfl (run_load_row 23 (.tmp 3) rfl w.heap.size rfl 23 (W8 k) (0, 0) _ SB.out.1.bk Try.underlying23 rfl ZK.out) ?_)
    | (refine wpList_val rfl (RN.out _ _ rfl _) ?_))
  have SA := Lib.hid (stream_any k n9 HK.out N9.out 1 w5 A0 c0 t (TR.out.keep SB.out.1.bel) (by rw [TL.out]; exact TQ.out.2) (by have := TQ.out; have := TL.out; omega) (fun a e => Nat.lt_of_lt_of_le (H0.out.2.2.2 a e) SB.out.1.bel.size))
  rw [TL.out] at SA
  refine SA.out.mono ?_
  rw [← AQ.out]
  rintro e w6 ⟨v, rfl, ho, hb⟩
  obtain ⟨Ac, cc, rfl, hrc, _, _, _⟩ := ho.read
  have AQL := Lib.hid (show (a.take q).length = q by rw [List.length_take, LA.out, QA.out]; omega)
  rw [AQL.out]
  have RC := Lib.hid hrc
  have SB := Lib.hid (show Below w.heap.size w w6 ∧ RdB w6 Aa a ∧ RdB w6 Ad d ∧ RdB w6 Ac (a.take q) from ⟨(SB.out.1.keep hb).bel, SB.out.2.keep hb, RD.out.keep hb, hrc⟩)
  clear ho hb hrc SA RD RC
  go_upto_region 8 with fail
  have e2 : IntKind.i64.wrap ((m : Int) + 16) = (qd : Int) := by rw [QD.out, IntWalk.i64_in _ (by have := MQ.out; omega)]; rfl
  have e3 : decide (m ≤ qa) = true := by have := QA.out; have := MQ.out; simp; omega
  have S := Lib.hid (show Below w.heap.size w w6.drew ∧ RdB w6.drew Aa a ∧ RdB w6.drew Ad d ∧ RdB w6.drew Ac (a.take q) from ⟨SB.out.1.drew, SB.out.2.1.keep (Below.refl _ _).drew, SB.out.2.2.1.keep (Below.refl _ _).drew, SB.out.2.2.2.keep (Below.refl _ _).drew⟩)
  clear SB
  refine wp_region_road (fun W => Below w.heap.size w W ∧ RdB W Aa a ∧ RdB W Ad d ∧ RdB W Ac (a.take q)) [(true, 0), (true, 1), (true, 2), (true, 3), (true, 4), (true, 5), (true, 6), (true, 7), (true, 8), (true, 9), (true, 10), (true, 11), (true, 12), (true, 13), (true, 14), (true, 15), (true, 16), (true, 17), (true, 18), (true, 19), (true, 20), (true, 21), (true, 22), (true, 23), (true, 24), (true, 25), (true, 26), (true, 27), (true, 28), (true, 29), (true, 30), (true, 31), (true, 32), (false, 33), (true, 34), (true, 35)] (by kernel_rfl) (by kernel_rfl) (fun _ _ d _ _ h => by cases d <;> exact h) ?_
  simp only [List.filterMap_cons, List.filterMap_nil, List.getElem?_toArray, List.getElem?_cons_zero, List.getElem?_cons_succ, Option.map_some]
  refine planG_q (v := ?_) (by rfl) (S.out) ?_ ?_
  rotate_left
  · intro W hW
    go_simp
    with_reducible rfl
  simp only [Act.put, List.setIfInBounds_toArray, List.set_cons_zero, List.set_cons_succ]
  refine planG_q (v := ?_) (by rfl) (S.out) ?_ ?_
  rotate_left
  · intro W hW
    go_simp
    with_reducible rfl
  simp only [Act.put, List.setIfInBounds_toArray, List.set_cons_zero, List.set_cons_succ]
  refine planG_q (v := ?_) (by rfl) (S.out) ?_ ?_
  rotate_left
  · intro W hW
    go_simp
    with_reducible rfl
  simp only [Act.put, List.setIfInBounds_toArray, List.set_cons_zero, List.set_cons_succ]
  refine planG_q (v := ?_) (by rfl) (S.out) ?_ ?_
  rotate_left
  · intro W hW
    go_simp
    with_reducible rfl
  simp only [Act.put, List.setIfInBounds_toArray, List.set_cons_zero, List.set_cons_succ]
  refine planG_q (v := ?_) (by rfl) (S.out) ?_ ?_
  rotate_left
  · intro W hW
    go_simp
    with_reducible rfl
  simp only [Act.put, List.setIfInBounds_toArray, List.set_cons_zero, List.set_cons_succ]
  refine planG_q (v := ?_) (by rfl) (S.out) ?_ ?_
  rotate_left
  · intro W hW
    go_simp
    with_reducible rfl
  simp only [Act.put, List.setIfInBounds_toArray, List.set_cons_zero, List.set_cons_succ]
  refine planG_q (v := ?_) (by rfl) (S.out) ?_ ?_
  rotate_left
  · intro W hW
    go_simp
    with_reducible rfl
  simp only [Act.put, List.setIfInBounds_toArray, List.set_cons_zero, List.set_cons_succ]
  refine planG_q (v := ?_) (by rfl) (S.out) ?_ ?_
  rotate_left
  · intro W hW
    go_simp
    with_reducible rfl
  simp only [Act.put, List.setIfInBounds_toArray, List.set_cons_zero, List.set_cons_succ]
  refine planG_q (v := ?_) (by rfl) (S.out) ?_ ?_
  rotate_left
  · intro W hW
    go_simp
    with_reducible rfl
  simp only [Act.put, List.setIfInBounds_toArray, List.set_cons_zero, List.set_cons_succ]
  refine planG_q (v := ?_) (by rfl) (S.out) ?_ ?_
  rotate_left
  · intro W hW
    go_simp
    with_reducible rfl
  simp only [Act.put, List.setIfInBounds_toArray, List.set_cons_zero, List.set_cons_succ]
  refine planG_q (v := ?_) (by rfl) (S.out) ?_ ?_
  rotate_left
  · intro W hW
    go_simp
    with_reducible rfl
  simp only [Act.put, List.setIfInBounds_toArray, List.set_cons_zero, List.set_cons_succ]
  refine planG_q (v := ?_) (by rfl) (S.out) ?_ ?_
  rotate_left
  · intro W hW
    go_simp
    with_reducible rfl
  simp only [Act.put, List.setIfInBounds_toArray, List.set_cons_zero, List.set_cons_succ]
  refine planG_q (v := ?_) (by rfl) (S.out) ?_ ?_
  rotate_left
  · intro W hW
    go_simp
    with_reducible rfl
  simp only [Act.put, List.setIfInBounds_toArray, List.set_cons_zero, List.set_cons_succ]
  refine planG_q (v := ?_) (by rfl) (S.out) ?_ ?_
  rotate_left
  · intro W hW
    go_simp
    with_reducible rfl
  simp only [Act.put, List.setIfInBounds_toArray, List.set_cons_zero, List.set_cons_succ]
  refine planG_q (by rfl) (S.out) (fun W hW => run_cut_to 24 (.tmp 53) (.tmp 54) rfl 5 Try.underlying24 I0.out I1.out Aa qa ca m rfl rfl (by have := MQ.out; have := QA.out; have := CA.out; omega) W) ?_
  simp only [Act.put, List.setIfInBounds_toArray, List.set_cons_zero, List.set_cons_succ]
  refine planG_q (by rfl) (S.out) (fun W hW => run_str 24 9 (.tmp 55) rfl Try.underlying24 Try.underlying5 Try.underlying9 (hW.2.1.take m) m ca (by rw [List.length_take, LA.out, QA.out]; have := MQ.out; omega) rfl) ?_
  simp only [Act.put, List.setIfInBounds_toArray, List.set_cons_zero, List.set_cons_succ]
  refine planG_q (v := ?_) (by rfl) (S.out) ?_ ?_
  rotate_left
  · intro W hW
    go_simp
    with_reducible rfl
  simp only [Act.put, List.setIfInBounds_toArray, List.set_cons_zero, List.set_cons_succ]
  refine planG_q (v := ?_) (by rfl) (S.out) ?_ ?_
  rotate_left
  · intro W hW
    go_simp
    with_reducible rfl
  simp only [Act.put, List.setIfInBounds_toArray, List.set_cons_zero, List.set_cons_succ]
  refine planG_q (by rfl) (S.out) (fun W hW => run_cut_to 24 (.tmp 57) (.tmp 58) rfl 5 Try.underlying24 I0.out I1.out Ad qd cd m rfl rfl (by have := QD.out; have := CD.out; omega) W) ?_
  simp only [Act.put, List.setIfInBounds_toArray, List.set_cons_zero, List.set_cons_succ]
  refine planG_q (by rfl) (S.out) (fun W hW => run_str 24 9 (.tmp 59) rfl Try.underlying24 Try.underlying5 Try.underlying9 (hW.2.2.1.take m) m cd (by rw [List.length_take, LD.out, QD.out]; omega) rfl) ?_
  simp only [Act.put, List.setIfInBounds_toArray, List.set_cons_zero, List.set_cons_succ]
  refine planG_q (by rfl) (S.out) (fun W hW => run_eqstr_true 9 9 (.tmp 56) (.tmp 60) rfl _ _ DM.out.symm rfl rfl W) ?_
  simp only [Act.put, List.setIfInBounds_toArray, List.set_cons_zero, List.set_cons_succ]
  refine planG_q (v := ?_) (by rfl) (S.out) ?_ ?_
  rotate_left
  · intro W hW
    go_simp
    with_reducible rfl
  simp only [Act.put, List.setIfInBounds_toArray, List.set_cons_zero, List.set_cons_succ]
  refine planG_q (v := ?_) (by rfl) (S.out) ?_ ?_
  rotate_left
  · intro W hW
    go_simp
    with_reducible rfl
  simp only [Act.put, List.setIfInBounds_toArray, List.set_cons_zero, List.set_cons_succ]
  refine planG_q (v := ?_) (by rfl) (S.out) ?_ ?_
  rotate_left
  · intro W hW
    go_simp
    with_reducible rfl
  simp only [Act.put, List.setIfInBounds_toArray, List.set_cons_zero, List.set_cons_succ]
  refine planG_q (v := ?_) (by rfl) (S.out) ?_ ?_
  rotate_left
  · intro W hW
    go_simp
    with_reducible rfl
  simp only [Act.put, List.setIfInBounds_toArray, List.set_cons_zero, List.set_cons_succ]
  refine planG_q (v := ?_) (by rfl) (S.out) ?_ ?_
  rotate_left
  · intro W hW
    go_simp
    with_reducible rfl
  simp only [Act.put, List.setIfInBounds_toArray, List.set_cons_zero, List.set_cons_succ]
  refine planG_q (by rfl) (S.out) (fun W hW => run_cut_to 24 (.tmp 64) (.tmp 66) rfl 5 Try.underlying24 I0.out I1.out Aa qa ca q rfl rfl (by have := QA.out; have := CA.out; omega) W) ?_
  simp only [Act.put, List.setIfInBounds_toArray, List.set_cons_zero, List.set_cons_succ]
  refine planG_q (by rfl) (S.out) (fun W hW => run_str 24 9 (.tmp 67) rfl Try.underlying24 Try.underlying5 Try.underlying9 (hW.2.1.take q) q ca AQL.out rfl) ?_
  simp only [Act.put, List.setIfInBounds_toArray, List.set_cons_zero, List.set_cons_succ]
  refine planG_q (v := ?_) (by rfl) (S.out) ?_ ?_
  rotate_left
  · intro W hW
    go_simp
    with_reducible rfl
  simp only [Act.put, List.setIfInBounds_toArray, List.set_cons_zero, List.set_cons_succ]
  refine planG_q (by rfl) (S.out) (fun W hW => run_str 24 9 (.tmp 69) rfl Try.underlying24 Try.underlying5 Try.underlying9 hW.2.2.2 q cc AQL.out rfl) ?_
  simp only [Act.put, List.setIfInBounds_toArray, List.set_cons_zero, List.set_cons_succ]
  refine planG_q (by rfl) (S.out) (fun W hW => run_eqstr_true 9 9 (.tmp 68) (.tmp 70) rfl _ _ rfl rfl rfl W) ?_
  simp only [Act.put, List.setIfInBounds_toArray, List.set_cons_zero, List.set_cons_succ]
  refine planG_q (v := ?_) (by rfl) (S.out) ?_ ?_
  rotate_left
  · intro W hW
    go_simp
    with_reducible rfl
  simp only [Act.put, List.setIfInBounds_toArray, List.set_cons_zero, List.set_cons_succ]
  refine planG_q (v := ?_) (by rfl) (S.out) ?_ ?_
  rotate_left
  · intro W hW
    go_simp
    with_reducible rfl
  simp only [Act.put, List.setIfInBounds_toArray, List.set_cons_zero, List.set_cons_succ]
  clear e2 e3
  refine planG_t (by rfl) (fun K hK => ?_)
  go_simp
  refine (aeadOne_true _).mono ?_
  rintro e w7 ⟨rfl, hb⟩
  have S := Lib.hid (show Below w.heap.size w w7 ∧ RdB w7 Aa a ∧ RdB w7 Ad d ∧ RdB w7 Ac (a.take q) from ⟨S.out.1.trans (hb.mono S.out.1.size), S.out.2.1.keep hb, S.out.2.2.1.keep hb, S.out.2.2.2.keep hb⟩)
  clear hb
  refine hK.out _ _ (S.out) ?_
  clear hK K
  refine planG_q (v := ?_) (by rfl) (S.out) ?_ ?_
  rotate_left
  · intro W hW
    go_simp
    with_reducible rfl
  simp only [Act.put, List.setIfInBounds_toArray, List.set_cons_zero, List.set_cons_succ]
  refine planG_q (v := ?_) (by rfl) (S.out) ?_ ?_
  rotate_left
  · intro W hW
    go_simp
    with_reducible rfl
  simp only [Act.put, List.setIfInBounds_toArray, List.set_cons_zero, List.set_cons_succ]
  refine planG_nil ?_
  have BF := Lib.hid S.out.1
  go_wp2_with fail
  go_ret
  exact ⟨rfl, BF.out⟩
end Go.Proofs.Ytdheopihcohciaa
