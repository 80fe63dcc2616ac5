/- The law PolySums, walked. -/
import Derived.Test.YtcpagoeaknlieaaRefPTag
import Derived.Test.YtcpagoeaknlieaaPolyOne
import Derived.Test.YtcpagoeaknlieaaBls
import Derived.Test.YtcpagoeaknlieaaTree
import Derived.Deep.DeepCutAuto
namespace Go.Proofs.Ytcpagoeaknlieaa
set_option linter.unusedVariables false
set_option linter.unusedSimpArgs false
open Go.RowKit
attribute [local go_sem ↓] Go.wp_at_zero Go.wp_at_succ

theorem run_load_bytes' {P : Program} {o : Oper} {a : Act} (ty : TypeId) (x : Operand) (ho : o.op = .load ty x) (b off : Nat) (hx : a.eval x = .pointer (some ⟨b, off, none⟩)) (l : List UInt8) {W : World} (h : W.rangeAt b off (B8 l)) {d : TypeDesc} (hu : P.underlying ty = some d)
    (hd : d.isRow = true) (hi : (P.info? ty).map (·.size) = some (B8 l).length) : (execOp a.eval o).run P W = .ok (.value (.agg (W8 l))) W := by
  unfold execOp
  simp only [ho, hx, Instr.loadAt, Instr.sureAddr, Sem.run_bind, Sem.run_pure, Result.andThen_ok, run_loadVar_mid W b off _ _ _ h hu hd hi]
  rfl
set_option maxRecDepth 100000 in
set_option maxHeartbeats 4000000 in
theorem polySums_walk (w : World) (key : List UInt8) (hk : key.length = 32) (A1 : Option Addr) (c1 : Nat) (l1 : List UInt8) (R1 : RdB w A1 l1) (n1 : l1.length ≤ c1) (m1 : c1 ≤ 9223372036854775807) (b1 : ∀ a, A1 = some a → a.block < w.heap.size) (z1 : l1.length ≤ 140737488351232) :
    Calls Try.prog 3 #[.agg (W8 key), .slice A1 l1.length c1] w fun e w' => e = .returned (.bool true) ∧ Below w.heap.size w w' := by
  obtain ⟨i0, hi0, hz0, hz1, hz2⟩ := info_parts (show (Try.prog.info? 5).map (fun i => (i.zero, i.size, i.bytes)) = some (some (.int .u8 0), 1, 1) by kernel_rfl)
  have I0 := Lib.hid hi0
  have I1 := Lib.hid hz1
  obtain ⟨q1, hq1⟩ : ∃ q, q = l1.length := ⟨_, rfl⟩
  rw [← hq1] at n1 z1 ⊢
  have Q1 := Lib.hid hq1.symm
  have N1 := Lib.hid n1
  have H1 := Lib.hid R1
  have HK := Lib.hid hk
  have ZK := Lib.hid (show (Try.prog.info? 22).map (·.size) = some (W8 key).size by rw [W8_size, hk]; kernel_rfl)
  have d1 : (q1 : Int) ≤ 140737488351232 := by omega
  clear hi0 hz0 hz1 hz2 hk R1 n1 m1 b1 hq1
  go_enter Try.func3, Try.ntmps3
  go_upto_if 8 with fail
  generalize hB0 : Array.size (World.heap w) = B0
  generalize hw1 : World.alloc w _ = w1
  have S := Lib.hid (show Bls w [(22, B0, key)] w1 by rw [← hw1]; exact (Bls.start w).new _ _ hB0.symm)
  clear hB0 hw1
  go_cut [1] (fun v wx => ∃ (l : List UInt8) (q c : Nat), v = .slice A1 q c ∧ l.length = q ∧ q ≤ 300 ∧ q ≤ c ∧ RdB w A1 l ∧ Bls w [(22, B0, key)] wx)
  case first =>
    by_cases h : 300 < q1
    · have hD : decide ((300 : Int) < (q1 : Int)) = true := by simp; omega
      have CB := Lib.hid (show 300 ≤ c1 by have := N1.out; omega)
      go_wp2_with (refine wpList_val rfl (run_cut_to 23 (.tmp 9) (.const (.int .i64 300)) rfl 5 Try.underlying23 I0.out I1.out A1 q1 c1 300 rfl rfl CB.out _) ?_)
      go_meet
      exact ⟨l1.take 300, 300, c1, rfl, by rw [List.length_take, Q1.out]; omega, by omega, by have := N1.out; omega, H1.out.take 300, S.out⟩
    · have hD : decide ((300 : Int) < (q1 : Int)) = false := by simp; omega
      go_wp2_with fail
      go_meet
      exact ⟨l1, q1, c1, rfl, Q1.out, by omega, N1.out, H1.out, S.out⟩
  case rest =>
  obtain ⟨l, q, c, rfl, hl, hq, hc, hr, hs⟩ := hcut
  have L := Lib.hid hl
  have Q := Lib.hid hq
  have C := Lib.hid hc
  have R := Lib.hid hr
  have S := Lib.hid hs
  clear hl hq hc hr hs
  obtain ⟨k16, hk16⟩ : ∃ k, k = key.take 16 := ⟨_, rfl⟩
  have KL := Lib.hid (show k16.length = 16 by rw [hk16, List.length_take, HK.out]; rfl)
  have ZH := Lib.hid (show (Try.prog.info? 24).map (·.size) = some (B8 k16).length by rw [B8_length, KL.out]; kernel_rfl)
  have G0 := Lib.hid (show wc.rangeAt B0 0 (B8 k16) by rw [hk16]; exact range_row (S.out.blk (List.mem_cons_self ..)) 0 16 (by rw [HK.out]; omega))
  clear hk16
  go_upto_region 4 with (first
    | (refine wpList_val rfl (run_arr_to 22 (.tmp 2) (.const (.int .i64 16)) rfl 32 5 Try.underlying22 I0.out B0 16 (by omega) rfl rfl _) ?_)
    | (refine wpList_val rfl (run_sl2arr 24 (.tmp 11) rfl 16 5 Try.underlying24 (some ⟨B0, 0, none⟩) 16 32 rfl (Nat.le_refl _) _) ?_)
    | (refine wpList_val rfl (run_load_bytes' 24 (.tmp 12) rfl B0 0 rfl k16 G0.out Try.underlying24 rfl ZH.out) ?_)
    | (refine wpList_store_new rfl rfl 24 (.tmp 5) (.tmp 13) rfl (W8 k16) rfl rfl (info_16 KL.out) ?c1 (W8_one _) ?_))
  case c1 => rw [W8_size, KL.out]; rfl
  generalize hB1 : Array.size (World.heap wc) = B1
  generalize hw2 : World.alloc wc _ = w2
  have S := Lib.hid (show Bls w [(24, B1, k16), (22, B0, key)] w2 by rw [← hw2]; exact S.out.new _ _ hB1.symm)
  clear hB1 hw2 G0
  have S := Lib.hid (show Bls w [(24, B1, k16), (22, B0, key)] w2.drew from S.out.keep (Below.refl _ _).drew)
  refine wp_region_road (fun W => Bls w [(24, B1, k16), (22, B0, key)] W) [(true, 0), (true, 1), (true, 3), (true, 4), (true, 5), (false, 2), (false, 6), (true, 7), (true, 8), (true, 9), (true, 11), (false, 10), (false, 12), (true, 13), (true, 14), (true, 15), (false, 16), (true, 17), (true, 18)] (by kernel_rfl) (by kernel_rfl) (fun _ _ d _ _ h => by cases d <;> exact h) ?_
  simp only [List.filterMap_cons, List.filterMap_nil, List.getElem?_toArray, List.getElem?_cons_zero, List.getElem?_cons_succ, Option.map_some]
  refine planG_q (by rfl) (S.out) (fun W hW => run_load_row 22 (.tmp 2) rfl B0 rfl 22 (W8 key) (0, 0) _ (hW.blk (by simp)) Try.underlying22 rfl ZK.out) ?_
  simp only [Act.put, List.setIfInBounds_toArray, List.set_cons_zero, List.set_cons_succ]
  refine planG_q (v := ?_) (by rfl) (S.out) ?_ ?_
  rotate_left
  · intro W hW
    go_simp
    with_reducible rfl
  simp only [Act.put, List.setIfInBounds_toArray, List.set_cons_zero, List.set_cons_succ]
  refine planG_q (by rfl) (S.out) (fun W hW => run_load_row 22 (.tmp 2) rfl B0 rfl 22 (W8 key) (0, 0) _ (hW.blk (by simp)) Try.underlying22 rfl ZK.out) ?_
  simp only [Act.put, List.setIfInBounds_toArray, List.set_cons_zero, List.set_cons_succ]
  refine planG_q (v := ?_) (by rfl) (S.out) ?_ ?_
  rotate_left
  · intro W hW
    go_simp
    with_reducible rfl
  simp only [Act.put, List.setIfInBounds_toArray, List.set_cons_zero, List.set_cons_succ]
  refine planG_q (by rfl) (S.out) (fun W hW => run_str 23 9 (.tmp 18) rfl Try.underlying23 Try.underlying5 Try.underlying9 (R.out.keep hW.bel) q c L.out rfl) ?_
  simp only [Act.put, List.setIfInBounds_toArray, List.set_cons_zero, List.set_cons_succ]
  refine planG_t (by rfl) (fun K hK => ?_)
  go_simp
  refine (polySum_any key HK.out _ A1 q c l L.out C.out (R.out.keep S.out.bel) (by have := Q.out; omega)).mono ?_
  obtain ⟨P, hP⟩ : ∃ P, P = polyL key l := ⟨_, rfl⟩
  rw [← hP]
  have PE := Lib.hid hP.symm
  have PL := Lib.hid (show P.length = 16 by rw [hP, polyL_length])
  rintro e w3 ⟨rfl, hb⟩
  have S := Lib.hid (S.out.keep hb)
  clear hb hP
  refine hK.out _ _ (S.out) ?_
  clear hK K
  refine planG_t (by rfl) (fun K hK => ?_)
  go_simp
  refine (rpsum_any key HK.out l q L.out (by have := Q.out; omega) _).mono ?_
  rw [PE.out]
  rintro e w4 ⟨rfl, hb⟩
  have S := Lib.hid (S.out.keep hb)
  clear hb
  refine hK.out _ _ (S.out) ?_
  clear hK K
  refine planG_q (by rfl) (S.out) (fun W hW => run_eq_arr_true 24 _ (.tmp 16) (.tmp 20) rfl 5 16 Try.underlying24 Try.underlying5 (by kernel_rfl) (by kernel_rfl) P P PL.out rfl rfl rfl W) ?_
  simp only [Act.put, List.setIfInBounds_toArray, List.set_cons_zero, List.set_cons_succ]
  refine planG_q (v := ?_) (by rfl) (S.out) ?_ ?_
  rotate_left
  · intro W hW
    go_simp
    with_reducible rfl
  simp only [Act.put, List.setIfInBounds_toArray, List.set_cons_zero, List.set_cons_succ]
  refine planG_q (by rfl) (S.out) (fun W hW => run_load_row 24 (.tmp 5) rfl B1 rfl 24 (W8 k16) (0, 0) _ (hW.blk (by simp)) Try.underlying24 rfl (info_16 KL.out)) ?_
  simp only [Act.put, List.setIfInBounds_toArray, List.set_cons_zero, List.set_cons_succ]
  refine planG_q (by rfl) (S.out) (fun W hW => run_load_row 24 (.tmp 5) rfl B1 rfl 24 (W8 k16) (0, 0) _ (hW.blk (by simp)) Try.underlying24 rfl (info_16 KL.out)) ?_
  simp only [Act.put, List.setIfInBounds_toArray, List.set_cons_zero, List.set_cons_succ]
  refine planG_t (by rfl) (fun K hK => ?_)
  go_simp
  refine (clamp_any k16 KL.out _).mono ?_
  obtain ⟨C16, hC⟩ : ∃ C, C = clampL k16 := ⟨_, rfl⟩
  rw [← hC]
  have CE := Lib.hid hC.symm
  have CL := Lib.hid (show C16.length = 16 by rw [hC, clampL_length, KL.out])
  rintro e w5 ⟨rfl, hb⟩
  have S := Lib.hid (S.out.keep hb)
  clear hb hC
  refine hK.out _ _ (S.out) ?_
  clear hK K
  refine planG_t (by rfl) (fun K hK => ?_)
  go_simp
  refine (clampR_any k16 KL.out _).mono ?_
  rw [CE.out]
  rintro e w6 ⟨rfl, hb⟩
  have S := Lib.hid (S.out.keep hb)
  clear hb
  refine hK.out _ _ (S.out) ?_
  clear hK K
  refine planG_q (by rfl) (S.out) (fun W hW => run_eq_arr_true 24 _ (.tmp 24) (.tmp 26) rfl 5 16 Try.underlying24 Try.underlying5 (by kernel_rfl) (by kernel_rfl) C16 C16 CL.out rfl rfl rfl W) ?_
  simp only [Act.put, List.setIfInBounds_toArray, List.set_cons_zero, List.set_cons_succ]
  refine planG_q (v := ?_) (by rfl) (S.out) ?_ ?_
  rotate_left
  · intro W hW
    go_simp
    with_reducible rfl
  simp only [Act.put, List.setIfInBounds_toArray, List.set_cons_zero, List.set_cons_succ]
  refine planG_q (v := ?_) (by rfl) (S.out) ?_ ?_
  rotate_left
  · intro W hW
    go_simp
    with_reducible rfl
  simp only [Act.put, List.setIfInBounds_toArray, List.set_cons_zero, List.set_cons_succ]
  refine planG_t (by rfl) (fun K hK => ?_)
  go_simp
  refine (polyOne_true _).mono ?_
  rintro e w7 ⟨rfl, hb⟩
  have S := Lib.hid (S.out.keep hb)
  clear hb
  refine hK.out _ _ (S.out) ?_
  clear hK K
  refine planG_q (v := ?_) (by rfl) (S.out) ?_ ?_
  rotate_left
  · intro W hW
    go_simp
    with_reducible rfl
  simp only [Act.put, List.setIfInBounds_toArray, List.set_cons_zero, List.set_cons_succ]
  refine planG_q (v := ?_) (by rfl) (S.out) ?_ ?_
  rotate_left
  · intro W hW
    go_simp
    with_reducible rfl
  simp only [Act.put, List.setIfInBounds_toArray, List.set_cons_zero, List.set_cons_succ]
  refine planG_nil ?_
  have BF := Lib.hid S.out.bel
  go_wp2_with fail
  go_ret
  exact ⟨rfl, BF.out⟩
end Go.Proofs.Ytcpagoeaknlieaa
