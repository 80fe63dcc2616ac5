/- The law ChachaBlocks, walked. -/
import Derived.Test.YtmdalhndmmobdaaRefBlk
import Derived.Test.YtmdalhndmmobdaaChOne
import Derived.Test.YtmdalhndmmobdaaEqArr
namespace Go.Proofs.Ytmdalhndmmobdaa
set_option linter.unusedVariables false
set_option linter.unusedSimpArgs false
open Go.RowKit
attribute [local go_sem ↓] Go.wp_at_zero Go.wp_at_succ

set_option maxRecDepth 100000 in
set_option maxHeartbeats 2000000 in
theorem chachaBlocks_walk (w : World) (k : List UInt8) (hk : k.length = 32) (n : List UInt8) (hn : n.length = 12) (count : UInt32) :
    Calls Try.prog 3 #[.agg (W8 k), .agg (W8 n), .int .u32 (count.toNat : Int)] w fun e w' => e = .returned (.bool true) ∧ Below w.heap.size w w' := by
  have HK := Lib.hid hk
  have HN := Lib.hid hn
  obtain ⟨i0, hi, hz0, hz1, hz2⟩ := info_parts (show (Try.prog.info? 5).map (fun i => (i.zero, i.size, i.bytes)) = some (some (.int .u8 0), 1, 1) by kernel_rfl)
  have I0 := Lib.hid hi
  clear hi hz0 hz1 hz2
  have ZK := Lib.hid (show (Try.prog.info? 23).map (·.size) = some (W8 k).size by rw [W8_size, HK.out]; kernel_rfl)
  have ZN := Lib.hid (show (Try.prog.info? 25).map (·.size) = some (W8 n).size by rw [W8_size, HN.out]; kernel_rfl)
  clear hk hn
  go_enter Try.func3, Try.ntmps3
  go_upto_region 1 with fail
  refine wp_abs (fun W => StrW w k n W) (str_start w k n) ?_
  intro w2 H2'
  have H2 := Lib.hid H2'
  clear H2'
  refine wp_region_plan (StrW w k n) [0, 1, 2, 4, 5, 6, 7, 8] [3, 9, 10, 11, 12, 13, 14] (by kernel_rfl) (by kernel_rfl) (fun _ _ d _ _ h => by cases d <;> exact h) (H2.out.below ((Below.refl _ _).drew)) ?_
  simp only [List.filterMap_cons, List.filterMap_nil, List.getElem?_toArray, List.getElem?_cons_zero, List.getElem?_cons_succ]
  refine planQ_cons (by rfl) (fun W hW => run_load_row 23 (.tmp 3) rfl w.heap.size rfl 23 (W8 k) (0, 0) _ hW.bk Try.underlying23 rfl ZK.out) ?_
  simp only [Act.put, List.setIfInBounds_toArray, List.set_cons_zero, List.set_cons_succ]
  refine planQ_cons (by rfl) (fun W hW => run_load_row 25 (.tmp 4) rfl (w.heap.size + 1) rfl 25 (W8 n) (0, 0) _ hW.bn Try.underlying25 rfl ZN.out) ?_
  simp only [Act.put, List.setIfInBounds_toArray, List.set_cons_zero, List.set_cons_succ]
  refine planQ_cons (v := ?_) (by rfl) ?_ ?_
  rotate_left
  · intro W hW
    go_simp
    with_reducible rfl
  simp only [Act.put, List.setIfInBounds_toArray, List.set_cons_zero, List.set_cons_succ]
  refine planQ_cons (by rfl) (fun W hW => run_arr_all 23 (.tmp 3) rfl 32 5 Try.underlying23 I0.out w.heap.size rfl W) ?_
  simp only [Act.put, List.setIfInBounds_toArray, List.set_cons_zero, List.set_cons_succ]
  refine planQ_cons (by rfl) (fun W hW => run_str 30 9 (.tmp 11) rfl Try.underlying30 Try.underlying5 Try.underlying9 (RdB.row hW.bk) 32 32 HK.out rfl) ?_
  simp only [Act.put, List.setIfInBounds_toArray, List.set_cons_zero, List.set_cons_succ]
  refine planQ_cons (by rfl) (fun W hW => run_arr_all 25 (.tmp 4) rfl 12 5 Try.underlying25 I0.out (w.heap.size + 1) rfl W) ?_
  simp only [Act.put, List.setIfInBounds_toArray, List.set_cons_zero, List.set_cons_succ]
  refine planQ_cons (by rfl) (fun W hW => run_str 30 9 (.tmp 13) rfl Try.underlying30 Try.underlying5 Try.underlying9 (RdB.row hW.bn) 12 12 HN.out rfl) ?_
  simp only [Act.put, List.setIfInBounds_toArray, List.set_cons_zero, List.set_cons_succ]
  refine planQ_cons (v := ?_) (by rfl) ?_ ?_
  rotate_left
  · intro W hW
    go_simp
    with_reducible rfl
  simp only [Act.put, List.setIfInBounds_toArray, List.set_cons_zero, List.set_cons_succ]
  refine planQ_nil ?_
  refine planT_cons (by rfl) (fun K hK => ?_)
  go_simp
  refine (block_any k n HK.out HN.out count _).mono ?_
  rintro e w3 ⟨rfl, hb3⟩
  have H3 := Lib.hid ((H2.out.below ((Below.refl _ _).drew)).below hb3)
  clear hb3
  refine hK.out _ _ (H3.out) ?_
  clear hK K
  refine planT_cons (by rfl) (fun K hK => ?_)
  go_simp
  refine (refBlock_any k n HK.out HN.out count _).mono ?_
  rintro e w4 ⟨rfl, hb4⟩
  have H4 := Lib.hid (H3.out.below hb4)
  clear hb4 H3
  obtain ⟨b, hb⟩ : ∃ b, b = blockL k n count := ⟨_, rfl⟩
  rw [← hb]
  have HB := Lib.hid (show b.length = 64 by rw [hb, blockL_length])
  clear hb
  refine hK.out _ _ (H4.out) ?_
  clear hK K
  refine planT_val (by rfl) (H4.out) (run_eq_arr 27 _ (.tmp 10) (.tmp 16) rfl 5 64 Try.underlying27 Try.underlying5 (by kernel_rfl) (by kernel_rfl) b b HB.out HB.out rfl rfl _) ?_
  simp only [Act.put, List.setIfInBounds_toArray, List.set_cons_zero, List.set_cons_succ]
  simp only [decide_true]
  refine planT_val (v := ?_) (by rfl) (H4.out) ?_ ?_
  rotate_left
  · go_simp
    with_reducible rfl
  simp only [Act.put, List.setIfInBounds_toArray, List.set_cons_zero, List.set_cons_succ]
  refine planT_cons (by rfl) (fun K hK => ?_)
  go_simp
  refine (one_true _).mono ?_
  rintro e w9 ⟨rfl, hb9⟩
  have H9 := Lib.hid (H4.out.below hb9)
  clear hb9
  refine hK.out _ _ (H9.out) ?_
  clear hK K
  refine planT_val (v := ?_) (by rfl) (H9.out) ?_ ?_
  rotate_left
  · go_simp
    with_reducible rfl
  simp only [Act.put, List.setIfInBounds_toArray, List.set_cons_zero, List.set_cons_succ]
  refine planT_val (v := ?_) (by rfl) (H9.out) ?_ ?_
  rotate_left
  · go_simp
    with_reducible rfl
  simp only [Act.put, List.setIfInBounds_toArray, List.set_cons_zero, List.set_cons_succ]
  refine planT_nil ?_
  go_wp2_with fail
  go_ret
  exact ⟨rfl, H9.out.bel⟩
end Go.Proofs.Ytmdalhndmmobdaa
