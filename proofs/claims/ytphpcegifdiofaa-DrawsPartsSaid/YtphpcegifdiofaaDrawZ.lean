/- A source that is none, or that nobody made. No condition but those each theorem states. -/
import Derived.Test.YtphpcegifdiofaaDrawW
namespace Go.Proofs.Ytphpcegifdiofaa
set_option linter.unusedVariables false
set_option linter.unusedSimpArgs false
open Go.RowKit
attribute [local go_sem ↓] Go.wp_at_zero Go.wp_at_succ

set_option maxRecDepth 100000 in
set_option maxHeartbeats 1000000 in
theorem usedN_none (w : World) : Calls Try.prog 9 #[.pointer none] w fun e w' => e = .returned (.int .i64 0) ∧ w' = w := by
  go_enter Try.func9, Try.ntmps9
  go_wp2_with fail
  go_ret
  exact ⟨rfl, rfl⟩
set_option maxRecDepth 100000 in
set_option maxHeartbeats 1000000 in
theorem cloneN_none (w : World) : Calls Try.prog 12 #[.pointer none] w fun e w' => e = .returned (.pointer none) ∧ w' = w := by
  go_enter Try.func12, Try.ntmps12
  go_wp2_with fail
  go_ret
  exact ⟨rfl, rfl⟩
set_option maxRecDepth 100000 in
set_option maxHeartbeats 1000000 in
theorem keyN_none (w : World) : Calls Try.prog 10 #[.pointer none] w fun e w' => e = .returned (.agg (W8 (List.replicate 32 0))) ∧ Below w.heap.size w w' := by
  have Z := Lib.hid (show (Try.prog.info? 30).map (·.size) = some (W8 (List.replicate 32 0)).size by kernel_rfl)
  have ZB := Lib.hid (show ∀ W : World, (Instr.build 30 #[]).run Try.prog W = .ok (.agg (W8 (List.replicate 32 0))) W by intro W; kernel_rfl)
  have Z32 := Lib.hid zero32
  go_enter Try.func10, Try.ntmps10
  go_upto_region 1 with fail
  rw [← Z32.out]
  have G := Lib.hid (ha_new w (.cells (W8 (List.replicate 32 0)) 30) _ rfl)
  have B := Lib.hid (below_new w (.cells (W8 (List.replicate 32 0)) 30))
  generalize World.alloc w _ = w1 at *
  obtain ⟨NB, hNB⟩ : ∃ NB, NB = w.heap.size := ⟨_, rfl⟩
  have NE := Lib.hid hNB.symm
  rw [← hNB] at G ⊢
  clear hNB
  have hz : ∀ (o : Oper) (a : Act) (W : World), o.op = .build 30 #[] → (execOp a.eval o).run Try.prog W = .ok (.value (.agg (W8 (List.replicate 32 0)))) W := by
    intro o a W ho
    unfold execOp
    simp only [ho, List.map_toArray, List.map_nil, Sem.run_bind, ZB.out, Result.andThen_ok, Sem.run_pure]
  have HZ := Lib.hid hz
  clear hz
  go_wp2_with (first
    | (refine wpList_val rfl (HZ.out _ _ _ rfl) ?_)
    | (refine wpList_store_whole rfl rfl 30 (.tmp 2) (.tmp 5) rfl NB (W8 (List.replicate 32 0)) rfl rfl 30 _ G.out Z.out rfl (W8_one _) ?_; intro w8 hz8 hg8 hs8))
  refine bodyPost_ret (results_cell_row rfl _ _ NB 30 (W8 (List.replicate 32 0)) (0, 0) _ rfl hz8 Try.underlying30 rfl Z.out) rfl ⟨rfl, ?_⟩
  exact B.out.trans (grown_below hg8 B.out.size (by rintro k ⟨⟩; rw [NE.out]; exact Nat.le_refl _))
theorem run_zerokey {o : Oper} {a : Act} (ho : o.op = .build 30 #[]) (W : World) : (execOp a.eval o).run Try.prog W = .ok (.value (.agg (W8 (List.replicate 32 0)))) W := by
  have h2 : ∀ W : World, (Instr.build 30 #[]).run Try.prog W = .ok (.agg (W8 (List.replicate 32 0))) W := by
    intro W
    kernel_rfl
  unfold execOp
  simp only [ho, List.map_toArray, List.map_nil, Sem.run_bind, h2, Result.andThen_ok, Sem.run_pure]
theorem run_zerosrc {o : Oper} {a : Act} (ho : o.op = .build 40 #[]) (W : World) :
    (execOp a.eval o).run Try.prog W = .ok (.value (.agg (SrcC (.slice none 0 0) (List.replicate 32 0) false 0 0 false (List.replicate 32 0)))) W := by
  have h2 : ∀ (W : World), (Instr.build 40 #[]).run Try.prog W = .ok (.agg (SrcC (.slice none 0 0) (List.replicate 32 0) false 0 0 false (List.replicate 32 0))) W := by
    intro W
    kernel_rfl
  unfold execOp
  simp only [ho, List.map_toArray, List.map_nil, Sem.run_bind, h2, Result.andThen_ok, Sem.run_pure]
end Go.Proofs.Ytphpcegifdiofaa
