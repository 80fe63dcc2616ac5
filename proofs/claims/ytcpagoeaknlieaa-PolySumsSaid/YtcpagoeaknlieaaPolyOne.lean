/- The known tag, which every statement of the layer asks: it is told. No condition. -/
import Derived.Test.YtcpagoeaknlieaaPolySum
import Derived.Test.YtcpagoeaknlieaaEqArr
namespace Go.Proofs.Ytcpagoeaknlieaa
set_option linter.unusedVariables false
set_option linter.unusedSimpArgs false
open Go.RowKit
attribute [local go_sem ↓] Go.wp_at_zero Go.wp_at_succ

def oneK : List UInt8 := [2, 0, 0, 0, 0, 0, 0, 0, 0, 0, 0, 0, 0, 0, 0, 0, 0, 0, 0, 0, 0, 0, 0, 0, 0, 0, 0, 0, 0, 0, 0, 0]
def oneT : List UInt8 := [255, 255, 255, 255, 255, 255, 255, 255, 255, 255, 255, 255, 255, 255, 255, 255]
def oneE : List UInt8 := [3, 0, 0, 0, 0, 0, 0, 0, 0, 0, 0, 0, 0, 0, 0, 0]
theorem polyOne : polyL oneK oneT = oneE := by decide +kernel
theorem info_32 {l : List UInt8} (h : l.length = 32) : (Try.prog.info? 22).map (·.size) = some (W8 l).size := by rw [W8_size, h]; kernel_rfl
set_option maxRecDepth 100000 in
set_option maxHeartbeats 1000000 in
theorem polyOne_true (w : World) : Calls Try.prog 11 #[] w fun e w' => e = .returned (.bool true) ∧ Below w.heap.size w w' := by
  have P1 := Lib.hid polyOne
  go_enter Try.func11, Try.ntmps11
  go_upto_region 2 with (refine wpList_store_new rfl rfl 22 (.tmp 1) (.tmp 3) rfl (W8 oneK) rfl rfl (info_32 rfl) ?c1 (W8_one _) ?_)
  case c1 => rfl
  obtain ⟨w1, hw1⟩ : ∃ w1, w1 = w.alloc (.cells (W8 oneK) 22) := ⟨_, rfl⟩
  have S1 := Lib.hid (show w1.heap[w.heap.size]? = some (.cells (W8 oneK) 22 (0, 0)) ∧ Below w.heap.size w w1 ∧ w1.heap.size = w.heap.size + 1 by rw [hw1]; exact ⟨ha_new _ _ _ rfl, (Below.refl _ _).alloc (Nat.le_refl _) _, ha_size _ _⟩)
  rw [← hw1]
  clear hw1
  go_wp2_with (refine wpList_load_row rfl 22 (.tmp 1) rfl w.heap.size rfl 22 (W8 oneK) (0, 0) _ S1.out.1 Try.underlying22 rfl (info_32 rfl) ?_)
  refine (polySum_any oneK rfl _ (some ⟨w1.heap.size, 0, none⟩) 16 16 oneT rfl (Nat.le_refl _) (RdB.row (t := 5) (fr := (0, 0)) (ha_new w1 _ _ rfl)) (by omega)).mono ?_
  rw [P1.out]
  rintro e w2 ⟨rfl, hb2⟩
  have B2 := Lib.hid (S1.out.2.1.trans (((Below.refl w1.heap.size w1).alloc (Nat.le_refl _) _ |>.trans (hb2.mono (by simp))).mono (by rw [S1.out.2.2]; omega)))
  clear hb2
  go_upto_region 3 with (refine wpList_store_new rfl rfl 24 (.tmp 2) (.tmp 6) rfl (W8 oneE) rfl rfl (info_16 rfl) ?c2 (W8_one _) ?_)
  case c2 => rfl
  have M := Lib.hid (ha_new w2 (.cells (W8 oneE) 24) _ rfl)
  go_wp2_with (first
    | (refine wpList_load_row rfl 24 (.tmp 2) rfl w2.heap.size rfl 24 (W8 oneE) (0, 0) _ M.out Try.underlying24 rfl (info_16 rfl) ?_)
    | (refine wpList_val rfl (run_eq_arr_true 24 _ (.tmp 7) (.tmp 8) rfl 5 16 Try.underlying24 Try.underlying5 (by kernel_rfl) (by kernel_rfl) oneE oneE rfl rfl rfl rfl _) ?_))
  go_ret
  exact ⟨rfl, B2.out.alloc B2.out.size _⟩
end Go.Proofs.Ytcpagoeaknlieaa
