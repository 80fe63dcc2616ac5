/- The known sum, which every statement of the layer asks: it is told. No condition. -/
import Derived.Test.YtpplmogcjjgphaaShaOf
import Derived.Lib.SlBytesConst
namespace Go.Proofs.Ytpplmogcjjgphaa
set_option linter.unusedVariables false
set_option linter.unusedSimpArgs false
open Go.RowKit
attribute [local go_sem ↓] Go.wp_at_zero Go.wp_at_succ

theorem abc0 : (hashL [97, 98, 99]).getD 0 0 = 0xba ∧ (hashL [97, 98, 99]).getD 1 0 = 0x78 ∧ (hashL [97, 98, 99]).getD 31 0 = 0xad := by decide +kernel
set_option maxRecDepth 100000 in
set_option maxHeartbeats 1000000 in
theorem shaOne_true (w : World) : Calls Try.prog 9 #[] w fun e w' => e = .returned (.bool true) ∧ Below w.heap.size w w' := by
  obtain ⟨B, hB⟩ : ∃ B, B = hashL [97, 98, 99] := ⟨_, rfl⟩
  have hb := abc0
  rw [← hB] at hb
  have HBB := Lib.hid hB
  have hBl := Lib.hid (show B.length = 32 by rw [hB, hashL_length])
  obtain ⟨x0, hx0⟩ : ∃ x, x = B.getD 0 0 := ⟨_, rfl⟩
  obtain ⟨x1, hx1⟩ : ∃ x, x = B.getD 1 0 := ⟨_, rfl⟩
  obtain ⟨x2, hx2⟩ : ∃ x, x = B.getD 31 0 := ⟨_, rfl⟩
  rw [← hx0, ← hx1, ← hx2] at hb
  have b0 := Lib.hid (show ((x0.toNat : Int) == 186) = true by rw [hb.1]; rfl)
  have b1 := Lib.hid (show ((x1.toNat : Int) == 120) = true by rw [hb.2.1]; rfl)
  have b2 := Lib.hid (show ((x2.toNat : Int) == 173) = true by rw [hb.2.2]; rfl)
  have X0 := Lib.hid hx0
  have X1 := Lib.hid hx1
  have X2 := Lib.hid hx2
  have ZB := Lib.hid (show (Try.prog.info? 23).map (·.size) = some (W8 B).size by rw [W8_size, hBl.out]; kernel_rfl)
  have hcv := Lib.run_convert_bytes_const (P := Try.prog) w 22 5 #[.int .u8 97, .int .u8 98, .int .u8 99] 3 3 Try.underlying22 Try.underlying5
  clear hb hB hx0 hx1 hx2
  go_enter Try.func9, Try.ntmps9
  go_wp2_with fail
  clear hcv
  refine (shaSum_any _ (some ⟨w.heap.size, 0, none⟩) 3 3 [97, 98, 99] rfl (Nat.le_refl _) (RdB.row (t := 5) (fr := (3, 4)) (ha_new w _ _ rfl)) (by omega)).mono ?_
  rw [← HBB.out]
  rintro e w3 ⟨rfl, hb3⟩
  have L3 := Lib.hid (((Below.refl w.heap.size w).alloc (Nat.le_refl _) _).trans (hb3.mono (by simp)))
  clear hb3
  go_upto_region 2 with (refine wpList_store_new rfl rfl 23 (.tmp 1) (.tmp 4) rfl (W8 B) rfl rfl ZB.out ?c1 (W8_one _) ?_)
  case c1 => rw [W8_size, hBl.out]; rfl
  have M := ha_new w3 (.cells (W8 B) 23) _ rfl
  have c0 := row_cell M 0 (W8_get B 0 (by rw [hBl.out]; omega))
  have c1 := row_cell M 1 (W8_get B 1 (by rw [hBl.out]; omega))
  have c2 := row_cell M 31 (W8_get B 31 (by rw [hBl.out]; omega))
  rw [← X0.out] at c0
  rw [← X1.out] at c1
  rw [← X2.out] at c2
  have d0 := b0.out
  have d1 := b1.out
  have d2 := b2.out
  clear M
  go_wp2_with fail
  go_ret
  exact ⟨rfl, L3.out.alloc L3.out.size _⟩
end Go.Proofs.Ytpplmogcjjgphaa
