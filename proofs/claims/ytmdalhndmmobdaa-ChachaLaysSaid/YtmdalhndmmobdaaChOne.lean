/- The known block, which every statement of the layer asks: it is told. No condition. -/
import Derived.Test.YtmdalhndmmobdaaProg
import Derived.Test.YtmdalhndmmobdaaStream
namespace Go.Proofs.Ytmdalhndmmobdaa
open Go.RowKit
attribute [local go_sem ↓] Go.wp_at_zero Go.wp_at_succ

def kf : Nat → List UInt8
  | 0 => List.replicate 32 0
  | j + 1 => (kf j).set j (UInt8.ofNat j)
theorem kf_length (j : Nat) : (kf j).length = 32 := by
  induction j with
  | zero => simp [kf]
  | succ j ih => simp [kf, ih]
def n0 : List UInt8 := [0, 0, 0, 9, 0, 0, 0, 0x4a, 0, 0, 0, 0]
theorem block0 : (blockL (kf 32) n0 1).getD 0 0 = 0x10 ∧ (blockL (kf 32) n0 1).getD 1 0 = 0xf1 ∧ (blockL (kf 32) n0 1).getD 63 0 = 0x4e := by decide +kernel
theorem byte_of_nat (j : Nat) : IntKind.u8.wrap (j : Int) = ((UInt8.ofNat j).toNat : Int) := by
  rw [IntKind.wrap_u8]
  simp

theorem byte_of_nat_mod (j : Nat) : (j : Int) % 256 = ((UInt8.ofNat j).toNat : Int) := by simp

set_option maxRecDepth 100000 in
set_option maxHeartbeats 1000000 in
theorem one_true (w : World) : Calls Try.prog 9 #[] w fun e w' => e = .returned (.bool true) ∧ Below w.heap.size w w' := by
  obtain ⟨B, hB⟩ : ∃ B, B = blockL (kf 32) n0 1 := ⟨_, rfl⟩
  have hb := block0
  rw [← hB] at hb
  have HBB := Lib.hid hB
  have hBl := Lib.hid (show B.length = 64 by rw [hB, blockL_length])
  obtain ⟨x0, hx0⟩ : ∃ x, x = B.getD 0 0 := ⟨_, rfl⟩
  obtain ⟨x1, hx1⟩ : ∃ x, x = B.getD 1 0 := ⟨_, rfl⟩
  obtain ⟨x2, hx2⟩ : ∃ x, x = B.getD 63 0 := ⟨_, rfl⟩
  rw [← hx0, ← hx1, ← hx2] at hb
  have b0 := Lib.hid (show ((x0.toNat : Int) == 16) = true by rw [hb.1]; rfl)
  have b1 := Lib.hid (show ((x1.toNat : Int) == 241) = true by rw [hb.2.1]; rfl)
  have b2 := Lib.hid (show ((x2.toNat : Int) == 78) = true by rw [hb.2.2]; rfl)
  have X0 := Lib.hid hx0
  have X1 := Lib.hid hx1
  have X2 := Lib.hid hx2
  have ZK := Lib.hid (show (Try.prog.info? 23).map (·.size) = some (W8 (kf 32)).size by rw [W8_size, kf_length]; kernel_rfl)
  have ZB := Lib.hid (show (Try.prog.info? 27).map (·.size) = some (W8 B).size by rw [W8_size, hBl.out]; kernel_rfl)
  clear hb hB hx0 hx1 hx2
  go_enter Try.func9, Try.ntmps9
  go_wp2_with fail
  refine wp_abs (fun W => W.heap[w.heap.size]? = some (.cells (W8 (kf 0)) 23 (0, 0)) ∧ Below w.heap.size w W) ⟨ha_new _ _ _ rfl, (Below.refl _ _).alloc (Nat.le_refl _) _⟩ ?_
  rintro w1 ⟨hk1, hl1⟩
  have K1 := Lib.hid hk1
  have L1 := Lib.hid hl1
  clear hk1 hl1
  go_loopw [2] (fun i wr => ∃ j : Nat, j ≤ 32 ∧ i = .int .i64 (j : Int) ∧ wr.heap[w.heap.size]? = some (.cells (W8 (kf j)) 23 (0, 0)) ∧ Below w.heap.size w wr) (fun i _ => 32 - (intOf i).toNat)
  case atStart => exact ⟨0, by omega, rfl, K1.out, L1.out⟩
  case round =>
    obtain ⟨j, hj, rfl, hk2, hl2⟩ := hrel
    have K2 := Lib.hid hk2
    have L2 := Lib.hid hl2
    have HJ := Lib.hid hj
    clear hk2 hl2 hj K1 L1 w1
    by_cases hlt : j < 32
    · have hD : decide ((j : Int) < 32) = true := by simp; omega
      have a1 := row_cell K2.out j (W8_get _ j (by rw [kf_length]; exact hlt))
      have a2 := row_free K2.out j
      have e1 := byte_of_nat j
      have b1 : (j : Int) < 32 := by omega
      go_wp2_with fail
      go_roundw
      case rel =>
        rw [byte_of_nat_mod]
        refine ⟨j + 1, by omega, by go_num, ?_, L2.out.setCell (Nat.le_refl _) _⟩
        rw [heap_setCell_same _ _ _ _ _ _ K2.out, W8_set, kf]
      case measure => simp [intOf]; omega
    · have hj32 : Hid (j = 32) := show j = 32 by have := HJ.out; omega
      have hD : decide ((j : Int) < 32) = false := by simp; omega
      have K3 : Hid (wr.heap[w.heap.size]? = some (.cells (W8 (kf 32)) 23 (0, 0))) := by rw [← hj32.out]; exact K2.out
      go_wp2_with (refine wpList_load_row rfl 23 (.tmp 1) rfl w.heap.size rfl 23 (W8 (kf 32)) (0, 0) _ K3.out Try.underlying23 rfl ZK.out ?_)
      refine (block_any (kf 32) n0 (kf_length 32) rfl 1 _).mono ?_
      rw [← HBB.out]
      rintro e w3 ⟨rfl, hb3⟩
      have L3 := Lib.hid (L2.out.trans (hb3.mono L2.out.size))
      clear hb3
      go_upto_region 7 with (refine wpList_store_new rfl rfl 27 (.tmp 3) (.tmp 14) rfl (W8 B) rfl rfl ZB.out ?c1 (W8_one _) ?_)
      case c1 => rw [W8_size, hBl.out]; rfl
      have M := ha_new w3 (.cells (W8 B) 27) _ rfl
      have c0 := row_cell M 0 (W8_get B 0 (by rw [hBl.out]; omega))
      have c1 := row_cell M 1 (W8_get B 1 (by rw [hBl.out]; omega))
      have c2 := row_cell M 63 (W8_get B 63 (by rw [hBl.out]; omega))
      rw [← X0.out] at c0
      rw [← X1.out] at c1
      rw [← X2.out] at c2
      have d0 := b0.out
      have d1 := b1.out
      have d2 := b2.out
      clear M
      go_wp2_with fail
      go_ret
      exact ⟨rfl, L3.out.alloc L3.out.size _⟩
end Go.Proofs.Ytmdalhndmmobdaa
