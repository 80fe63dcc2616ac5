/- The known HMAC, which every statement of the layer asks: it is told. No condition. -/
import Derived.Test.YtimdlnamicgdnaaKdfMac
import Derived.Lib.SlBytesConst
namespace Go.Proofs.Ytimdlnamicgdnaa
set_option linter.unusedVariables false
set_option linter.unusedSimpArgs false
open Go.RowKit
attribute [local go_sem ↓] Go.wp_at_zero Go.wp_at_succ

def jefeK : List UInt8 := [74, 101, 102, 101]
def jefeA : List UInt8 := [119, 104, 97, 116, 32, 100, 111, 32, 121, 97, 32, 119, 97, 110, 116, 32]
def jefeB : List UInt8 := [102, 111, 114, 32, 110, 111, 116, 104, 105, 110, 103, 63]
theorem jefe0 : (macL jefeK [jefeA, jefeB].flatten).getD 0 0 = 0x5b ∧ (macL jefeK [jefeA, jefeB].flatten).getD 1 0 = 0xdc ∧ (macL jefeK [jefeA, jefeB].flatten).getD 31 0 = 0x43 := by decide +kernel
theorem cv_at {w : World} {C : Array Value} (g n c : Nat) (hg : g = w.heap.size) :
    (convert 22 22 (.slice (some ⟨g, 0, none⟩) n c)).run Try.prog (w.alloc (.cells C 5)) = .ok (.slice (some ⟨g, 0, none⟩) n c) (w.alloc (.cells C 5 (C.size, C.size + 1))) := by
  subst hg
  exact Lib.run_convert_bytes_const w 22 5 C n c Try.underlying22 Try.underlying5
set_option maxRecDepth 100000 in
set_option maxHeartbeats 1000000 in
theorem kdfOne_true (w : World) : Calls Try.prog 11 #[] w fun e w' => e = .returned (.bool true) ∧ Below w.heap.size w w' := by
  obtain ⟨B, hB⟩ : ∃ B, B = macL jefeK [jefeA, jefeB].flatten := ⟨_, rfl⟩
  have hb := jefe0
  rw [← hB] at hb
  have HBB := Lib.hid hB
  have hBl := Lib.hid (show B.length = 32 by rw [hB, macL_length])
  obtain ⟨x0, hx0⟩ : ∃ x, x = B.getD 0 0 := ⟨_, rfl⟩
  obtain ⟨x1, hx1⟩ : ∃ x, x = B.getD 1 0 := ⟨_, rfl⟩
  obtain ⟨x2, hx2⟩ : ∃ x, x = B.getD 31 0 := ⟨_, rfl⟩
  rw [← hx0, ← hx1, ← hx2] at hb
  have b0 := Lib.hid (show ((x0.toNat : Int) == 91) = true by rw [hb.1]; rfl)
  have b1 := Lib.hid (show ((x1.toNat : Int) == 220) = true by rw [hb.2.1]; rfl)
  have b2 := Lib.hid (show ((x2.toNat : Int) == 67) = true by rw [hb.2.2]; rfl)
  have X0 := Lib.hid hx0
  have X1 := Lib.hid hx1
  have X2 := Lib.hid hx2
  have ZB := Lib.hid (show (Try.prog.info? 24).map (·.size) = some (W8 B).size by rw [W8_size, hBl.out]; kernel_rfl)
  have h1 := cv_at (w := w) (C := #[.int .u8 74, .int .u8 101, .int .u8 102, .int .u8 101]) w.heap.size 4 4 rfl
  have h2 := cv_at (w := w.alloc (.cells #[.int .u8 74, .int .u8 101, .int .u8 102, .int .u8 101] 5 (4, 5))) (C := #[.int .u8 119, .int .u8 104, .int .u8 97, .int .u8 116, .int .u8 32, .int .u8 100, .int .u8 111, .int .u8 32, .int .u8 121, .int .u8 97, .int .u8 32, .int .u8 119, .int .u8 97, .int .u8 110, .int .u8 116, .int .u8 32]) (w.heap.size + 1) 16 16 (by simp)
  have h3 := cv_at (w := (w.alloc (.cells #[.int .u8 74, .int .u8 101, .int .u8 102, .int .u8 101] 5 (4, 5))).alloc (.cells #[.int .u8 119, .int .u8 104, .int .u8 97, .int .u8 116, .int .u8 32, .int .u8 100, .int .u8 111, .int .u8 32, .int .u8 121, .int .u8 97, .int .u8 32, .int .u8 119, .int .u8 97, .int .u8 110, .int .u8 116, .int .u8 32] 5 (16, 17))) (C := #[.int .u8 102, .int .u8 111, .int .u8 114, .int .u8 32, .int .u8 110, .int .u8 111, .int .u8 116, .int .u8 104, .int .u8 105, .int .u8 110, .int .u8 103, .int .u8 63]) (w.heap.size + 1 + 1) 12 12 (by simp)
  clear hb hB hx0 hx1 hx2
  go_enter Try.func11, Try.ntmps11
  go_wp2_with fail
  clear h1 h2 h3
  obtain ⟨w1, hw1⟩ : ∃ w1, w1 = w.alloc (.cells #[.int .u8 74, .int .u8 101, .int .u8 102, .int .u8 101] 5 (4, 5)) := ⟨_, rfl⟩
  obtain ⟨w2, hw2⟩ : ∃ w2, w2 = w1.alloc (.cells #[.int .u8 119, .int .u8 104, .int .u8 97, .int .u8 116, .int .u8 32, .int .u8 100, .int .u8 111, .int .u8 32, .int .u8 121, .int .u8 97, .int .u8 32, .int .u8 119, .int .u8 97, .int .u8 110, .int .u8 116, .int .u8 32] 5 (16, 17)) := ⟨_, rfl⟩
  obtain ⟨w3, hw3⟩ : ∃ w3, w3 = w2.alloc (.cells #[.int .u8 102, .int .u8 111, .int .u8 114, .int .u8 32, .int .u8 110, .int .u8 111, .int .u8 116, .int .u8 104, .int .u8 105, .int .u8 110, .int .u8 103, .int .u8 63] 5 (12, 13)) := ⟨_, rfl⟩
  obtain ⟨w4, hw4⟩ : ∃ w4, w4 = w3.alloc (.cells #[.slice (some ⟨w.heap.size + 1, 0, none⟩) 16 16, .slice (some ⟨w.heap.size + 1 + 1, 0, none⟩) 12 12] 22) := ⟨_, rfl⟩
  rw [← hw1, ← hw2, ← hw3, ← hw4]
  have z1 : w1.heap.size = w.heap.size + 1 := by rw [hw1, ha_size]
  have z2 : w2.heap.size = w.heap.size + 1 + 1 := by rw [hw2, ha_size, z1]
  have z3 : w3.heap.size = w.heap.size + 1 + 1 + 1 := by rw [hw3, ha_size, z2]
  have hb1 : Below w.heap.size w w1 := by rw [hw1]; exact (Below.refl _ _).alloc (Nat.le_refl _) _
  have hb2 : Below w1.heap.size w1 w2 := by rw [hw2]; exact (Below.refl _ _).alloc (Nat.le_refl _) _
  have hb3 : Below w2.heap.size w2 w3 := by rw [hw3]; exact (Below.refl _ _).alloc (Nat.le_refl _) _
  have hb4 : Below w3.heap.size w3 w4 := by rw [hw4]; exact (Below.refl _ _).alloc (Nat.le_refl _) _
  have R1 := Lib.hid ((((RdB.row (g := w.heap.size) (l := jefeK) (t := 5) (fr := (4, 5)) (by rw [hw1]; exact ha_new w _ _ rfl)).keep hb2).keep hb3).keep hb4)
  have R2 := Lib.hid (((RdB.row (g := w.heap.size + 1) (l := jefeA) (t := 5) (fr := (16, 17)) (by rw [hw2]; exact ha_new w1 _ _ z1.symm)).keep hb3).keep hb4)
  have R3 := Lib.hid ((RdB.row (g := w.heap.size + 1 + 1) (l := jefeB) (t := 5) (fr := (12, 13)) (by rw [hw3]; exact ha_new w2 _ _ z2.symm)).keep hb4)
  have RV := Lib.hid (RdV.row (g := w.heap.size + 1 + 1 + 1) (l := [.slice (some ⟨w.heap.size + 1, 0, none⟩) 16 16, .slice (some ⟨w.heap.size + 1 + 1, 0, none⟩) 12 12]) (t := 22) (fr := (0, 0)) (w := w4) (by rw [hw4]; exact ha_new w3 _ _ z3.symm))
  have BL := Lib.hid (hb1.trans ((hb2.mono hb1.size).trans ((hb3.mono (hb1.trans (hb2.mono hb1.size)).size).trans (hb4.mono (by omega)))))
  clear hb1 hb2 hb3 hb4 z1 z2 z3 hw1 hw2 hw3 hw4
  refine (mac_any _ (some ⟨w.heap.size, 0, none⟩) 4 4 jefeK rfl (Nat.le_refl _) R1.out (by omega) (some ⟨w.heap.size + 1 + 1 + 1, 0, none⟩) 2 2 _ [jefeA, jefeB] rfl RV.out (.cons ⟨_, 16, rfl, Nat.le_refl _, R2.out⟩ (.cons ⟨_, 12, rfl, Nat.le_refl _, R3.out⟩ .nil)) (by decide) (by omega)).mono ?_
  rw [← HBB.out]
  rintro e w5 ⟨rfl, hb5⟩
  have L3 := Lib.hid (BL.out.trans (hb5.mono BL.out.size))
  clear hb5
  go_upto_region 2 with (refine wpList_store_new rfl rfl 24 (.tmp 1) (.tmp 9) rfl (W8 B) rfl rfl ZB.out ?c1 (W8_one _) ?_)
  case c1 => rw [W8_size, hBl.out]; rfl
  have M := ha_new w5 (.cells (W8 B) 24) _ rfl
  have c0 := row_cell M 0 (W8_get B 0 (by rw [hBl.out]; omega))
  have c1 := row_cell M 1 (W8_get B 1 (by rw [hBl.out]; omega))
  have c2 := row_cell M 31 (W8_get B 31 (by rw [hBl.out]; omega))
  rw [← X0.out] at c0
  rw [← X1.out] at c1
  rw [← X2.out] at c2
  have d0 := b0.out
  have d1 := b1.out
  have d2 := b2.out
  clear M
  go_wp2_with fail
  go_ret
  exact ⟨rfl, L3.out.alloc L3.out.size _⟩
end Go.Proofs.Ytimdlnamicgdnaa
