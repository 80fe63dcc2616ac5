/- The known text, which every statement of the layer asks: it is padded as it is told. -/
import Derived.Test.YtihllbhmnkckaaaDoorPad
import Derived.Test.YtihllbhmnkckaaaDoorCuts
import Derived.Test.YtihllbhmnkckaaaDoorPlan
import Derived.Lib.SlBytesConst
namespace Go.Proofs.YtihllbhmnkckaaaDoor
set_option linter.unusedVariables false
set_option linter.unusedSimpArgs false
open Go.RowKit
attribute [local go_sem ↓] Go.wp_at_zero Go.wp_at_succ

theorem padL_ab : (padL [97, 98]).take 6 = [0, 0, 0, 2, 97, 98] ∧ (padL [97, 98]).getD 255 0 = 0 ∧ (padL [97, 98]).length = 256 := by decide +kernel

set_option maxRecDepth 100000 in
set_option maxHeartbeats 1000000 in
theorem chunkOne_true (w : World) : Calls Tryd.prog 8 #[] w fun e w' => e = .returned (.bool true) ∧ Below w.heap.size w w' := by
  obtain ⟨i0, hi, hz0, hz1, hz2⟩ := info_parts (show (Tryd.prog.info? 5).map (fun i => (i.zero, i.size, i.bytes)) = some (some (.int .u8 0), 1, 1) by kernel_rfl)
  have I0 := Lib.hid hi
  have I2 := Lib.hid hz1
  clear hi hz0 hz1 hz2
  have hcv := Lib.run_convert_bytes_const (P := Tryd.prog) w 22 5 #[.int .u8 97, .int .u8 98] 2 2 Tryd.underlying22 Tryd.underlying5
  go_enter Tryd.func8, Tryd.ntmps8
  go_wp2_with fail
  clear hcv
  refine calls_abs (fun W => RdB W (some ⟨w.heap.size, 0, none⟩) [97, 98] ∧ Below w.heap.size w W ∧ w.heap.size < W.heap.size) ⟨RdB.row (t := 5) (fr := (2, 3)) (ha_new _ _ _ rfl), (Below.refl _ _).alloc (Nat.le_refl _) _, by simp⟩ ?_
  rintro w1 ⟨hr1, hb1, hs1⟩
  refine (pad_any w1 _ 2 2 [97, 98] rfl hr1 (fun a e => by cases e; exact hs1) (by omega)).mono ?_
  rintro e w2 ⟨v, rfl, ho, hb2⟩
  obtain ⟨A3, c3, rfl, hr3, hl3, _, _⟩ := ho.read
  obtain ⟨h1, h2, h3⟩ := padL_ab
  obtain ⟨P, hP⟩ : ∃ P, P = padL [97, 98] := ⟨_, rfl⟩
  rw [← hP] at h1 h2 h3 hl3 hr3
  rw [← hP, h3]
  rw [h3] at hl3
  obtain ⟨b, o, rfl, hc⟩ := hr3 255 (by omega)
  rw [h2] at hc
  have R3 := Lib.hid hr3
  have B3 := Lib.hid (hb1.trans (hb2.mono (by omega)))
  have T6 := Lib.hid h1
  have LN := Lib.hid h3
  have hcut := cut_to (P := Tryd.prog) 22 5 Tryd.underlying22 I0.out I2.out (some ⟨b, o, none⟩) 256 c3 6 (by omega)
  have hq : ((strB [0, 0, 0, 2, 97, 98]).toList == [0, 0, 0, 2, 97, 98]) = true := by decide +kernel
  have b6 : (6 : Int) ≤ (c3 : Int) := by omega
  replace hcut : ∀ W : World, (Instr.slice 22 (.slice (some ⟨b, o, none⟩) 256 c3) none (some (.int .i64 6)) none).run Tryd.prog W = .ok (.slice (some ⟨b, o, none⟩) 6 c3) W := hcut
  replace hc : w2.cell? ⟨b, o + 255, none⟩ = some (.int .u8 0) := hc
  have hstr : ∀ W, RdB W (some ⟨b, o, none⟩) P → (convert 22 9 (.slice (some ⟨b, o, none⟩) 6 c3)).run Tryd.prog W = .ok (.string (strB [0, 0, 0, 2, 97, 98])) W := fun W h => by
    have h' := h.take 6
    rw [T6.out] at h'
    exact conv_str Tryd.underlying22 Tryd.underlying5 Tryd.underlying9 h' 6 c3 rfl
  have S3 := hstr w2 R3.out
  clear hr3 h1 h2 h3 hl3 ho hP hb1 hs1 hb2 hr1 hstr
  go_wp2_with fail
  go_ret
  exact ⟨rfl, B3.out⟩
end Go.Proofs.YtihllbhmnkckaaaDoor
