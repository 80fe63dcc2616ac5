/- A text that is laid, and read: every statement of the layer asks it. No condition. -/
import Derived.Test.YtcmpiockcndejaaRdrSz
import Derived.Test.YtcmpiockcndejaaSized
import Derived.Lib.SlBytesConst
namespace Go.Proofs.Ytcmpiockcndejaa
set_option linter.unusedVariables false
set_option linter.unusedSimpArgs false
open Go.RowKit
attribute [local go_sem ↓] Go.wp_at_zero Go.wp_at_succ

theorem one_sized : sizedS ⟨[0, 0, 0, 2, 97, 98], 0⟩ = (⟨[], 0⟩, [97, 98]) := by kernel_rfl
theorem one_laid : ([] ++ sizedL [97, 98] : List UInt8) = [0, 0, 0, 2, 97, 98] := by kernel_rfl
set_option maxRecDepth 100000 in
set_option maxHeartbeats 1000000 in
theorem wireOne_true (w : World) : Calls Try.prog 13 #[] w fun e w' => e = .returned (.bool true) ∧ Below w.heap.size w w' := by
  have hcv := Lib.run_convert_bytes_const (P := Try.prog) w 23 5 #[.int .u8 97, .int .u8 98] 2 2 Try.underlying23 Try.underlying5
  go_enter Try.func13, Try.ntmps13
  go_wp2_with fail
  clear hcv
  generalize hw : World.alloc w _ = w1
  have hb : Below w.heap.size w w1 := by rw [← hw]; exact below_new _ _
  have R1 : RdB w1 (some ⟨w.heap.size, 0, none⟩) [97, 98] := RdB.row (t := 5) (fr := (2, 3)) (by rw [← hw]; exact ha_new w _ _ rfl)
  have S := Lib.hid hb
  clear hw hb
  refine (sized_any w1 none 0 0 [] (some ⟨w.heap.size, 0, none⟩) 2 2 [97, 98] rfl (RdB.nil _ _) rfl R1 (by omega)).mono ?_
  rw [one_laid]
  rintro e w2 ⟨v, rfl, ho, hb⟩
  obtain ⟨A, c, rfl, hr, hl, _, _⟩ := ho.read
  have RB := Lib.hid hr
  have S := Lib.hid (S.out.trans (hb.mono S.out.size))
  clear ho hb hr hl R1
  go_wp2_with fail
  refine (rnew_any w2 A 6 c [0, 0, 0, 2, 97, 98] rfl RB.out (by omega)).mono ?_
  rintro e w3 ⟨g, D, rfl, hg, hD, hr, hb⟩
  have RB := Lib.hid (RB.out.keep hb)
  have R := Lib.hid hr
  have GB := Lib.hid (show w.heap.size ≤ g from Nat.le_trans S.out.size hg)
  have S := Lib.hid (S.out.trans (hb.mono S.out.size))
  clear hg hD hr hb
  go_wp2_with (first
    | (refine wpList_val rfl (run_str 23 9 (.tmp 8) rfl Try.underlying23 Try.underlying5 Try.underlying9 RB.out 6 c rfl rfl) ?_)
    | (refine wpList_val rfl (run_eqstr_true 9 9 (.tmp 9) (.const (.string { data := #[0, 0, 0, 2, 97, 98] })) rfl [0, 0, 0, 2, 97, 98] [0, 0, 0, 2, 97, 98] rfl rfl rfl _) ?_))
  refine (rsz_any g D ⟨[0, 0, 0, 2, 97, 98], 0⟩ w3 R.out).mono ?_
  rw [one_sized]
  rintro e w4 ⟨⟨v, rfl, ho⟩, hr, hg⟩
  have R2 := Lib.hid hr
  obtain ⟨A4, c4, rfl, hr4, _⟩ := ho.read
  have RC := Lib.hid hr4
  have S := Lib.hid (S.out.trans (grown_below hg S.out.size (by rintro k ⟨⟩; exact GB.out)))
  clear ho hr hg hr4 R RB
  go_wp2_with (first
    | (refine wpList_valg rfl (run_str 23 9 (.tmp 13) rfl Try.underlying23 Try.underlying5 Try.underlying9 RC.out 2 c4 rfl rfl) ?_)
    | (refine wpList_valg rfl (run_eqstr_true 9 9 (.tmp 14) (.const (.string { data := #[97, 98] })) rfl [97, 98] [97, 98] rfl rfl rfl _) ?_))
  refine (done_any g D ⟨[], 0⟩ w4 R2.out).mono ?_
  rw [show doneS ⟨[], 0⟩ = 0 by rfl]
  rintro e w5 ⟨rfl, hw⟩
  rw [hw]
  clear hw w5
  go_wp2_with fail
  go_ret
  exact ⟨rfl, S.out⟩
end Go.Proofs.Ytcmpiockcndejaa
