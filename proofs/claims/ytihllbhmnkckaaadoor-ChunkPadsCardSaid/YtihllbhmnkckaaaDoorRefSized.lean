/- The reference's Sized. No condition but those each theorem states. -/
import Derived.Test.YtihllbhmnkckaaaDoorRefPut
import Derived.Test.YtihllbhmnkckaaaDoorSized
import Derived.Test.YtihllbhmnkckaaaDoorStrRow
namespace Go.Proofs.YtihllbhmnkckaaaDoor
set_option linter.unusedVariables false
set_option linter.unusedSimpArgs false
open Go.RowKit
attribute [local go_sem ↓] Go.wp_at_zero Go.wp_at_succ

set_option maxRecDepth 100000 in
set_option maxHeartbeats 1000000 in
theorem rsized_any (b l : List UInt8) (n : Nat) (hn : l.length = n) (hb : b.length ≤ 1000000000) (hl : n ≤ 1000000000) (w : World) :
    Calls Tryd.prog 22 #[.string (strB b), .string (strB l)] w fun e w' => e = .returned (.string (strB (b ++ sizedL l))) ∧ Below w.heap.size w w' := by
  have SZ := strB_size l
  rw [hn] at SZ
  have HB := Lib.hid hb
  have HN := Lib.hid hn
  obtain ⟨x, hx, e1⟩ := u64_len n (by omega)
  clear hb hn
  go_enter Tryd.func22, Tryd.ntmps22
  go_wp2_with fail
  clear SZ
  refine (rput_any b x 4 (by omega) (by have := HB.out; omega) w).mono ?_
  rw [show beL (putN 4) x.toNat = beL 4 l.length by rw [hx.out, HN.out]; rfl]
  obtain ⟨s, hs⟩ : ∃ s, s = b ++ beL 4 l.length := ⟨_, rfl⟩
  rw [← hs]
  have SE := Lib.hid hs
  have SL := Lib.hid (show s.length = b.length + 4 by rw [hs, List.length_append, beL_length])
  rintro e w1 ⟨rfl, hb1⟩
  have S := Lib.hid hb1
  clear hs hb1 e1
  go_wp2_with (refine wpList_val rfl (run_cat 9 _ (.tmp 9) (.tmp 10) rfl s l rfl rfl (by have := SL.out; have := HB.out; have := HN.out; omega) _) ?_)
  go_ret
  exact ⟨by rw [SE.out, sizedL, ← List.append_assoc]; rfl, S.out⟩
end Go.Proofs.YtihllbhmnkckaaaDoor
