/- The laws' own: at most so many bytes of a text. No condition but those each theorem states. -/
import Derived.Test.YtimdlnamicgdnaaProg
import Derived.Test.YtimdlnamicgdnaaOps
namespace Go.Proofs.Ytimdlnamicgdnaa
set_option linter.unusedVariables false
set_option linter.unusedSimpArgs false
open Go.RowKit
attribute [local go_sem ↓] Go.wp_at_zero Go.wp_at_succ
set_option maxRecDepth 100000 in
set_option maxHeartbeats 1000000 in
theorem ktext_any (w : World) (A : Option Addr) (n c : Nat) (l : List UInt8) (hn : l.length = n) (hc : n ≤ c) (k : Nat) (hk : k ≤ 100000) :
    Calls Try.prog 8 #[.slice A n c, .int .i64 (k : Int)] w fun e w' => e = .returned (.slice A (l.take k).length c) ∧ w' = w := by
  obtain ⟨i0, hi, hz0, hz1, hz2⟩ := info_parts (show (Try.prog.info? 5).map (fun i => (i.zero, i.size, i.bytes)) = some (some (.int .u8 0), 1, 1) by kernel_rfl)
  have I0 := Lib.hid hi
  have I2 := Lib.hid hz1
  have HN := Lib.hid hn
  clear hi hz0 hz1 hz2 hn
  go_enter Try.func8, Try.ntmps8
  by_cases h : k < n
  · have hD : decide ((k : Int) < (n : Int)) = true := by simp; omega
    have hcut := cut_to (P := Try.prog) 22 5 Try.underlying22 I0.out I2.out A n c k (by omega)
    have e : Hid ((l.take k).length = k) := show _ = _ by rw [List.length_take, HN.out]; omega
    go_wp2_with fail
    go_ret
    exact ⟨by rw [e.out]; rfl, rfl⟩
  · have hD : decide ((k : Int) < (n : Int)) = false := by simp; omega
    have e : Hid ((l.take k).length = n) := show _ = _ by rw [List.length_take, HN.out]; omega
    go_wp2_with fail
    go_ret
    exact ⟨by rw [e.out]; rfl, rfl⟩
end Go.Proofs.Ytimdlnamicgdnaa
