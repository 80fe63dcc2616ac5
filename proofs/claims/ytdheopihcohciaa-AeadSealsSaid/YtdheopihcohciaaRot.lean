/- A word is turned: what math/bits.RotateLeft32 tells, of a count that is not a multiple of 32. -/
import Derived.Test.YtdheopihcohciaaProg
import Derived.Test.YtdheopihcohciaaBase
namespace Go.Proofs.Ytdheopihcohciaa
set_option linter.unusedVariables false
set_option linter.unusedSimpArgs false
open Go.RowKit

theorem rot_core (x : UInt32) (r : Nat) (hr : r < 32) (h0 : 0 < r) :
    bits .or .u32 ((x.toNat : Int) * 2 ^ r % 4294967296) ((x.toNat : Int) / 2 ^ (32 - r)) = ((rotl x r).toNat : Int) := by
  have h1 : (x.toNat : Int) * 2 ^ r % 4294967296 = ((x.toNat * 2 ^ r % 4294967296 : Nat) : Int) := by
    rw [Int.natCast_emod, Int.natCast_mul, Int.natCast_pow]; rfl
  have h2 : (x.toNat : Int) / 2 ^ (32 - r) = ((x.toNat / 2 ^ (32 - r) : Nat) : Int) := by
    rw [Int.natCast_ediv, Int.natCast_pow]; rfl
  rw [h1, h2, u32_or_nat]
  · have e1 : (UInt32.ofNat r).toNat = r := by simp; omega
    have e2 : (UInt32.ofNat (32 - r)).toNat = 32 - r := by simp; omega
    congr 1
    rw [rotl, UInt32.toNat_or, UInt32.toNat_shiftLeft, UInt32.toNat_shiftRight, e1, e2, Nat.mod_eq_of_lt hr, Nat.mod_eq_of_lt (show 32 - r < 32 by omega), Nat.shiftLeft_eq, Nat.shiftRight_eq_div_pow]
  · omega
  · have := x.toNat_lt
    exact Nat.lt_of_le_of_lt (Nat.div_le_self _ _) this

set_option maxRecDepth 100000 in
theorem rot_any (x : UInt32) (k : Int) (w : World) (r : Nat) (hr : (r : Int) < 32) (h0 : (0 : Int) < (r : Int)) (hk : bits .and .u64 (IntKind.u64.wrap k) 31 = (r : Int)) :
    Calls Try.prog 51 #[.int .u32 (x.toNat : Int), .int .i64 k] w fun e w' => e = .returned (.int .u32 ((rotl x r).toNat : Int)) ∧ w' = w := by
  have hc := rot_core x r (by omega) (by omega)
  go_enter Try.func51, Try.ntmps51
  go_wp2
  go_ret
  exact ⟨rfl, rfl⟩
end Go.Proofs.Ytdheopihcohciaa
