/- Words turned to the right; the beginning, the constants. -/
import Derived.Test.YtphpcegifdiofaaProg
import Derived.Test.YtphpcegifdiofaaRot
namespace Go.Proofs.Ytphpcegifdiofaa
set_option linter.unusedVariables false
set_option linter.unusedSimpArgs false
open Go.RowKit

/-- A word turned to the right. -/
def rotr (x : UInt32) (n : Nat) : UInt32 := rotl x (32 - n)
set_option maxRecDepth 100000 in
theorem sturned_any (x : UInt32) (n : Nat) (w : World) (hn : (n : Int) < 32) (h0 : (0 : Int) < (n : Int)) (hk : bits .and .u64 (IntKind.u64.wrap (-(n : Int))) 31 = ((32 - n : Nat) : Int)) :
    Calls Try.prog 35 #[.int .u32 (x.toNat : Int), .int .i64 (n : Int)] w fun e w' => e = .returned (.int .u32 ((rotr x n).toNat : Int)) ∧ w' = w := by
  have K := Lib.hid hk
  clear hk
  go_enter Try.func35, Try.ntmps35
  go_wp2_with fail
  refine (rot_any x (-(n : Int)) w (32 - n) (by omega) (by omega) K.out).mono ?_
  rintro e w1 ⟨rfl, rfl⟩
  go_wp2_with fail
  go_ret
  exact ⟨rfl, rfl⟩

def beginL : List UInt32 := [0x6a09e667, 0xbb67ae85, 0x3c6ef372, 0xa54ff53a, 0x510e527f, 0x9b05688c, 0x1f83d9ab, 0x5be0cd19]
def constL : List UInt32 := [
  0x428a2f98, 0x71374491, 0xb5c0fbcf, 0xe9b5dba5, 0x3956c25b, 0x59f111f1, 0x923f82a4, 0xab1c5ed5,
  0xd807aa98, 0x12835b01, 0x243185be, 0x550c7dc3, 0x72be5d74, 0x80deb1fe, 0x9bdc06a7, 0xc19bf174,
  0xe49b69c1, 0xefbe4786, 0x0fc19dc6, 0x240ca1cc, 0x2de92c6f, 0x4a7484aa, 0x5cb0a9dc, 0x76f988da,
  0x983e5152, 0xa831c66d, 0xb00327c8, 0xbf597fc7, 0xc6e00bf3, 0xd5a79147, 0x06ca6351, 0x14292967,
  0x27b70a85, 0x2e1b2138, 0x4d2c6dfc, 0x53380d13, 0x650a7354, 0x766a0abb, 0x81c2c92e, 0x92722c85,
  0xa2bfe8a1, 0xa81a664b, 0xc24b8b70, 0xc76c51a3, 0xd192e819, 0xd6990624, 0xf40e3585, 0x106aa070,
  0x19a4c116, 0x1e376c08, 0x2748774c, 0x34b0bcb5, 0x391c0cb3, 0x4ed8aa4a, 0x5b9cca4f, 0x682e6ff3,
  0x748f82ee, 0x78a5636f, 0x84c87814, 0x8cc70208, 0x90befffa, 0xa4506ceb, 0xbef9a3f7, 0xc67178f2]
theorem beginL_length : beginL.length = 8 := rfl
theorem constL_length : constL.length = 64 := rfl
set_option maxRecDepth 100000 in
set_option maxHeartbeats 1000000 in
theorem begin_any (w : World) : Calls Try.prog 31 #[] w fun e w' => e = .returned (.agg (W32 beginL)) ∧ Below w.heap.size w w' := by
  have Z := Lib.hid (show (Try.prog.info? 66).map (·.size) = some (W32 beginL).size by kernel_rfl)
  go_enter Try.func31, Try.ntmps31
  go_wp2_with (refine wpList_store_new rfl rfl 66 (.tmp 0) (.tmp 1) rfl (W32 beginL) rfl rfl Z.out ?c1 (W32_one _) ?_)
  case c1 => rfl
  go_wp2_with fail
  refine bodyPost_ret (results_cell_row rfl _ _ w.heap.size 66 (W32 beginL) (0, 0) _ rfl (ha_new _ _ _ rfl) Try.underlying66 rfl Z.out) rfl ?_
  exact ⟨rfl, (Below.refl _ _).alloc (Nat.le_refl _) _⟩
end Go.Proofs.Ytphpcegifdiofaa
