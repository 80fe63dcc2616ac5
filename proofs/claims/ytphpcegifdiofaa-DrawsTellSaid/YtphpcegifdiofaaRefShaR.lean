/- The document's turning to the right, its constants. And the words' laws. -/
import Derived.Test.YtphpcegifdiofaaShaHB
import Derived.Test.YtphpcegifdiofaaLast
namespace Go.Proofs.Ytphpcegifdiofaa
set_option linter.unusedVariables false
set_option linter.unusedSimpArgs false
open Go.RowKit
attribute [local go_sem ↓] Go.wp_at_zero Go.wp_at_succ

theorem rotr_eq (x : UInt32) (n : Nat) (h : n ≤ 32) : rotr x n = x >>> (UInt32.ofNat n) ||| x <<< (UInt32.ofNat (32 - n)) := by
  unfold rotr rotl
  rw [show 32 - (32 - n) = n by omega, UInt32.or_comm]
theorem rr_val (x : UInt32) (n : Nat) (hn : n < 32) (h0 : 0 < n) : bits .or .u32 ((x.toNat : Int) / 2 ^ n) ((x.toNat : Int) * 2 ^ (32 - n) % 4294967296) = ((rotr x n).toNat : Int) := by
  have e1 : (x.toNat : Int) / 2 ^ n = ((x >>> (UInt32.ofNat n)).toNat : Int) := by
    have := shr_low x n hn
    rw [← this, Int.natCast_pow]; rfl
  have e2 : (x.toNat : Int) * 2 ^ (32 - n) % 4294967296 = ((x <<< (UInt32.ofNat (32 - n))).toNat : Int) := by
    have e3 : (UInt32.ofNat (32 - n)).toNat = 32 - n := by simp; omega
    rw [UInt32.toNat_shiftLeft, e3, Nat.shiftLeft_eq, Nat.mod_eq_of_lt (show 32 - n < 32 by omega), Int.natCast_emod, Int.natCast_mul, Int.natCast_pow]
    rfl
  rw [e1, e2, u32_or', rotr_eq x n (by omega)]
set_option maxRecDepth 100000 in
theorem rright_any (x : UInt32) (n : Nat) (w : World) (hn : n < 32) (h0 : 0 < n) :
    Calls Try.prog 26 #[.int .u32 (x.toNat : Int), .int .u64 (n : Int)] w fun e w' => e = .returned (.int .u32 ((rotr x n).toNat : Int)) ∧ w' = w := by
  have hlt : (n : Int) < 32 := by omega
  have E := Lib.hid (rotr_eq x n (by omega))
  go_enter Try.func26, Try.ntmps26
  go_wp2_with fail
  go_ret
  exact ⟨congrArg (fun z => Ending.returned (.int .u32 z)) (rr_val x n hn h0), rfl⟩
/-- A word of a block. -/
theorem rword_val (x0 x1 x2 x3 : UInt8) : ((((x0.toNat : Int) * 16777216 % 4294967296 + (x1.toNat : Int) * 65536 % 4294967296) % 4294967296 + (x2.toNat : Int) * 256 % 4294967296) % 4294967296 + (x3.toNat : Int)) % 4294967296 = ((((x0.toUInt32 <<< 8 ||| x1.toUInt32) <<< 8 ||| x2.toUInt32) <<< 8 ||| x3.toUInt32).toNat : Int) := by
  have h0 := x0.toNat_lt
  have h1 := x1.toNat_lt
  have h2 := x2.toNat_lt
  have h3 := x3.toNat_lt
  have e1 : (8 : UInt32).toNat % 32 = 8 := rfl
  have or8 : ∀ (a b : Nat), b < 256 → a * 256 ||| b = a * 256 + b := fun a b h => by
    rw [show a * 256 = a <<< 8 by rw [Nat.shiftLeft_eq]]
    exact (Nat.shiftLeft_add_eq_or_of_lt (by omega) a).symm
  simp only [UInt32.toNat_or, UInt32.toNat_shiftLeft, UInt8.toNat_toUInt32, Nat.shiftLeft_eq, e1, Nat.reducePow]
  rw [Nat.mod_eq_of_lt (show x0.toNat * 256 < 4294967296 by omega), or8 _ _ h1, Nat.mod_eq_of_lt (show (x0.toNat * 256 + x1.toNat) * 256 < 4294967296 by omega), or8 _ _ h2,
    Nat.mod_eq_of_lt (show ((x0.toNat * 256 + x1.toNat) * 256 + x2.toNat) * 256 < 4294967296 by omega), or8 _ _ h3]
  omega
theorem word4_eq (b : List UInt8) (t : Nat) : word4 b t 4 = (((b.getD (4 * t) 0).toUInt32 <<< 8 ||| (b.getD (4 * t + 1) 0).toUInt32) <<< 8 ||| (b.getD (4 * t + 2) 0).toUInt32) <<< 8 ||| (b.getD (4 * t + 3) 0).toUInt32 := by
  simp [word4]
theorem u32_bits {a b : UInt32} (h : ∀ i : Nat, i < 32 → a.toNat.testBit i = b.toNat.testBit i) : a = b := by
  apply UInt32.toNat_inj.1
  apply Nat.eq_of_testBit_eq
  intro i
  by_cases hi : i < 32
  · exact h i hi
  · have e : ∀ x : UInt32, x.toNat.testBit i = false := fun x => Nat.testBit_lt_two_pow (Nat.lt_of_lt_of_le x.toNat_lt (Nat.pow_le_pow_right (by omega) (by omega)))
    rw [e, e]
theorem ch_eq (e f g : UInt32) : (e &&& f) ^^^ ((e ^^^ 4294967295) &&& g) = g ^^^ (e &&& (f ^^^ g)) := by
  apply u32_bits
  intro i hi
  have h1 : Nat.testBit 4294967295 i = true := by
    rw [show (4294967295 : Nat) = 2 ^ 32 - 1 from rfl, Nat.testBit_two_pow_sub_one]; simpa using hi
  simp only [UInt32.toNat_xor, UInt32.toNat_and, Nat.testBit_xor, Nat.testBit_and, show (4294967295 : UInt32).toNat = 4294967295 from rfl, h1]
  cases e.toNat.testBit i <;> cases f.toNat.testBit i <;> cases g.toNat.testBit i <;> rfl
theorem mj_eq (a b c : UInt32) : ((a &&& b) ^^^ (a &&& c)) ^^^ (b &&& c) = (a &&& b) ||| (c &&& (a ||| b)) := by
  apply u32_bits
  intro i hi
  simp only [UInt32.toNat_xor, UInt32.toNat_and, UInt32.toNat_or, Nat.testBit_xor, Nat.testBit_and, Nat.testBit_or]
  cases a.toNat.testBit i <;> cases b.toNat.testBit i <;> cases c.toNat.testBit i <;> rfl
theorem next_eq (a b c d : UInt32) : ((a + b) + c) + d = ((d + c) + b) + a := by ac_rfl
end Go.Proofs.Ytphpcegifdiofaa
