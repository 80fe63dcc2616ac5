/- Numbers in bytes, added digit by digit; the tags of a text by two keys. No program. -/
import Derived.Test.YtcpagoeaknlieaaPolyT
namespace Go.Proofs.Ytcpagoeaknlieaa
set_option linter.unusedVariables false
set_option linter.unusedSimpArgs false
open Go.RowKit

theorem leNat_bytesK (x : Nat) : ∀ n, leNat ((List.range n).map fun j => UInt8.ofNat (x / 256 ^ j)) = x % 256 ^ n
  | 0 => by simp [leNat, Nat.mod_one]
  | n + 1 => by
    rw [List.range_succ, List.map_append, leNat_append, leNat_bytesK x n, List.length_map, List.length_range, Nat.pow_succ, Nat.mod_mul]
    simp [leNat]
theorem leNat_bytesN (x : Nat) : leNat (bytesN x) = x % 256 ^ 16 := leNat_bytesK x 16
theorem leNat_drop (l : List UInt8) (i : Nat) (hi : i < l.length) : leNat (l.drop i) = (l.getD i 0).toNat + 256 * leNat (l.drop (i + 1)) := by
  rw [List.drop_eq_getElem_cons hi, leNat]
  simp [List.getD_eq_getElem?_getD, hi]
/-- The carry ahead of the i-th digit. -/
def cN (x o : List UInt8) : Nat → Nat
  | 0 => 0
  | i + 1 => (cN x o i + (x.getD i 0).toNat + (o.getD i 0).toNat) / 256
theorem cN_le (x o : List UInt8) : ∀ i, cN x o i ≤ 1
  | 0 => by simp [cN]
  | i + 1 => by
    have := cN_le x o i
    have := (x.getD i 0).toNat_lt
    have := (o.getD i 0).toNat_lt
    rw [cN]
    omega
theorem cN_all (x o : List UInt8) (n : Nat) (hx : x.length = n) (ho : o.length = n) : ∀ i, i ≤ n → (leNat x + leNat o) / 256 ^ i = cN x o i + leNat (x.drop i) + leNat (o.drop i)
  | 0, _ => by simp [cN]
  | i + 1, h => by
    rw [Nat.pow_succ, ← Nat.div_div_eq_div_mul, cN_all x o n hx ho i (by omega), leNat_drop x i (by omega), leNat_drop o i (by omega), cN]
    omega
theorem cN_digit (x o : List UInt8) (n : Nat) (hx : x.length = n) (ho : o.length = n) (i : Nat) (h : i < n) : (cN x o i + (x.getD i 0).toNat + (o.getD i 0).toNat) % 256 = (leNat x + leNat o) / 256 ^ i % 256 := by
  rw [cN_all x o n hx ho i (by omega), leNat_drop x i (by omega), leNat_drop o i (by omega)]
  omega
theorem digit_mod (a b n i : Nat) (h : a % 256 ^ n = b % 256 ^ n) (hi : i < n) : a / 256 ^ i % 256 = b / 256 ^ i % 256 := by
  have key : ∀ a : Nat, a / 256 ^ i % 256 = a % 256 ^ n / 256 ^ i % 256 := fun a => by
    have e : 256 ^ n = 256 ^ i * 256 ^ (n - i) := by rw [← Nat.pow_add]; congr 1; omega
    rw [e, Nat.mod_mul_right_div_self, Nat.mod_mod_of_dvd]
    exact ⟨256 ^ (n - i - 1), by rw [Nat.mul_comm, ← Nat.pow_succ]; congr 1; omega⟩
  rw [key a, key b, h]
theorem tags_shift (key other b : List UInt8) (h : other.take 16 = key.take 16) :
    (leNat (polyL key b) + leNat (other.drop 16)) % 256 ^ 16 = (leNat (polyL other b) + leNat (key.drop 16)) % 256 ^ 16 := by
  unfold polyL
  rw [h, leNat_bytesN, leNat_bytesN, Nat.mod_add_mod, Nat.mod_add_mod]
  congr 1
  unfold tagN
  omega
theorem tags_digit (key other b : List UInt8) (hk : key.length = 32) (ho : other.length = 32) (h : other.take 16 = key.take 16) (i : Nat) (hi : i < 16) :
    (cN (polyL key b) (other.drop 16) i + ((polyL key b).getD i 0).toNat + ((other.drop 16).getD i 0).toNat) % 256 = (cN (polyL other b) (key.drop 16) i + ((polyL other b).getD i 0).toNat + ((key.drop 16).getD i 0).toNat) % 256 := by
  rw [cN_digit _ _ 16 (polyL_length _ _) (by simp [ho]) i hi, cN_digit _ _ 16 (polyL_length _ _) (by simp [hk]) i hi]
  exact digit_mod _ _ 16 i (tags_shift key other b h) hi
end Go.Proofs.Ytcpagoeaknlieaa
