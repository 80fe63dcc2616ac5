/- What is laid is read: numbers, in plain words. No condition. -/
import Derived.Test.YtihllbhmnkckaaaDoorRdrNum
import Derived.Test.YtihllbhmnkckaaaDoorSized
namespace Go.Proofs.YtihllbhmnkckaaaDoor
set_option linter.unusedVariables false
set_option linter.unusedSimpArgs false
open Go.RowKit

theorem beVal_foldl (k x : Nat) : ∀ v, (beL k x).foldl (fun v c => v * 256 + c.toNat) v = v * 2 ^ (8 * k) + x % 2 ^ (8 * k) := by
  induction k with
  | zero => intro v; simp [beL, Nat.mod_one]
  | succ k ih =>
    intro v
    rw [beL, List.foldl_cons, ih, show 8 * (k + 1) = 8 * k + 8 by omega, Nat.pow_add]
    have h1 : (UInt8.ofNat (x / 2 ^ (8 * k))).toNat = (x / 2 ^ (8 * k)) % 256 := by simp
    rw [h1, Nat.mod_mul]
    generalize 2 ^ (8 * k) = p
    generalize x / p % (2 ^ 8) = q
    generalize x % p = r
    have e : (2 : Nat) ^ 8 = 256 := by decide
    rw [e]
    rw [Nat.add_mul, Nat.mul_assoc, Nat.mul_comm 256 p, Nat.mul_comm q p]
    omega
theorem beVal_beL (k x : Nat) : beVal (beL k x) = x % 2 ^ (8 * k) := by
  have := beVal_foldl k x 0
  simpa [beVal] using this
theorem takeS_all (l more : List UInt8) (n : Nat) (h0 : 0 < n) (hn : l.length = n) : takeS ⟨l ++ more, 0⟩ (n : Int) = (⟨more, 0⟩, l, true) := by
  unfold takeS
  rw [if_neg (by simp; omega), if_neg (by simp; omega)]
  simp [← hn]
theorem takeS_short (l : List UInt8) (n : Nat) (h0 : 0 < n) (hn : l.length < n) : takeS ⟨l, 0⟩ (n : Int) = (⟨[], 10⟩, [], false) := by
  unfold takeS
  rw [if_neg (by simp; omega), if_pos (by simp; omega)]
/-- A number that was laid in so many bytes. -/
theorem numS_beL (x : Nat) (n : Nat) (h0 : 0 < n) (h8 : n ≤ 8) (more : List UInt8) : numS ⟨beL n x ++ more, 0⟩ (n : Int) = (⟨more, 0⟩, x % 2 ^ (8 * n)) := by
  unfold numS
  rw [show min (n : Int) 8 = (n : Int) by omega, takeS_all _ _ _ h0 (beL_length _ _), beVal_beL]
theorem numS_short (l : List UInt8) (n : Nat) (h0 : 0 < n) (h8 : n ≤ 8) (hl : l.length < n) : numS ⟨l, 0⟩ (n : Int) = (⟨[], 10⟩, 0) := by
  unfold numS
  rw [show min (n : Int) 8 = (n : Int) by omega, takeS_short _ _ h0 hl]
  rfl
end Go.Proofs.YtihllbhmnkckaaaDoor
