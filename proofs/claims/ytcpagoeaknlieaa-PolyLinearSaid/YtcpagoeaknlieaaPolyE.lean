/- The tag of two whole blocks where r is 1. No program. -/
import Derived.Test.YtcpagoeaknlieaaPolyD
namespace Go.Proofs.Ytcpagoeaknlieaa
set_option linter.unusedVariables false
set_option linter.unusedSimpArgs false
open Go.RowKit

def cN3 (x y o : List UInt8) : Nat → Nat
  | 0 => 0
  | i + 1 => (cN3 x y o i + (x.getD i 0).toNat + (y.getD i 0).toNat + (o.getD i 0).toNat) / 256
theorem cN3_le (x y o : List UInt8) : ∀ i, cN3 x y o i ≤ 2
  | 0 => by simp [cN3]
  | i + 1 => by
    have := cN3_le x y o i
    have := (x.getD i 0).toNat_lt
    have := (y.getD i 0).toNat_lt
    have := (o.getD i 0).toNat_lt
    rw [cN3]
    omega
theorem cN3_all (x y o : List UInt8) (n : Nat) (hx : x.length = n) (hy : y.length = n) (ho : o.length = n) : ∀ i, i ≤ n → (leNat x + leNat y + leNat o) / 256 ^ i = cN3 x y o i + leNat (x.drop i) + leNat (y.drop i) + leNat (o.drop i)
  | 0, _ => by simp [cN3]
  | i + 1, h => by
    rw [Nat.pow_succ, ← Nat.div_div_eq_div_mul, cN3_all x y o n hx hy ho i (by omega), leNat_drop x i (by omega), leNat_drop y i (by omega), leNat_drop o i (by omega), cN3]
    omega
theorem ofNat_mod {a b : Nat} (h : a % 256 = b % 256) : UInt8.ofNat a = UInt8.ofNat b := by
  apply UInt8.toNat_inj.1
  simpa using h
theorem cN3_digit (x y o : List UInt8) (hx : x.length = 16) (hy : y.length = 16) (ho : o.length = 16) (i : Nat) (h : i < 16) :
    UInt8.ofNat (cN3 x y o i + (x.getD i 0).toNat + (y.getD i 0).toNat + (o.getD i 0).toNat) = (bytesN (leNat x + leNat y + leNat o)).getD i 0 := by
  rw [bytesN_get _ _ h]
  apply ofNat_mod
  rw [cN3_all x y o 16 hx hy ho i (by omega), leNat_drop x i (by omega), leNat_drop y i (by omega), leNat_drop o i (by omega)]
  omega
theorem bytesN_mod {x y : Nat} (h : x % 256 ^ 16 = y % 256 ^ 16) : bytesN x = bytesN y := by
  unfold bytesN
  apply List.map_congr_left
  intro j hj
  exact ofNat_mod (digit_mod x y 16 j h (by simpa using hj))
def oneH : List UInt8 := [1, 0, 0, 0, 0, 0, 0, 0, 0, 0, 0, 0, 0, 0, 0, 0]
theorem oneH_r : leNat (clampL oneH) = 1 := by decide +kernel
def MN : Nat := 340282366920938463463374607431768211456
theorem polyA_two (a b : List UInt8) (ha : a.length = 16) (hb : b.length = 16) : polyA 1 0 (a ++ b) = (leNat a + leNat b + 2 * 340282366920938463463374607431768211456) % PN := by
  have e1 : ∀ l : List UInt8, l.length = 16 → leNat (l ++ [1]) = leNat l + 340282366920938463463374607431768211456 := fun l h => by
    rw [leNat_append, h]
    simp [leNat]
  have na : a ++ b ≠ [] := by intro e; have := congrArg List.length e; rw [List.length_append, List.length_nil] at this; omega
  have nb : b ≠ [] := by intro e; rw [e] at hb; cases hb
  have t1 : (a ++ b).take 16 = a := by rw [← ha, List.take_left]
  have d1 : (a ++ b).drop 16 = b := by rw [← ha, List.drop_left]
  have t2 : b.take 16 = b := by rw [← hb, List.take_length]
  have d2 : b.drop 16 = [] := by rw [← hb, List.drop_length]
  rw [polyA_cons 1 0 _ na, t1, d1, polyA_cons 1 _ b nb, t2, d2, polyA_nil, e1 a ha, e1 b hb]
  unfold PN
  omega
theorem top_255 (l : List UInt8) (h : l.length = 16) (hl : 340282366920938463463374607431768211452 ≤ leNat l) : l.getD 15 0 = 255 := by
  have e := leNat_snoc l 15 (by omega)
  rw [show 15 + 1 = l.length by omega, List.take_length] at e
  have b := leNat_lt (l.take 15)
  rw [List.length_take, h] at b
  have c := (l.getD 15 0).toNat_lt
  apply UInt8.toNat_inj.1
  show _ = 255
  simp only [show min 15 16 = 15 from rfl] at b
  omega
theorem poly_linear (a b s : List UInt8) (ha : a.length = 16) (hb : b.length = 16) (hs : s.length = 16) :
    polyL (oneH ++ s) (a ++ b) = polyL (oneH ++ s) (b ++ a) ∧ (polyL (oneH ++ s) (a ++ b) = bytesN (leNat a + leNat b + leNat s) ∨ (a.getD 15 0 = 255 ∧ b.getD 15 0 = 255)) := by
  have e1 : (oneH ++ s).take 16 = oneH := by rw [List.take_append_of_le_length (by decide)]; rfl
  have e2 : (oneH ++ s).drop 16 = s := by rw [List.drop_append_of_le_length (by decide)]; rfl
  unfold polyL
  rw [e1, e2, oneH_r, polyA_two a b ha hb, polyA_two b a hb ha]
  refine ⟨by rw [Nat.add_comm (leNat b)], ?_⟩
  have la := leNat_lt16 a ha
  have lb := leNat_lt16 b hb
  by_cases h : leNat a + leNat b + 2 * 340282366920938463463374607431768211456 < PN
  · left
    rw [Nat.mod_eq_of_lt h]
    apply bytesN_mod
    unfold tagN
    rw [show (256 : Nat) ^ 16 = 340282366920938463463374607431768211456 from rfl]
    omega
  · right
    unfold PN at h
    exact ⟨top_255 a ha (by omega), top_255 b hb (by omega)⟩
end Go.Proofs.Ytcpagoeaknlieaa
