/- What is left by the prime: plain. No program. -/
import Derived.Test.YtdheopihcohciaaRefDig
namespace Go.Proofs.Ytdheopihcohciaa
set_option linter.unusedVariables false
set_option linter.unusedSimpArgs false
open Go.RowKit

def M130 : Nat := 1361129467683753853853498429727072845824
theorem M130_eq : M130 = 256 ^ 16 * 4 := by decide +kernel
theorem M130_PN : M130 = PN + 5 := by decide +kernel
/-- One round. -/
def foldM (x : Nat) : Nat := x % M130 + 5 * (x / M130)
theorem foldM_mod (x : Nat) : foldM x % PN = x % PN := by
  have h : x = x % M130 + M130 * (x / M130) := (Nat.mod_add_div x M130).symm
  conv => rhs; rw [h, M130_PN, Nat.add_mul, ← M130_PN]
  unfold foldM
  rw [show x % M130 + (PN * (x / M130) + 5 * (x / M130)) = (x % M130 + 5 * (x / M130)) + PN * (x / M130) by omega, Nat.add_mul_mod_self_left]
theorem foldM_le (x : Nat) : foldM x ≤ x := by
  unfold foldM
  have h : x % M130 + M130 * (x / M130) = x := Nat.mod_add_div x M130
  have : 5 * (x / M130) ≤ M130 * (x / M130) := Nat.mul_le_mul (by decide) (Nat.le_refl _)
  omega
theorem foldM_small (x : Nat) (h : x < M130) : foldM x = x := by
  unfold foldM
  rw [Nat.mod_eq_of_lt h, Nat.div_eq_of_lt h]
  rfl
theorem foldM_lt (x : Nat) : foldM x < M130 + 5 * (x / M130) := by
  unfold foldM
  have := Nat.mod_lt x (show 0 < M130 by decide)
  omega
def foldK : Nat → Nat → Nat
  | 0, x => x
  | k + 1, x => foldM (foldK k x)
theorem foldK_mod (k x : Nat) : foldK k x % PN = x % PN := by
  induction k with
  | zero => rfl
  | succ k ih => rw [foldK, foldM_mod, ih]
theorem foldK_le (k x : Nat) : foldK k x ≤ x := by
  induction k with
  | zero => exact Nat.le_refl _
  | succ k ih => rw [foldK]; exact Nat.le_trans (foldM_le _) ih
theorem foldK_lt (x : Nat) (h : x < 256 ^ 37) : foldK 8 x < M130 := by
  have h1 : foldK 1 x < M130 + 5 * 2 ^ 166 := by
    have := foldM_lt x
    have h2 : x / M130 < 2 ^ 166 := by
      apply Nat.div_lt_of_lt_mul
      exact Nat.lt_of_lt_of_le h (by decide +kernel)
    show foldM x < _
    omega
  have h2 : foldK 2 x < M130 + 5 * 2 ^ 40 := by
    have := foldM_lt (foldK 1 x)
    have h3 : foldK 1 x / M130 < 2 ^ 40 := by
      apply Nat.div_lt_of_lt_mul
      exact Nat.lt_of_lt_of_le h1 (by decide +kernel)
    show foldM (foldK 1 x) < _
    omega
  have h3 : foldK 3 x < M130 := by
    rcases Nat.lt_or_ge (foldK 2 x) M130 with h4 | h4
    · show foldM (foldK 2 x) < _
      rw [foldM_small _ h4]
      exact h4
    · show foldM (foldK 2 x) < _
      unfold foldM
      have h5 : foldK 2 x / M130 = 1 := by
        have hM : M130 + 5 * 2 ^ 40 < 2 * M130 := by decide +kernel
        generalize foldK 2 x = z at *
        generalize M130 = m at *
        generalize 5 * 2 ^ 40 = r at *
        apply Nat.div_eq_of_lt_le <;> omega
      have h6 : foldK 2 x % M130 = foldK 2 x - M130 := by
        have := Nat.mod_add_div (foldK 2 x) M130
        rw [h5] at this
        omega
      rw [h5, h6]
      have : 5 * 2 ^ 40 + 5 < M130 := by decide +kernel
      omega
  have e : ∀ k, foldK (3 + k) x = foldK 3 x := by
    intro k
    induction k with
    | zero => rfl
    | succ k ih =>
      show foldM (foldK (3 + k) x) = _
      rw [ih, foldM_small _ h3]
  rw [show 8 = 3 + 5 from rfl, e]
  exact h3
/-- .. and the prime taken off, once at most. -/
theorem mod_once (y : Nat) (h : y < M130) : y % PN = if y < PN then y else y - PN := by
  split
  · rename_i h1
    exact Nat.mod_eq_of_lt h1
  · rename_i h1
    rw [Nat.mod_eq_sub_mod (by omega), Nat.mod_eq_of_lt]
    have := M130_PN
    have : 5 < PN := by decide
    omega
/-! ### the two parts of a number -/
def lowL (l : List Nat) : List Nat := if l.length < 17 then l else (l.take 16) ++ [l.getD 16 0 % 4]
def highF (l : List Nat) (i : Nat) : Nat := l.getD (16 + i) 0 / 4 + l.getD (16 + i + 1) 0 % 4 * 64
theorem lowL_val (l : List Nat) (h : ∀ d ∈ l, d ≤ 255) : valB (lowL l) = valB l % M130 := by
  unfold lowL
  split
  · rename_i hl
    rw [Nat.mod_eq_of_lt]
    have h1 := valB_lt l h
    have h2 : 256 ^ l.length ≤ 256 ^ 16 := Nat.pow_le_pow_right (by omega) (by omega)
    have h3 : 256 ^ 16 < M130 := by decide +kernel
    omega
  · rename_i hl
    have h1 := valB_split l 16
    have h2 : tabN (fun j => l.getD j 0) 16 = l.take 16 := by
      apply List.ext_getElem
      · rw [tabN_length, List.length_take]; omega
      · intro i hi1 hi2
        rw [tabN_length] at hi1
        simp [tabN, List.getD_eq_getElem?_getD, show i < l.length by omega]
    rw [h2] at h1
    rw [valB_append, List.length_take, Nat.min_eq_left (by omega)]
    rw [h1, valB_drop]
    have h3 : valB (l.take 16) < 256 ^ 16 := by
      have := valB_lt (l.take 16) (fun d hd => h d (List.mem_of_mem_take hd))
      rwa [List.length_take, Nat.min_eq_left (by omega)] at this
    generalize valB (l.take 16) = x at *
    generalize l.getD 16 0 = p at *
    generalize valB (l.drop (16 + 1)) = z at *
    rw [M130_eq, Nat.mod_mul, Nat.add_mul_mod_self_left, Nat.mod_eq_of_lt h3, Nat.add_mul_div_left _ _ (by decide), Nat.div_eq_of_lt h3]
    simp only [valB, Nat.zero_add, Nat.mul_zero, Nat.add_zero]
    congr 2
    omega
theorem high_val (l : List Nat) (m : Nat) (hm : l.length ≤ 16 + m) (h : ∀ d ∈ l, d ≤ 255) : valB (tabN (highF l) m) = valB l / M130 := by
  have key : ∀ m, 4 * valB (tabN (highF l) m) + 256 ^ m * (valB (l.drop (16 + m))) + l.getD 16 0 % 4 = valB (l.drop 16) + 256 ^ m * (l.getD (16 + m) 0 % 4) := by
    intro m
    induction m with
    | zero => simp [tabN, valB]
    | succ m ih =>
      rw [tabN_succ, valB_append, tabN_length]
      have e := valB_drop l (16 + m)
      rw [e] at ih
      have e1 : highF l m = l.getD (16 + m) 0 / 4 + l.getD (16 + m + 1) 0 % 4 * 64 := rfl
      simp only [valB, e1, Nat.pow_succ, Nat.mul_zero, Nat.add_zero]
      rw [show 16 + (m + 1) = 16 + m + 1 by omega]
      generalize valB (tabN (highF l) m) = x at *
      generalize valB (l.drop (16 + m + 1)) = y at *
      generalize l.getD (16 + m) 0 = p at *
      generalize l.getD (16 + m + 1) 0 = q at *
      generalize valB (l.drop 16) = z at *
      generalize 256 ^ m = t at *
      have e2 : p = 4 * (p / 4) + p % 4 := by omega
      have e3 : t * (p + 256 * y) = t * (4 * (p / 4)) + t * (p % 4) + t * (256 * y) := by
        conv => lhs; rw [e2]
        rw [Nat.mul_add, Nat.mul_add]
      grind
  have h1 := key m
  have h2 : l.drop (16 + m) = [] := List.drop_of_length_le (by omega)
  have h3 : l.getD (16 + m) 0 = 0 := by rw [List.getD_eq_getElem?_getD, List.getElem?_eq_none (by omega)]; rfl
  rw [h2, h3] at h1
  simp only [valB, Nat.mul_zero, Nat.add_zero] at h1
  have h4 := valB_split l 16
  have h5 := tab_lt l h 16
  rw [h4, M130_eq, ← Nat.div_div_eq_div_mul, Nat.add_mul_div_left _ _ (by decide), Nat.div_eq_of_lt h5, Nat.zero_add]
  omega
theorem lowL_dig (l : List Nat) (h : ∀ d ∈ l, d ≤ 255) : ∀ d ∈ lowL l, d ≤ 255 := by
  intro d hd
  unfold lowL at hd
  split at hd
  · exact h d hd
  · rcases List.mem_append.1 hd with h1 | h1
    · exact h d (List.mem_of_mem_take h1)
    · simp at h1; omega
theorem highF_le (l : List Nat) (h : ∀ d ∈ l, d ≤ 255) (i : Nat) : highF l i ≤ 255 := by
  have := getD_le h (16 + i)
  unfold highF
  omega
theorem lowL_length (l : List Nat) : (lowL l).length = min l.length 17 := by
  unfold lowL
  split
  · omega
  · simp; omega
/-- How many digits a carried number has. -/
theorem Digs.few {l : List Nat} {x m : Nat} (h : Digs l x m) (hx : x < 256 ^ 37) : l.length ≤ max m 37 := by
  rcases h.top with h1 | h1
  · omega
  · have : 256 ^ (l.length - 1) < 256 ^ 37 := Nat.lt_of_le_of_lt h1 hx
    have := (Nat.pow_lt_pow_iff_right (show 1 < 256 by omega)).1 this
    omega
theorem Digs.d255 {l : List Nat} {x m : Nat} (h : Digs l x m) : ∀ d ∈ l, d ≤ 255 := fun d hd => Nat.le_of_lt_succ (h.dig d hd)
end Go.Proofs.Ytdheopihcohciaa
