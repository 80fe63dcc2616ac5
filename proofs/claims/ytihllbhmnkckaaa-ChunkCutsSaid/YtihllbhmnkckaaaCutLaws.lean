/- A list cut into parts. No program. -/
import Derived.Test.YtihllbhmnkckaaaGen
namespace Go.Proofs.Ytihllbhmnkckaaa
set_option linter.unusedVariables false
set_option linter.unusedSimpArgs false
open Go.RowKit

def cutF {α : Type} (n : Nat) : Nat → List α → List (List α)
  | 0, _ => []
  | _ + 1, [] => []
  | k + 1, x :: l => (x :: l).take n :: cutF n k ((x :: l).drop n)
/-- The parts, each of n but the last one. -/
def cutL {α : Type} (n : Nat) (l : List α) : List (List α) := cutF n l.length l
theorem cutF_more {α : Type} (n : Nat) (hn : 0 < n) : ∀ (k k' : Nat) (l : List α), l.length ≤ k → l.length ≤ k' → cutF n k l = cutF n k' l
  | 0, 0, l, _, _ => rfl
  | 0, k' + 1, l, h, _ => by
    obtain rfl : l = [] := List.eq_nil_of_length_eq_zero (by omega)
    rfl
  | k + 1, 0, l, _, h => by
    obtain rfl : l = [] := List.eq_nil_of_length_eq_zero (by omega)
    rfl
  | k + 1, k' + 1, [], _, _ => rfl
  | k + 1, k' + 1, x :: l, h, h' => by
    rw [cutF, cutF, cutF_more n hn k k' _ (by simp at h ⊢; omega) (by simp at h' ⊢; omega)]
theorem cutL_nil {α : Type} (n : Nat) : cutL n ([] : List α) = [] := rfl
theorem cutL_cons {α : Type} (n : Nat) (hn : 0 < n) (l : List α) (hl : 0 < l.length) : cutL n l = l.take n :: cutL n (l.drop n) := by
  rcases l with _ | ⟨x, l⟩
  · simp at hl
  · unfold cutL
    rw [List.length_cons, cutF, cutF_more n hn l.length ((x :: l).drop n).length _ (by simp; omega) (Nat.le_refl _)]
theorem cutL_take {α : Type} (n : Nat) (hn : 0 < n) (l : List α) (hl : 0 < l.length) (m : Nat) (hm : m = min n l.length) : cutL n l = l.take m :: cutL n (l.drop m) := by
  rw [cutL_cons n hn l hl]
  by_cases h : n ≤ l.length
  · rw [show m = n by omega]
  · rw [List.take_of_length_le (by omega), List.take_of_length_le (by omega), List.drop_eq_nil_of_le (by omega), List.drop_eq_nil_of_le (by omega)]

theorem cutL_flatten {α : Type} (n : Nat) (hn : 0 < n) : ∀ (k : Nat) (l : List α), l.length ≤ k → (cutL n l).flatten = l
  | 0, l, h => by obtain rfl : l = [] := List.eq_nil_of_length_eq_zero (by omega); rfl
  | k + 1, l, h => by
    by_cases h0 : l.length = 0
    · obtain rfl : l = [] := List.eq_nil_of_length_eq_zero h0
      rfl
    · rw [cutL_cons n hn l (by omega), List.flatten_cons, cutL_flatten n hn k (l.drop n) (by rw [List.length_drop]; omega), List.take_append_drop]
theorem cutL_get {α : Type} (n : Nat) (hn : 0 < n) : ∀ (j : Nat) (l : List α), (cutL n l)[j]? = if n * j < l.length then some ((l.drop (n * j)).take n) else none
  | j, l => by
    by_cases h0 : l.length = 0
    · obtain rfl : l = [] := List.eq_nil_of_length_eq_zero h0
      simp [cutL_nil]
    · rw [cutL_cons n hn l (by omega)]
      cases j with
      | zero => rw [Nat.mul_zero, if_pos (by omega)]; simp
      | succ j =>
        rw [List.getElem?_cons_succ, cutL_get n hn j (l.drop n), List.length_drop, List.drop_drop, Nat.mul_add, Nat.mul_one, Nat.add_comm n]
        by_cases h : n * j + n < l.length
        · rw [if_pos (by omega), if_pos h]
        · rw [if_neg (by omega), if_neg h]
theorem cutL_length {α : Type} (n : Nat) (hn : 0 < n) : ∀ (k : Nat) (l : List α), l.length ≤ k → (cutL n l).length = (l.length + n - 1) / n
  | 0, l, h => by
    obtain rfl : l = [] := List.eq_nil_of_length_eq_zero (by omega)
    simp only [cutL_nil, List.length_nil, Nat.zero_add]
    rw [Nat.div_eq_of_lt (by omega)]
  | k + 1, l, h => by
    by_cases h0 : l.length = 0
    · obtain rfl : l = [] := List.eq_nil_of_length_eq_zero h0
      simp only [cutL_nil, List.length_nil, Nat.zero_add]
      rw [Nat.div_eq_of_lt (by omega)]
    · rw [cutL_cons n hn l (by omega), List.length_cons, cutL_length n hn k (l.drop n) (by rw [List.length_drop]; omega), List.length_drop]
      by_cases h1 : n ≤ l.length
      · rw [show l.length + n - 1 = (l.length - n + n - 1) + n by omega, Nat.add_div_right _ hn]
      · rw [show l.length - n + n - 1 = n - 1 by omega, show l.length + n - 1 = (l.length - 1) + n by omega, Nat.add_div_right _ hn, Nat.div_eq_of_lt (by omega), Nat.div_eq_of_lt (by omega)]
/-- The parts of a list, by their place. -/
theorem cutL_part {α : Type} (n : Nat) (hn : 0 < n) (l : List α) (j : Nat) (hj : j < (cutL n l).length) : ∃ p, (cutL n l)[j]? = some p ∧ 0 < p.length ∧ p.length ≤ n ∧ (j < (cutL n l).length - 1 → p.length = n) := by
  have hg := cutL_get n hn j l
  by_cases h : n * j < l.length
  · rw [if_pos h] at hg
    refine ⟨_, hg, by simp; omega, by simp; omega, fun h1 => ?_⟩
    have hg2 := cutL_get n hn (j + 1) l
    by_cases h2 : n * (j + 1) < l.length
    · rw [Nat.mul_add] at h2; simp; omega
    · rw [if_neg h2] at hg2
      rw [List.getElem?_eq_none_iff] at hg2
      omega
  · rw [if_neg h, List.getElem?_eq_none_iff] at hg
    omega

/-- 'xs[:m:m]'. -/
theorem cut3 {P : Program} (t e : TypeId) {i : TypeInfo} (ht : P.underlying t = some (.slice e)) (hi : P.info? e = some i) (hsz : i.size = 1) (A : Option Addr) (n c m : Nat) (hm : m ≤ c) (h0 : 0 < m) (W : World) :
    (Instr.slice t (.slice A n c) none (some (.int .i64 (m : Int))) (some (.int .i64 (m : Int)))).run P W = .ok (.slice A m m) W := by
  have hel : P.elem t = e := by simp [Program.elem, ht]
  have hu : P.underlying t = some (.slice (P.elem t)) := by rw [hel]; exact ht
  rw [run_slice_hm W t A n c hu .i64 .i64 (m : Int) (m : Int) (Int.natCast_nonneg _) (Int.le_refl _) (by omega), hel]
  simp only [sizeOf, typeInfo, sliced, Result.andThen]
  rcases A with _ | ⟨b, o, sp⟩
  · simp [hi, hsz]
  · simp [hi, hsz, Addr.add]
    try omega
end Go.Proofs.Ytihllbhmnkckaaa
