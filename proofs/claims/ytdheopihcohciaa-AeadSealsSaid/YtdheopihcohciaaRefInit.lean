/- The document's starting words are the program's. No program. -/
import Derived.Test.YtdheopihcohciaaBlock
import Derived.Test.YtdheopihcohciaaRefW
namespace Go.Proofs.Ytdheopihcohciaa
set_option linter.unusedVariables false
set_option linter.unusedSimpArgs false
open Go.RowKit

def wordK (l : List UInt32) (p : Nat) (b : List UInt8) : Nat → List UInt32
  | 0 => l
  | i + 1 => (wordK l p b i).set (p + i) (wordL b i)
theorem wordK_length (l : List UInt32) (p : Nat) (b : List UInt8) (i : Nat) : (wordK l p b i).length = l.length := by
  induction i with
  | zero => rfl
  | succ i ih => simp [wordK, ih]
def refInit (k n : List UInt8) (count : UInt32) : List UInt32 := wordK ((wordK headL 4 k 8).set 12 count) 13 n 3
theorem refInit_length (k n : List UInt8) (count : UInt32) : (refInit k n count).length = 16 := by simp [refInit, wordK_length, headL]

theorem or4 (a b c d : UInt8) : ((((0 : UInt32) ||| a.toUInt32 <<< 0) ||| b.toUInt32 <<< 8) ||| c.toUInt32 <<< 16) ||| d.toUInt32 <<< 24 = a.toUInt32 + b.toUInt32 <<< 8 + c.toUInt32 <<< 16 + d.toUInt32 <<< 24 := by
  have h0 := a.toNat_lt
  have h1 := b.toNat_lt
  have h2 := c.toNat_lt
  have h3 := d.toNat_lt
  apply UInt32.toNat_inj.1
  simp only [UInt32.toNat_or, UInt32.toNat_add, UInt32.toNat_shiftLeft, UInt8.toNat_toUInt32]
  have e0 : (0 : UInt32).toNat = 0 := rfl
  have e1 : (8 : UInt32).toNat % 32 = 8 := rfl
  have e2 : (16 : UInt32).toNat % 32 = 16 := rfl
  have e3 : (24 : UInt32).toNat % 32 = 24 := rfl
  rw [e0, e1, e2, e3]
  generalize a.toNat = a at *
  generalize b.toNat = b at *
  generalize c.toNat = c at *
  generalize d.toNat = d at *
  have m1 : b <<< 8 % 2 ^ 32 = b <<< 8 := Nat.mod_eq_of_lt (by rw [Nat.shiftLeft_eq]; omega)
  have m2 : c <<< 16 % 2 ^ 32 = c <<< 16 := Nat.mod_eq_of_lt (by rw [Nat.shiftLeft_eq]; omega)
  have m3 : d <<< 24 % 2 ^ 32 = d <<< 24 := Nat.mod_eq_of_lt (by rw [Nat.shiftLeft_eq]; omega)
  have m0 : a <<< (0 % 32) % 2 ^ 32 = a := by simp; omega
  rw [m0, m1, m2, m3, Nat.zero_or]
  have s1 : a ||| b <<< 8 = b * 256 + a := by rw [Nat.or_comm, ← Nat.shiftLeft_add_eq_or_of_lt h0, Nat.shiftLeft_eq]
  have s2 : b * 256 + a ||| c <<< 16 = c * 65536 + (b * 256 + a) := by rw [Nat.or_comm, ← Nat.shiftLeft_add_eq_or_of_lt (by omega), Nat.shiftLeft_eq]
  have s3 : c * 65536 + (b * 256 + a) ||| d <<< 24 = d * 16777216 + (c * 65536 + (b * 256 + a)) := by rw [Nat.or_comm, ← Nat.shiftLeft_add_eq_or_of_lt (by omega), Nat.shiftLeft_eq]
  rw [s1, s2, s3]
  simp only [Nat.shiftLeft_eq]
  omega

theorem set4 (L : List UInt32) (q : Nat) (x0 x1 x2 x3 : UInt32) (hq : q < L.length) (h0 : L.getD q 0 = 0) :
    ((((L.set q (L.getD q 0 ||| x0)).set q ((L.set q (L.getD q 0 ||| x0)).getD q 0 ||| x1)).set q (((L.set q (L.getD q 0 ||| x0)).set q ((L.set q (L.getD q 0 ||| x0)).getD q 0 ||| x1)).getD q 0 ||| x2)).set q
      ((((L.set q (L.getD q 0 ||| x0)).set q ((L.set q (L.getD q 0 ||| x0)).getD q 0 ||| x1)).set q (((L.set q (L.getD q 0 ||| x0)).set q ((L.set q (L.getD q 0 ||| x0)).getD q 0 ||| x1)).getD q 0 ||| x2)).getD q 0 ||| x3))
      = L.set q ((((0 ||| x0) ||| x1) ||| x2) ||| x3) := by
  have g : ∀ (M : List UInt32) (v : UInt32), q < M.length → (M.set q v).getD q 0 = v := fun M v h => by simp [List.getD_eq_getElem?_getD, h]
  simp only [List.set_set, h0]
  rw [g L _ hq, g L _ hq, g L _ hq]

def oneL (p : Nat) (b : List UInt8) (M : List UInt32) (k : Nat) : List UInt32 := M.set (p + k / 4) (M.getD (p + k / 4) 0 ||| (b.getD k 0).toUInt32 <<< (UInt32.ofNat (8 * (k % 4))))
theorem oneL_four (p : Nat) (b : List UInt8) (M : List UInt32) (i : Nat) (hq : p + i < M.length) (h0 : M.getD (p + i) 0 = 0) : oneL p b (oneL p b (oneL p b (oneL p b M (4 * i)) (4 * i + 1)) (4 * i + 2)) (4 * i + 3) = M.set (p + i) (wordL b i) := by
  unfold oneL
  rw [show (4 * i + 3) / 4 = i by omega, show (4 * i + 2) / 4 = i by omega, show (4 * i + 1) / 4 = i by omega, show (4 * i) / 4 = i by omega,
    show (4 * i + 3) % 4 = 3 by omega, show (4 * i + 2) % 4 = 2 by omega, show (4 * i + 1) % 4 = 1 by omega, show (4 * i) % 4 = 0 by omega]
  have o0 : UInt32.ofNat (8 * 0) = 0 := rfl
  have o1 : UInt32.ofNat (8 * 1) = 8 := rfl
  have o2 : UInt32.ofNat (8 * 2) = 16 := rfl
  have o3 : UInt32.ofNat (8 * 3) = 24 := rfl
  rw [o0, o1, o2, o3]
  obtain ⟨x0, h0'⟩ : ∃ x, x = b.getD (4 * i) 0 := ⟨_, rfl⟩
  obtain ⟨x1, h1'⟩ : ∃ x, x = b.getD (4 * i + 1) 0 := ⟨_, rfl⟩
  obtain ⟨x2, h2'⟩ : ∃ x, x = b.getD (4 * i + 2) 0 := ⟨_, rfl⟩
  obtain ⟨x3, h3'⟩ : ∃ x, x = b.getD (4 * i + 3) 0 := ⟨_, rfl⟩
  rw [wordL, ← h0', ← h1', ← h2', ← h3', ← or4 x0 x1 x2 x3]
  exact set4 M (p + i) _ _ _ _ hq h0
theorem loadK_word (l : List UInt32) (p : Nat) (b : List UInt8) (i : Nat) (hp : p + i ≤ l.length) (hz : ∀ j, j < i → l.getD (p + j) 0 = 0) : loadK l p b (4 * i) = wordK l p b i ∧ ∀ j, i ≤ j → (wordK l p b i).getD (p + j) 0 = l.getD (p + j) 0 := by
  induction i with
  | zero => exact ⟨rfl, fun j _ => rfl⟩
  | succ i ih =>
    obtain ⟨ih1, ih2⟩ := ih (by omega) (fun j hj => hz j (by omega))
    refine ⟨?_, fun j hj => ?_⟩
    · have e : loadK l p b (4 * (i + 1)) = oneL p b (oneL p b (oneL p b (oneL p b (loadK l p b (4 * i)) (4 * i)) (4 * i + 1)) (4 * i + 2)) (4 * i + 3) := rfl
      rw [e, ih1, oneL_four _ _ _ _ (by rw [wordK_length]; omega) (by rw [ih2 i (Nat.le_refl _)]; exact hz i (by omega)), wordK]
    · rw [wordK, ← ih2 j (by omega)]
      simp only [List.getD_eq_getElem?_getD]
      rw [List.getElem?_set_ne (by omega)]
theorem headL_zero (j : Nat) (h4 : 4 ≤ j) : headL.getD j 0 = 0 := by
  by_cases h : j < 16
  · have : ∀ j, j < 16 → 4 ≤ j → headL.getD j 0 = 0 := by decide
    exact this j h h4
  · simp [List.getD_eq_getElem?_getD, headL]
    rw [List.getElem?_eq_none (by simp; omega)]
    rfl
theorem wordK_set (l : List UInt32) (p : Nat) (b : List UInt8) (i q : Nat) (x : UInt32) (hq : q < p) : wordK (l.set q x) p b i = (wordK l p b i).set q x := by
  induction i with
  | zero => rfl
  | succ i ih => rw [wordK, wordK, ih, List.set_comm _ _ (by omega)]
theorem refInit_eq (k n : List UInt8) (count : UInt32) : refInit k n count = initL k n count := by
  have h1 := (loadK_word headL 4 k 8 (by simp [headL]) (fun j _ => headL_zero _ (by omega)))
  have h2 := (loadK_word (wordK headL 4 k 8) 13 n 3 (by rw [wordK_length]; simp [headL]) (fun j hj => by
    have := h1.2 (9 + j) (by omega)
    rw [show 4 + (9 + j) = 13 + j by omega] at this
    rw [this]
    exact headL_zero _ (by omega)))
  rw [refInit, initL, wordK_set _ _ _ _ _ _ (by omega), ← h2.1, ← h1.1]
theorem dblK_eight (l : List UInt32) : dblK l 8 = quarterL (quarterL (quarterL (quarterL (quarterL (quarterL (quarterL (quarterL l 0 4 8 12) 1 5 9 13) 2 6 10 14) 3 7 11 15) 0 5 10 15) 1 6 11 12) 2 7 8 13) 3 4 9 14 := rfl
end Go.Proofs.Ytdheopihcohciaa
