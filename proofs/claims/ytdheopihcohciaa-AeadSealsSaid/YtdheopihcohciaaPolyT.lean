/- The tag of a text, plain. No condition but those each theorem states. -/
import Derived.Test.YtdheopihcohciaaPolyC
namespace Go.Proofs.Ytdheopihcohciaa
set_option linter.unusedVariables false
set_option linter.unusedSimpArgs false
open Go.RowKit

/-! ### a clamped key -/
def clampK (b : List UInt8) : Nat → List UInt8
  | 0 => b
  | t + 1 =>
    let q := (clampK b t).set (3 + 4 * t) ((clampK b t).getD (3 + 4 * t) 0 &&& 15)
    if 3 + 4 * t + 1 < 16 then q.set (3 + 4 * t + 1) (q.getD (3 + 4 * t + 1) 0 &&& 252) else q
theorem clampK_length (b : List UInt8) (t : Nat) : (clampK b t).length = b.length := by
  induction t with
  | zero => rfl
  | succ t ih => rw [clampK]; split <;> simp [ih]
def clampL (b : List UInt8) : List UInt8 := clampK b 4
theorem clampL_length (b : List UInt8) : (clampL b).length = b.length := clampK_length b 4
theorem list16 : ∀ (v : List UInt8), v.length = 16 → ∃ a b c d e f g h i j k l m n o p, v = [a, b, c, d, e, f, g, h, i, j, k, l, m, n, o, p]
  | [a, b, c, d, e, f, g, h, i, j, k, l, m, n, o, p], _ => ⟨a, b, c, d, e, f, g, h, i, j, k, l, m, n, o, p, rfl⟩
theorem clampL_form (a b c d e f g h i j k l m n o p : UInt8) : clampL [a, b, c, d, e, f, g, h, i, j, k, l, m, n, o, p] = [a, b, c, d &&& 15, e &&& 252, f, g, h &&& 15, i &&& 252, j, k, l &&& 15, m &&& 252, n, o, p &&& 15] := rfl
theorem clampL_twice (b : List UInt8) (h : b.length = 16) : clampL (clampL b) = clampL b := by
  obtain ⟨a, b, c, d, e, f, g, h, i, j, k, l, m, n, o, p, rfl⟩ := list16 b h
  rw [clampL_form, clampL_form]
  simp only [UInt8.and_assoc, show (15 : UInt8) &&& 15 = 15 from rfl, show (252 : UInt8) &&& 252 = 252 from rfl]
theorem leNat_lt16 (b : List UInt8) (h : b.length = 16) : leNat b < 340282366920938463463374607431768211456 := by
  have := leNat_lt b
  rw [h] at this
  exact this
/-! ### the text -/
/-- All parts of 16 bytes, each with a byte 1. -/
def polyF (r : Nat) : Nat → Nat → List UInt8 → Nat
  | 0, a, _ => a
  | f + 1, a, l => if l = [] then a else polyF r f ((a + leNat (l.take 16 ++ [1])) * r % PN) (l.drop 16)
theorem polyF_more (r : Nat) : ∀ (f g a : Nat) (l : List UInt8), l.length ≤ f → l.length ≤ g → polyF r f a l = polyF r g a l
  | 0, 0, a, l, _, _ => rfl
  | 0, g + 1, a, l, h, _ => by
    obtain rfl : l = [] := List.eq_nil_of_length_eq_zero (by omega)
    rw [polyF, polyF, if_pos rfl]
  | f + 1, 0, a, l, _, h => by
    obtain rfl : l = [] := List.eq_nil_of_length_eq_zero (by omega)
    rw [polyF, polyF, if_pos rfl]
  | f + 1, g + 1, a, l, h, h' => by
    rw [polyF, polyF]
    split
    · rfl
    · rename_i h0
      have := List.length_pos_iff.2 h0
      exact polyF_more r f g _ _ (by rw [List.length_drop]; omega) (by rw [List.length_drop]; omega)
def polyA (r a : Nat) (l : List UInt8) : Nat := polyF r l.length a l
theorem polyA_nil (r a : Nat) : polyA r a [] = a := rfl
theorem polyA_cons (r a : Nat) (l : List UInt8) (h : l ≠ []) : polyA r a l = polyA r ((a + leNat (l.take 16 ++ [1])) * r % PN) (l.drop 16) := by
  have := List.length_pos_iff.2 h
  unfold polyA
  obtain ⟨n, hn⟩ : ∃ n, l.length = n + 1 := ⟨l.length - 1, by omega⟩
  rw [hn, polyF, if_neg h]
  exact polyF_more r n _ _ _ (by rw [List.length_drop]; omega) (Nat.le_refl _)
theorem polyA_zero (a : Nat) : ∀ (n : Nat) (l : List UInt8), l.length ≤ n → polyA 0 0 l = 0
  | 0, l, h => by
    obtain rfl : l = [] := List.eq_nil_of_length_eq_zero (by omega)
    rfl
  | n + 1, l, h => by
    by_cases h0 : l = []
    · subst h0; rfl
    · have := List.length_pos_iff.2 h0
      rw [polyA_cons 0 0 l h0, Nat.mul_zero, Nat.zero_mod]
      exact polyA_zero a n _ (by rw [List.length_drop]; omega)
/-! ### the tag -/
/-- Sixteen bytes of a number, the lowest first. -/
def bytesN (x : Nat) : List UInt8 := (List.range 16).map fun j => UInt8.ofNat (x / 256 ^ j)
theorem bytesN_length (x : Nat) : (bytesN x).length = 16 := by simp [bytesN]
theorem bytesN_get (x j : Nat) (h : j < 16) : (bytesN x).getD j 0 = UInt8.ofNat (x / 256 ^ j) := by
  rw [bytesN, List.getD_eq_getElem?_getD, List.getElem?_map, List.getElem?_range h]
  rfl
/-- What the tag is, as a number (of which sixteen bytes are told). -/
def tagN (x : Nat) (s : List UInt8) : Nat := x % 340282366920938463463374607431768211456 + leNat s
/-- .. of the first i bytes. -/
def tagK (x : Nat) (s : List UInt8) (i : Nat) : Nat := x % 256 ^ i + leNat (s.take i)
theorem tagK_all (x : Nat) (s : List UInt8) (h : s.length = 16) : tagK x s 16 = tagN x s := by
  unfold tagK tagN
  rw [List.take_of_length_le (by omega)]
theorem tagK_step (x : Nat) (s : List UInt8) (i : Nat) (hi : i < s.length) : tagK x s (i + 1) = tagK x s i + (x / 256 ^ i % 256 + (s.getD i 0).toNat) * 256 ^ i := by
  unfold tagK
  rw [leNat_snoc s i hi, Nat.pow_succ, Nat.mod_mul, Nat.add_mul, Nat.mul_comm (256 ^ i) (x / 256 ^ i % 256)]
  omega
theorem tagK_div (x : Nat) (s : List UInt8) (i : Nat) (hi : i < s.length) : tagK x s (i + 1) / 256 ^ i = tagK x s i / 256 ^ i + (x / 256 ^ i % 256 + (s.getD i 0).toNat) := by
  rw [tagK_step x s i hi, Nat.add_mul_div_right _ _ (Nat.pow_pos (by omega))]
theorem tagK_next (x : Nat) (s : List UInt8) (i : Nat) (hi : i < s.length) : tagK x s (i + 1) / 256 ^ (i + 1) = (tagK x s i / 256 ^ i + (x / 256 ^ i % 256 + (s.getD i 0).toNat)) / 256 := by
  rw [← tagK_div x s i hi, Nat.div_div_eq_div_mul, Nat.pow_succ]
/-- A byte of the tag hangs on the bytes up to it. -/
theorem tagK_byte (x : Nat) (s : List UInt8) (i : Nat) : ∀ (j : Nat), i < j → j ≤ s.length → tagK x s j / 256 ^ i % 256 = tagK x s (i + 1) / 256 ^ i % 256
  | 0, h, _ => by omega
  | j + 1, h, hl => by
    by_cases e : j = i
    · rw [e]
    · rw [← tagK_byte x s i j (by omega) (by omega), tagK_step x s j (by omega)]
      obtain ⟨k, hk⟩ : ∃ k, j = i + (k + 1) := ⟨j - i - 1, by omega⟩
      obtain ⟨q, hq⟩ : ∃ q, q = x / 256 ^ j % 256 + (s.getD j 0).toNat := ⟨_, rfl⟩
      rw [← hq, hk, Nat.pow_add, Nat.pow_succ, show q * (256 ^ i * (256 ^ k * 256)) = 256 ^ i * (q * 256 ^ k * 256) by rw [Nat.mul_left_comm, Nat.mul_assoc], Nat.add_mul_div_left _ _ (Nat.pow_pos (by omega)), Nat.add_mul_mod_self_right]
theorem tag_byte (x : Nat) (s : List UInt8) (h : s.length = 16) (i : Nat) (hi : i < 16) : (bytesN (tagN x s)).getD i 0 = UInt8.ofNat (tagK x s i / 256 ^ i + (x / 256 ^ i % 256 + (s.getD i 0).toNat)) := by
  rw [bytesN_get _ _ hi, ← tagK_all x s h, ← tagK_div x s i (by omega)]
  apply UInt8.toNat_inj.1
  simp only [UInt8.toNat_ofNat', Nat.reducePow]
  exact tagK_byte x s i 16 (by omega) (by omega)
theorem tagK_small (x : Nat) (s : List UInt8) (i : Nat) (hi : i ≤ s.length) : tagK x s i / 256 ^ i ≤ 1 := by
  have h1 : x % 256 ^ i < 256 ^ i := Nat.mod_lt _ (Nat.pow_pos (by omega))
  have h2 := leNat_lt (s.take i)
  rw [List.length_take, Nat.min_eq_left hi] at h2
  have h3 : tagK x s i < 256 ^ i * 2 := by unfold tagK; omega
  have := Nat.div_lt_of_lt_mul h3
  omega
/-- The tag of a text. -/
def polyL (key b : List UInt8) : List UInt8 := bytesN (tagN (polyA (leNat (clampL (key.take 16))) 0 b) (key.drop 16))
theorem polyL_length (key b : List UInt8) : (polyL key b).length = 16 := bytesN_length _
/-! ### the bytes out of the limbs -/
theorem out_0 (x : Nat) : ((x % 67108864) / 1 ||| (x / 67108864 % 67108864) * 67108864) % 256 = x / 1 % 256 := by
  rw [or_add 26 _ _ (x / 67108864 % 67108864) (by omega) (by omega)]
  omega
theorem out_1 (x : Nat) : ((x % 67108864) / 256 ||| (x / 67108864 % 67108864) * 262144) % 256 = x / 256 % 256 := by
  rw [or_add 18 _ _ (x / 67108864 % 67108864) (by omega) (by omega)]
  omega
theorem out_2 (x : Nat) : ((x % 67108864) / 65536 ||| (x / 67108864 % 67108864) * 1024) % 256 = x / 65536 % 256 := by
  rw [or_add 10 _ _ (x / 67108864 % 67108864) (by omega) (by omega)]
  omega
theorem out_3 (x : Nat) : ((x % 67108864) / 16777216 ||| (x / 67108864 % 67108864) * 4) % 256 = x / 16777216 % 256 := by
  rw [or_add 2 _ _ (x / 67108864 % 67108864) (by omega) (by omega)]
  omega
theorem out_4 (x : Nat) : ((x / 67108864 % 67108864) / 64 ||| (x / 4503599627370496 % 67108864) * 1048576) % 256 = x / 4294967296 % 256 := by
  rw [or_add 20 _ _ (x / 4503599627370496 % 67108864) (by omega) (by omega)]
  omega
theorem out_5 (x : Nat) : ((x / 67108864 % 67108864) / 16384 ||| (x / 4503599627370496 % 67108864) * 4096) % 256 = x / 1099511627776 % 256 := by
  rw [or_add 12 _ _ (x / 4503599627370496 % 67108864) (by omega) (by omega)]
  omega
theorem out_6 (x : Nat) : ((x / 67108864 % 67108864) / 4194304 ||| (x / 4503599627370496 % 67108864) * 16) % 256 = x / 281474976710656 % 256 := by
  rw [or_add 4 _ _ (x / 4503599627370496 % 67108864) (by omega) (by omega)]
  omega
theorem out_7 (x : Nat) : ((x / 4503599627370496 % 67108864) / 16 ||| (x / 302231454903657293676544 % 67108864) * 4194304) % 256 = x / 72057594037927936 % 256 := by
  rw [or_add 22 _ _ (x / 302231454903657293676544 % 67108864) (by omega) (by omega)]
  omega
theorem out_8 (x : Nat) : ((x / 4503599627370496 % 67108864) / 4096 ||| (x / 302231454903657293676544 % 67108864) * 16384) % 256 = x / 18446744073709551616 % 256 := by
  rw [or_add 14 _ _ (x / 302231454903657293676544 % 67108864) (by omega) (by omega)]
  omega
theorem out_9 (x : Nat) : ((x / 4503599627370496 % 67108864) / 1048576 ||| (x / 302231454903657293676544 % 67108864) * 64) % 256 = x / 4722366482869645213696 % 256 := by
  rw [or_add 6 _ _ (x / 302231454903657293676544 % 67108864) (by omega) (by omega)]
  omega
theorem out_10 (x : Nat) : ((x / 302231454903657293676544 % 67108864) / 4 ||| (x / 20282409603651670423947251286016 % 67108864) * 16777216) % 256 = x / 1208925819614629174706176 % 256 := by
  rw [or_add 24 _ _ (x / 20282409603651670423947251286016 % 67108864) (by omega) (by omega)]
  omega
theorem out_11 (x : Nat) : ((x / 302231454903657293676544 % 67108864) / 1024 ||| (x / 20282409603651670423947251286016 % 67108864) * 65536) % 256 = x / 309485009821345068724781056 % 256 := by
  rw [or_add 16 _ _ (x / 20282409603651670423947251286016 % 67108864) (by omega) (by omega)]
  omega
theorem out_12 (x : Nat) : ((x / 302231454903657293676544 % 67108864) / 262144 ||| (x / 20282409603651670423947251286016 % 67108864) * 256) % 256 = x / 79228162514264337593543950336 % 256 := by
  rw [or_add 8 _ _ (x / 20282409603651670423947251286016 % 67108864) (by omega) (by omega)]
  omega
theorem out_13 (x : Nat) : ((x / 20282409603651670423947251286016 % 67108864) / 1) % 256 = x / 20282409603651670423947251286016 % 256 := by
  omega
theorem out_14 (x : Nat) : ((x / 20282409603651670423947251286016 % 67108864) / 256) % 256 = x / 5192296858534827628530496329220096 % 256 := by
  omega
theorem out_15 (x : Nat) : ((x / 20282409603651670423947251286016 % 67108864) / 65536) % 256 = x / 1329227995784915872903807060280344576 % 256 := by
  omega
/-- What a round tells of the limbs, before the mask. -/
def outV (q : List Nat) (i : Nat) : Nat :=
  if 8 * i / 26 + 1 < 5 then q.getD (8 * i / 26) 0 / 2 ^ (8 * i % 26) ||| q.getD (8 * i / 26 + 1) 0 * 2 ^ (26 - 8 * i % 26) else q.getD (8 * i / 26) 0 / 2 ^ (8 * i % 26)
theorem outV_byte (x i : Nat) (hi : i < 16) : outV (limbsN x) i % 256 = x / 256 ^ i % 256 := by
  rcases i with _ | _ | _ | _ | _ | _ | _ | _ | _ | _ | _ | _ | _ | _ | _ | _ | i
  · exact out_0 x
  · exact out_1 x
  · exact out_2 x
  · exact out_3 x
  · exact out_4 x
  · exact out_5 x
  · exact out_6 x
  · exact out_7 x
  · exact out_8 x
  · exact out_9 x
  · exact out_10 x
  · exact out_11 x
  · exact out_12 x
  · exact out_13 x
  · exact out_14 x
  · exact out_15 x
  · omega
end Go.Proofs.Ytdheopihcohciaa
