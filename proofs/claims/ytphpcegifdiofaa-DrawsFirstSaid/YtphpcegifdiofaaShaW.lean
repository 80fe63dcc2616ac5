/- What has been taken in: the bytes, one by one. No condition. -/
import Derived.Test.YtphpcegifdiofaaShaHB
namespace Go.Proofs.Ytphpcegifdiofaa
set_option linter.unusedVariables false
set_option linter.unusedSimpArgs false
open Go.RowKit

/-- What a Hash holds. -/
structure HSt where
  s : List UInt32
  rest : List UInt8
  n : Nat
structure HSt.ok (h : HSt) : Prop where
  hs : h.s.length = 8
  hr : h.rest.length = 64
/-- Nothing was taken in. -/
def startH : HSt := ⟨beginL, List.replicate 64 0, 0⟩
theorem startH_ok : startH.ok := ⟨rfl, by simp [startH]⟩
/-- Some bytes that fit into what is left of the block, laid at once. -/
def layL (rest : List UInt8) (p : Nat) (l : List UInt8) : List UInt8 := rest.take p ++ (l ++ rest.drop (p + l.length))
theorem layL_length (rest : List UInt8) (p : Nat) (l : List UInt8) (h : p + l.length ≤ rest.length) : (layL rest p l).length = rest.length := by
  simp [layL]; omega
theorem layL_full (rest : List UInt8) (l : List UInt8) (h : l.length = rest.length) : layL rest 0 l = l := by
  simp [layL, h]
/-- Some bytes that fit. -/
def stepW (h : HSt) (l : List UInt8) : HSt :=
  if (h.n + l.length) % 64 = 0 then ⟨takeL h.s (layL h.rest (h.n % 64) l), layL h.rest (h.n % 64) l, h.n + l.length⟩ else ⟨h.s, layL h.rest (h.n % 64) l, h.n + l.length⟩
/-- A byte. -/
def putB (h : HSt) (c : UInt8) : HSt := stepW h [c]
theorem stepW_ok {h : HSt} (k : h.ok) (l : List UInt8) (hl : h.n % 64 + l.length ≤ 64) : (stepW h l).ok := by
  have e : (layL h.rest (h.n % 64) l).length = 64 := by rw [layL_length _ _ _ (by rw [k.hr]; exact hl), k.hr]
  unfold stepW
  split
  · exact ⟨by simp [takeL_length, k.hs], e⟩
  · exact ⟨k.hs, e⟩
theorem putB_ok {h : HSt} (k : h.ok) (c : UInt8) : (putB h c).ok := stepW_ok k [c] (by simp; omega)
/-- Bytes. -/
def putsB (h : HSt) (l : List UInt8) : HSt := l.foldl putB h
theorem putsB_ok {h : HSt} (k : h.ok) : ∀ (l : List UInt8), (putsB h l).ok := by
  intro l
  induction l generalizing h with
  | nil => exact k
  | cons c l ih => exact ih (putB_ok k c)
theorem putsB_append (h : HSt) (l l' : List UInt8) : putsB h (l ++ l') = putsB (putsB h l) l' := by simp [putsB]
theorem putsB_nil (h : HSt) : putsB h [] = h := rfl
theorem stepW_n (h : HSt) (l : List UInt8) : (stepW h l).n = h.n + l.length := by unfold stepW; split <;> rfl
theorem putB_n (h : HSt) (c : UInt8) : (putB h c).n = h.n + 1 := stepW_n h [c]
theorem putsB_n (h : HSt) : ∀ (l : List UInt8), (putsB h l).n = h.n + l.length := by
  intro l
  induction l generalizing h with
  | nil => rfl
  | cons c l ih =>
    show (putsB (putB h c) l).n = _
    rw [ih, putB_n, List.length_cons]
    omega
theorem layL_cons (rest : List UInt8) (p : Nat) (c : UInt8) (l : List UInt8) (h : p < rest.length) : layL (layL rest p [c]) (p + 1) l = layL rest p (c :: l) := by
  have e1 : (layL rest p [c]).take (p + 1) = rest.take p ++ [c] := by
    have : (rest.take p ++ [c]).length = p + 1 := by simp; omega
    unfold layL
    rw [← List.append_assoc, List.take_append_of_le_length (by omega), List.take_of_length_le (by omega)]
  have e2 : (layL rest p [c]).drop (p + 1 + l.length) = rest.drop (p + 1 + l.length) := by
    have : (rest.take p ++ [c]).length = p + 1 := by simp; omega
    unfold layL
    rw [← List.append_assoc, List.drop_append, List.drop_of_length_le (by omega), this, List.drop_drop]
    simp
  rw [layL, e1, e2, layL]
  simp [Nat.add_assoc, Nat.add_comm 1]
/-- Fewer bytes than fill the block, or just so many, at once. -/
theorem putsB_some (h : HSt) (k : h.ok) : ∀ (l : List UInt8), l ≠ [] → h.n % 64 + l.length ≤ 64 → putsB h l = stepW h l := by
  intro l
  induction l generalizing h with
  | nil => intro h0; exact absurd rfl h0
  | cons c l ih =>
    intro _ hl
    simp only [List.length_cons] at hl
    by_cases h0 : l = []
    · subst h0; rfl
    · have hlen : 0 < l.length := List.length_pos_iff.2 h0
      show putsB (putB h c) l = _
      rw [ih _ (putB_ok k c) h0 (by rw [putB_n]; omega)]
      have e : putB h c = ⟨h.s, layL h.rest (h.n % 64) [c], h.n + 1⟩ := by
        unfold putB stepW
        rw [if_neg (by simp; omega)]
        rfl
      have em : (h.n + 1) % 64 = h.n % 64 + 1 := by omega
      rw [e]
      unfold stepW
      simp only [em, List.length_cons]
      rw [layL_cons _ _ _ _ (by rw [k.hr]; omega), show h.n + 1 + l.length = h.n + (l.length + 1) by omega]
/-- A whole block. -/
theorem putsB_block (h : HSt) (k : h.ok) (l : List UInt8) (h0 : h.n % 64 = 0) (hl : l.length = 64) : putsB h l = ⟨takeL h.s l, l, h.n + 64⟩ := by
  rw [putsB_some h k l (by intro e; rw [e] at hl; cases hl) (by omega)]
  unfold stepW
  rw [h0, layL_full _ _ (by rw [k.hr, hl]), hl, if_pos (by omega)]
/-- What stands behind a text. -/
def beLs : Nat → Nat → List UInt8
  | 0, _ => []
  | k + 1, x => UInt8.ofNat (x / 2 ^ (8 * k)) :: beLs k x
theorem beLs_length (k x : Nat) : (beLs k x).length = k := by
  induction k with
  | zero => rfl
  | succ k ih => simp [beLs, ih]
def zerosN (n : Nat) : Nat := (55 + 64 - n % 64) % 64
def tailL (n : Nat) : List UInt8 := 0x80 :: (List.replicate (zerosN n) 0 ++ beLs 8 (n * 8 % 18446744073709551616))
/-- The sum's bytes. -/
def outL (s : List UInt32) : List UInt8 := (List.range 32).map fun i => (s.getD (i / 4) 0 >>> UInt32.ofNat (8 * (3 - i % 4))).toUInt8
theorem outL_length (s : List UInt32) : (outL s).length = 32 := by simp [outL]
def sumH (h : HSt) : List UInt8 := outL (putsB h (tailL h.n)).s
theorem sumH_length (h : HSt) : (sumH h).length = 32 := outL_length _
/-- The sum of bytes. -/
def hashL (l : List UInt8) : List UInt8 := sumH (putsB startH l)
theorem hashL_length (l : List UInt8) : (hashL l).length = 32 := outL_length _
end Go.Proofs.Ytphpcegifdiofaa
