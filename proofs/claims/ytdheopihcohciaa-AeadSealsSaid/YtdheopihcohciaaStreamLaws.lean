/- Plain laws on a text laid over the key's bytes: twice, the first bytes, from a later block on. No program. -/
import Derived.Test.YtdheopihcohciaaStream
namespace Go.Proofs.Ytdheopihcohciaa
set_option linter.unusedVariables false
set_option linter.unusedSimpArgs false
open Go.RowKit

theorem streamL_getD (k n : List UInt8) (count : UInt32) (bs : List UInt8) (i : Nat) (hi : i < bs.length) : (streamL k n count bs).getD i 0 = bs.getD i 0 ^^^ keyByte k n count i := by
  rw [List.getD_eq_getElem?_getD, streamL_get _ _ _ _ _ hi]; rfl
theorem streamL_twice (k n : List UInt8) (count : UInt32) (bs : List UInt8) : streamL k n count (streamL k n count bs) = bs := by
  apply List.ext_getElem?
  intro i
  by_cases hi : i < bs.length
  · rw [streamL_get _ _ _ _ _ (by rw [streamL_length]; exact hi), streamL_getD _ _ _ _ _ hi, UInt8.xor_assoc, UInt8.xor_self, UInt8.xor_zero, List.getElem?_eq_getElem hi, List.getD_eq_getElem?_getD, List.getElem?_eq_getElem hi]
    rfl
  · rw [List.getElem?_eq_none (by rw [streamL_length, streamL_length]; omega), List.getElem?_eq_none (by omega)]
theorem streamL_take (k n : List UInt8) (count : UInt32) (bs : List UInt8) (m : Nat) : streamL k n count (bs.take m) = (streamL k n count bs).take m := by
  apply List.ext_getElem?
  intro i
  by_cases hi : i < (bs.take m).length
  · have hi' : i < bs.length ∧ i < m := by rw [List.length_take] at hi; omega
    rw [streamL_get _ _ _ _ _ hi, List.getElem?_take, if_pos hi'.2, streamL_get _ _ _ _ _ hi'.1]
    simp [List.getD_eq_getElem?_getD, List.getElem?_take, hi'.2]
  · rw [List.getElem?_eq_none (by rw [streamL_length]; omega), List.getElem?_eq_none (by rw [List.length_take, streamL_length]; rw [List.length_take] at hi; omega)]
theorem streamL_drop (k n : List UInt8) (count : UInt32) (bs : List UInt8) (q : Nat) : streamL k n (count + UInt32.ofNat q) (bs.drop (64 * q)) = (streamL k n count bs).drop (64 * q) := by
  apply List.ext_getElem?
  intro i
  by_cases hi : i < (bs.drop (64 * q)).length
  · have hi' : 64 * q + i < bs.length := by rw [List.length_drop] at hi; omega
    rw [streamL_get _ _ _ _ _ hi, List.getElem?_drop, streamL_get _ _ _ _ _ hi']
    congr 1
    have e1 : (bs.drop (64 * q)).getD i 0 = bs.getD (64 * q + i) 0 := by simp [List.getD_eq_getElem?_getD, List.getElem?_drop]
    have e2 : keyByte k n (count + UInt32.ofNat q) i = keyByte k n count (64 * q + i) := by
      unfold keyByte
      rw [show (64 * q + i) % 64 = i % 64 by omega, show (64 * q + i) / 64 = q + i / 64 by omega, UInt32.add_assoc]
      congr 3
      simp
    rw [e1, e2]
  · rw [List.getElem?_eq_none (by rw [streamL_length]; omega), List.getElem?_eq_none (by rw [List.length_drop, streamL_length]; rw [List.length_drop] at hi; omega)]
/-- .. its call, the answer told as a slice that is read. -/
theorem stream_read (k n : List UInt8) (hk : k.length = 32) (hn : n.length = 12) (count : UInt32) (w : World) (A : Option Addr) (m c : Nat) (bs : List UInt8) (hm : bs.length = m) (hR : RdB w A bs) (hlc : m ≤ c) (hb : m ≤ 70368744177664)
    (hlt : ∀ a, A = some a → a.block < w.heap.size) :
    Go.Calls Try.prog 14 #[.agg (W8 k), .agg (W8 n), .int .u32 (count.toNat : Int), .slice A m c] w fun e w' =>
      ∃ A' c', e = .returned (.slice A' m c') ∧ RdB w' A' (streamL k n count bs) ∧ m ≤ c' ∧ (∀ a, A' = some a → w.heap.size ≤ a.block ∧ a.block < w'.heap.size) ∧ Below w.heap.size w w' := by
  refine (stream_len k n hk hn count w A m c bs hm hR hlc hb hlt).mono ?_
  rintro e w' ⟨v, rfl, ho, hb⟩
  obtain ⟨A', c', rfl, hr, hl, _, hb2⟩ := ho.read
  rw [streamL_length, hm] at *
  exact ⟨A', c', rfl, hr, hl, hb2, hb⟩
end Go.Proofs.Ytdheopihcohciaa
