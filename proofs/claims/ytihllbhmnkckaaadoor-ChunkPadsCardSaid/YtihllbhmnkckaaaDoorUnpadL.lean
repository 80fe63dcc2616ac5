/- What is padded is unpadded, in plain words. No condition but those each theorem states. -/
import Derived.Test.YtihllbhmnkckaaaDoorUnpad
import Derived.Test.YtihllbhmnkckaaaDoorWireLaws
namespace Go.Proofs.YtihllbhmnkckaaaDoor
set_option linter.unusedVariables false
set_option linter.unusedSimpArgs false
open Go.RowKit

theorem beL4_beVal (b : List UInt8) (h : b.length = 4) : beL 4 (beVal b) = b := by
  match b, h with
  | [x, y, z, u], _ =>
    have hx := x.toNat_lt
    have hy := y.toNat_lt
    have hz := z.toNat_lt
    have hu := u.toNat_lt
    have e : beVal [x, y, z, u] = ((x.toNat * 256 + y.toNat) * 256 + z.toNat) * 256 + u.toNat := by simp [beVal]
    have f : ∀ (v : UInt8) (q : Nat), q % 256 = v.toNat → UInt8.ofNat q = v := by
      intro v q hq
      apply UInt8.toNat.inj
      simp [hq]
    rw [e]
    simp only [beL]
    rw [f x _ (by omega), f y _ (by omega), f z _ (by omega), f u _ (by omega)]
theorem lenL_take (l : List UInt8) (h : 4 ≤ l.length) : lenL l = beVal (l.take 4) := by
  unfold lenL
  rw [show (4 : Int) = ((4 : Nat) : Int) from rfl, take_nat l 4 h]
theorem lenL_pad (t r : List UInt8) (h : t.length ≤ 4194304) : lenL (sizedL t ++ r) = t.length := by
  have e : (sizedL t ++ r).take 4 = beL 4 t.length := by
    rw [sizedL, List.append_assoc, List.take_append_of_le_length (by rw [beL_length]; exact Nat.le_refl _), List.take_of_length_le (by rw [beL_length]; exact Nat.le_refl _)]
  rw [lenL_take _ (by rw [List.length_append, sizedL_length]; omega), e, beVal_beL]
  exact Nat.mod_eq_of_lt (by omega)
theorem pad_drop (t r : List UInt8) : (sizedL t ++ r).drop 4 = t ++ r := by
  rw [sizedL, List.append_assoc, List.drop_append_of_le_length (by rw [beL_length]; exact Nat.le_refl _), List.drop_of_length_le (by rw [beL_length]; exact Nat.le_refl _), List.nil_append]
theorem unpad_pad (t : List UInt8) (h : t.length ≤ 4194304) : unpadS (padL t) = some t := by
  have h1 : lenL (padL t) = t.length := lenL_pad _ _ h
  have h2 := padL_length t h
  unfold unpadS
  rw [h1, if_neg (by omega), if_neg (by rw [h2]; simp), padL, pad_drop, List.drop_left, List.take_left, if_pos]
  intro j _
  simp only [List.getD_eq_getElem?_getD, List.getElem?_replicate]
  split <;> rfl
theorem unpad_some (l t : List UInt8) (h : unpadS l = some t) : t.length ≤ 4194304 ∧ padL t = l := by
  unfold unpadS at h
  split at h
  · cases h
  rename_i h1
  split at h
  · cases h
  rename_i h2
  split at h
  · rename_i h3
    have h2' : l.length = padN (lenL l) := Decidable.not_not.mp h2
    have h4 := padN_ge (lenL l) (by omega)
    have ht : (l.drop 4).take (lenL l) = t := Option.some.inj h
    have hl : t.length = lenL l := by rw [← ht, List.length_take, List.length_drop]; omega
    refine ⟨by omega, ?_⟩
    have e1 : beL 4 t.length = l.take 4 := by
      rw [hl, lenL_take l (by omega)]
      exact beL4_beVal _ (by rw [List.length_take]; omega)
    have e2 : List.replicate (padN t.length - (t.length + 4)) (0 : UInt8) = (l.drop 4).drop (lenL l) := by
      symm
      rw [List.eq_replicate_iff]
      refine ⟨by rw [List.length_drop, List.length_drop, hl]; omega, fun b hb => ?_⟩
      obtain ⟨j, hj, rfl⟩ := List.getElem_of_mem hb
      have := h3 j (by rw [List.length_drop, List.length_drop] at hj; exact hj)
      rw [List.getD_eq_getElem?_getD, List.getElem?_eq_getElem hj] at this
      exact this
    rw [padL, e2, sizedL, e1, ← ht, List.append_assoc, List.take_append_drop, List.take_append_drop]
  · cases h
theorem padN_mod (n : Nat) : padN n % 256 = 0 := by unfold padN; split <;> omega
theorem unpad_more (b : List UInt8) (h : b.length ≤ 4194304) (x : UInt8) : unpadS (padL b ++ [x]) = none := by
  cases hu : unpadS (padL b ++ [x]) with
  | none => rfl
  | some t =>
    obtain ⟨h1, h2⟩ := unpad_some _ _ hu
    have h3 := congrArg List.length h2
    rw [padL_length t h1, List.length_append, padL_length b h, List.length_singleton] at h3
    have := padN_mod t.length
    have := padN_mod b.length
    omega
/-- The last byte is a zero, or the text fills its bytes. -/
theorem unpad_other (b : List UInt8) (h : b.length ≤ 4194304) (y : UInt8) (hy : y ≠ (padL b).getD ((padL b).length - 1) 0) :
    (b.length + 4 = (padL b).length → ∃ v, unpadS ((padL b).set ((padL b).length - 1) y) = some v ∧ v ≠ b) ∧ (b.length + 4 ≠ (padL b).length → unpadS ((padL b).set ((padL b).length - 1) y) = none) := by
  have hl := padL_length b h
  have hg := padN_ge b.length h
  have hm := padN_mod b.length
  constructor
  · intro hf
    have e0 : padL b = sizedL b := by rw [padL, show padN b.length - (b.length + 4) = 0 by omega]; simp
    have hb : 0 < b.length := by omega
    refine ⟨b.set (b.length - 1) y, ?_, ?_⟩
    · have e1 : (padL b).set ((padL b).length - 1) y = padL (b.set (b.length - 1) y) := by
        have e5 : padL (b.set (b.length - 1) y) = sizedL (b.set (b.length - 1) y) := by rw [padL, List.length_set, show padN b.length - (b.length + 4) = 0 by omega]; simp
        rw [← hf, e5, e0, sizedL, sizedL, List.length_set, List.set_append_right _ _ (by rw [beL_length]; omega), beL_length, show b.length + 4 - 1 - 4 = b.length - 1 by omega]
      rw [e1]
      exact unpad_pad _ (by rw [List.length_set]; exact h)
    · intro e
      apply hy
      have e2 := congrArg (fun l => l.getD (b.length - 1) 0) e
      simp only [List.getD_eq_getElem?_getD, List.getElem?_set] at e2
      rw [if_pos trivial, if_pos (by omega)] at e2
      rw [← hf, e0, sizedL, List.getD_eq_getElem?_getD, List.getElem?_append_right (by rw [beL_length]; omega), beL_length, show b.length + 4 - 1 - 4 = b.length - 1 by omega]
      exact e2
  · intro hf
    cases hu : unpadS ((padL b).set ((padL b).length - 1) y) with
    | none => rfl
    | some t =>
      exfalso
      obtain ⟨h1, h2⟩ := unpad_some _ _ hu
      have h3 : lenL ((padL b).set ((padL b).length - 1) y) = lenL (padL b) := by
        rw [lenL_take _ (by rw [List.length_set, hl]; omega), lenL_take _ (by rw [hl]; omega), List.take_set_of_le (by rw [hl]; omega)]
      rw [← h2, show lenL (padL t) = t.length from lenL_pad _ _ h1, show lenL (padL b) = b.length from lenL_pad _ _ h] at h3
      apply hy
      have e2 := congrArg (fun l => l.getD ((padL b).length - 1) 0) h2
      have e3 : ∀ s : List UInt8, s.length = b.length → (padL s).getD ((padL b).length - 1) 0 = 0 := by
        intro s hs
        rw [padL, List.getD_eq_getElem?_getD, List.getElem?_append_right (by rw [sizedL_length, hs]; omega), List.getElem?_replicate]
        split <;> rfl
      replace e2 : (padL t).getD ((padL b).length - 1) 0 = ((padL b).set ((padL b).length - 1) y).getD ((padL b).length - 1) 0 := e2
      rw [e3 t h3, List.getD_eq_getElem?_getD, List.getElem?_set, if_pos rfl, if_pos (by rw [hl]; omega)] at e2
      rw [e3 b rfl]
      exact e2.symm
end Go.Proofs.YtihllbhmnkckaaaDoor
