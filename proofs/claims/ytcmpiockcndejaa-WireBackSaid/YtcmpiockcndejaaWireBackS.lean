/- What wire.List laid is read again; less one byte, it is not. Plain words. No condition. -/
import Derived.Test.YtcmpiockcndejaaWireLaws
import Derived.Test.YtcmpiockcndejaaWireList
import Derived.Test.YtcmpiockcndejaaRdrList
namespace Go.Proofs.Ytcmpiockcndejaa
set_option linter.unusedVariables false
set_option linter.unusedSimpArgs false
open Go.RowKit

theorem takeS_zero (s : RSt) : takeS s 0 = (s, [], false) := by simp [takeS]
theorem takeS_bad (n : Int) : takeS ⟨[], 10⟩ n = (⟨[], 10⟩, [], false) := by simp [takeS]
theorem numS_bad (n : Int) : numS ⟨[], 10⟩ n = (⟨[], 10⟩, 0) := by rw [numS, takeS_bad]; rfl
theorem sizedS_bad : sizedS ⟨[], 10⟩ = (⟨[], 10⟩, []) := by
  rw [sizedS, numS_bad, if_neg (by decide)]
  simp [takeS_zero]
theorem sizedS_all (x more : List UInt8) (hx : x.length ≤ 65536) : sizedS ⟨sizedL x ++ more, 0⟩ = (⟨more, 0⟩, x) := by
  have h : numS ⟨sizedL x ++ more, 0⟩ 4 = (⟨x ++ more, 0⟩, x.length) := by
    rw [sizedL, List.append_assoc]
    have := numS_beL x.length 4 (by omega) (by omega) (x ++ more)
    rw [Nat.mod_eq_of_lt (by omega)] at this
    exact this
  rw [sizedS, h, if_neg (by simp only; omega)]
  simp only
  by_cases h0 : x.length = 0
  · have : x = [] := List.eq_nil_of_length_eq_zero h0
    subst this
    simp [takeS_zero]
  · rw [takeS_all x more x.length (by omega) rfl]
theorem oftenS_all (ls : List (List UInt8)) : ∀ (more : List UInt8) (acc : List (List UInt8)), (∀ x ∈ ls, x.length ≤ 65536) →
    oftenS ls.length ⟨(ls.map sizedL).flatten ++ more, 0⟩ acc = (⟨more, 0⟩, acc ++ ls) := by
  induction ls with
  | nil => intro more acc _; simp [oftenS]
  | cons x ls ih =>
    intro more acc h
    rw [List.length_cons, oftenS, if_pos rfl]
    rw [List.map_cons, List.flatten_cons, List.append_assoc, sizedS_all x _ (h x (by simp))]
    simp only
    rw [ih _ _ (fun y hy => h y (by simp [hy]))]
    simp
theorem headS_all (ls : List (List UInt8)) (more : List UInt8) (most : Nat) (h : ls.length ≤ most) (h2 : ls.length < 65536) : headS ⟨beL 2 ls.length ++ more, 0⟩ (most : Int) = (⟨more, 0⟩, ls.length) := by
  have e : numS ⟨beL 2 ls.length ++ more, 0⟩ 2 = (⟨more, 0⟩, ls.length) := by
    have := numS_beL ls.length 2 (by omega) (by omega) more
    rw [Nat.mod_eq_of_lt (by omega)] at this
    exact this
  rw [headS, e, if_neg (by simp only; omega)]
theorem listS_all (ls : List (List UInt8)) (more : List UInt8) (most : Nat) (h : ls.length ≤ most) (h2 : ls.length < 65536) (hx : ∀ x ∈ ls, x.length ≤ 65536) : listS ⟨listL ls ++ more, 0⟩ (most : Int) = (⟨more, 0⟩, ls) := by
  rw [listS, listL, List.append_assoc, headS_all _ _ _ h h2]
  simp only
  rw [oftenS_all ls more [] hx]
  simp
theorem sizedL_ne (x : List UInt8) : sizedL x ≠ [] := by
  intro h
  have := sizedL_length x
  rw [h] at this
  simp at this
theorem sizedS_cut (x : List UInt8) (hx : x.length ≤ 65536) : (sizedS ⟨(sizedL x).dropLast, 0⟩).1 = ⟨[], 10⟩ := by
  by_cases h0 : x.length = 0
  · have : x = [] := List.eq_nil_of_length_eq_zero h0
    subst this
    rw [sizedS, show numS ⟨(sizedL []).dropLast, 0⟩ 4 = (⟨[], 10⟩, 0) from numS_short _ 4 (by omega) (by omega) (by simp [sizedL_length])]
    rw [if_neg (by decide)]
    simp [takeS_zero]
  · have hne : x ≠ [] := fun e => h0 (by rw [e]; rfl)
    have e1 : (sizedL x).dropLast = beL 4 x.length ++ x.dropLast := by rw [sizedL, List.dropLast_append_of_ne_nil hne]
    have h : numS ⟨(sizedL x).dropLast, 0⟩ 4 = (⟨x.dropLast, 0⟩, x.length) := by
      rw [e1]
      have := numS_beL x.length 4 (by omega) (by omega) x.dropLast
      rw [Nat.mod_eq_of_lt (by omega)] at this
      exact this
    rw [sizedS, h, if_neg (by simp only; omega)]
    simp only
    rw [takeS_short _ _ (by omega) (by simp; omega)]
theorem oftenS_cut (ls : List (List UInt8)) : ∀ (acc : List (List UInt8)), ls ≠ [] → (∀ x ∈ ls, x.length ≤ 65536) →
    (oftenS ls.length ⟨(ls.map sizedL).flatten.dropLast, 0⟩ acc).1 = ⟨[], 10⟩ := by
  induction ls with
  | nil => intro _ h; exact absurd rfl h
  | cons x ls ih =>
    intro acc _ h
    rw [List.length_cons, oftenS, if_pos rfl]
    cases ls with
    | nil =>
      rw [show ([x].map sizedL).flatten.dropLast = (sizedL x).dropLast by simp]
      rw [sizedS_cut x (h x (by simp))]
      rfl
    | cons y ls =>
      have hne : ((y :: ls).map sizedL).flatten ≠ [] := by
        rw [List.map_cons, List.flatten_cons]
        intro e
        exact sizedL_ne y (List.append_eq_nil_iff.1 e).1
      rw [List.map_cons, List.flatten_cons, List.dropLast_append_of_ne_nil hne, sizedS_all x _ (h x (by simp))]
      exact ih _ (by simp) (fun z hz => h z (by simp [hz]))
theorem listS_cut (ls : List (List UInt8)) (most : Nat) (h : ls.length ≤ most) (h2 : ls.length < 65536) (hx : ∀ x ∈ ls, x.length ≤ 65536) : listS ⟨(listL ls).dropLast, 0⟩ (most : Int) = (⟨[], 10⟩, []) := by
  by_cases h0 : ls = []
  · subst h0
    have e : headS ⟨(listL []).dropLast, 0⟩ (most : Int) = (⟨[], 10⟩, 0) := by
      rw [headS, show numS ⟨(listL []).dropLast, 0⟩ 2 = (⟨[], 10⟩, 0) from numS_short _ 2 (by omega) (by omega) (by simp [listL, beL_length])]
      rw [if_neg (by simp)]
    rw [listS, e]
    simp [oftenS]
  · have hne : (ls.map sizedL).flatten ≠ [] := by
      cases ls with
      | nil => exact absurd rfl h0
      | cons y ls =>
        rw [List.map_cons, List.flatten_cons]
        intro e
        exact sizedL_ne y (List.append_eq_nil_iff.1 e).1
    rw [listS, listL, List.dropLast_append_of_ne_nil hne, headS_all _ _ _ h h2]
    simp only
    rw [oftenS_cut ls [] h0 hx]
    simp
theorem listL_ne (ls : List (List UInt8)) : 2 ≤ (listL ls).length := by simp [listL, beL_length]
/-- What is laid, less its last byte. -/
theorem laid_cut (x : Nat) (ls : List (List UInt8)) (n : Nat) (hn : (beL 8 x ++ listL ls).length = n + 1) : (beL 8 x ++ listL ls).take n = beL 8 x ++ (listL ls).dropLast := by
  have h : listL ls ≠ [] := by
    intro e
    have := listL_ne ls
    rw [e] at this
    simp at this
  rw [← List.dropLast_append_of_ne_nil h, List.dropLast_eq_take, hn]
  rfl
end Go.Proofs.Ytcmpiockcndejaa
