/- Openers of arguments: an array of two byte slices. No condition. -/
import Derived.Test.YtdheopihcohciaaOpenGen
namespace Go.Proofs.Ytdheopihcohciaa
set_option linter.unusedVariables false
set_option linter.unusedSimpArgs false
open Go.ChangeShapes Go.WideShapes Go.ChangeAt Go.RowKit Go.Deep
section
variable {H : Type} {enc : TypeId × Value → H} {P : Program} {W : World} {b0 : Nat} {sp : Nat → Bool} {held : Bool}
theorem open_bytes2 {t e q : TypeId} {r : Reach} {base : Nat} {v : Value} {d : DataW H} {p : List MemPlace} (ht : P.underlying t = some (.array 2 e)) (he : P.underlying e = some (.slice q)) (hq : P.underlying q = some (.int .u8)) (hc : P.cellsOf q = 1) (hce : P.cellsOf e = 1) (hct : P.cellsOf t = 2)
    (hts : P.cellTypes P.depth t = some [e] ∨ P.cellTypes P.depth t = some [e, e])
    (hv : Value.okWide P W r base t v) (h : DataW.Trod enc P W b0 sp held t v d p) :
    ∃ A c l A' c' l', v = .agg #[.slice A (List.length l) c, .slice A' (List.length l') c'] ∧ (RdB W A l ∧ l.length ≤ c ∧ c ≤ 9223372036854775807 ∧ (∀ a, A = some a → a.block < W.heap.size)) ∧ (RdB W A' l' ∧ l'.length ≤ c' ∧ c' ≤ 9223372036854775807 ∧ (∀ a, A' = some a → a.block < W.heap.size)) := by
  simp only [Value.okWide, ht] at hv
  obtain ⟨cs, rfl, h2, ts, hts', _, hcell⟩ := hv
  rw [hct] at h2
  obtain ⟨c0, c1, rfl⟩ : ∃ c0 c1, cs = #[c0, c1] := by
    obtain ⟨l⟩ := cs
    rcases l with _ | ⟨a, _ | ⟨b, _ | ⟨c, l⟩⟩⟩ <;> simp at h2
    exact ⟨a, b, rfl⟩
  have key : ∀ (i : Nat) (v : Value), (#[c0, c1] : Array Value)[i]? = some v → Value.okWide P W r base e v := by
    intro i v hi
    obtain ⟨u, hu, hk⟩ := hcell i v hi
    have hi2 : i < 2 := by have := (Array.getElem?_eq_some_iff.1 hi).1; simpa using this
    have : u = e := by
      rcases hts with h | h <;> rw [h] at hts' <;> cases hts'
      · have : i % [e].length = 0 := Nat.mod_one i
        rw [this] at hu
        simpa using hu.symm
      · have : i % [e, e].length = i := Nat.mod_eq_of_lt hi2
        rw [this] at hu
        rcases i with _ | _ | i
        · simpa using hu.symm
        · simpa using hu.symm
        · omega
    subst this
    simp only [Value.okWide, he]
    exact hk
  obtain ⟨fuel, hf⟩ := h
  obtain ⟨xs, m, _, _, _, hxl, hel⟩ := DataW.trod_array ht hf
  have e0 := hel 0 (by omega)
  have e1 := hel 1 (by omega)
  rw [hce] at e0 e1
  obtain ⟨⟨d0, p0⟩, hd0⟩ : ∃ x, xs[0]? = some x := ⟨_, List.getElem?_eq_getElem (by omega)⟩
  obtain ⟨⟨d1, p1⟩, hd1⟩ : ∃ x, xs[1]? = some x := ⟨_, List.getElem?_eq_getElem (by omega)⟩
  rw [hd0] at e0
  rw [hd1] at e1
  have k0 := key 0 c0 rfl
  have k1 := key 1 c1 rfl
  obtain ⟨a0, n0, q0, rfl⟩ := okWide_slice he k0
  obtain ⟨a1, n1, q1, rfl⟩ := okWide_slice he k1
  obtain ⟨A, c, l, hv0, h0⟩ := open_bytes he hq hc k0 ⟨m, e0⟩
  obtain ⟨A', c', l', hv1, h1⟩ := open_bytes he hq hc k1 ⟨m, e1⟩
  exact ⟨A, c, l, A', c', l', by rw [hv0, hv1], h0, h1⟩
end
end Go.Proofs.Ytdheopihcohciaa
