/- Openers of arguments: rows of integers. No condition. -/
import Derived.Test.YtmdalhndmmobdaaOpen
import Derived.Test.YtmdalhndmmobdaaGen
namespace Go.Proofs.Ytmdalhndmmobdaa
set_option linter.unusedVariables false
set_option linter.unusedSimpArgs false
open Go.ChangeShapes Go.WideShapes Go.ChangeAt Go.RowKit
section
variable {H : Type} {enc : TypeId × Value → H} {P : Program} {W : World} {b0 : Nat} {sp : Nat → Bool} {held : Bool}
/-- []int and the like. -/
theorem open_islice {t e : TypeId} {k : IntKind} {r : Reach} {base : Nat} {v : Value} {d : DataW H} {p : List MemPlace} (ht : P.underlying t = some (.slice e)) (he : P.underlying e = some (.int k)) (hc : P.cellsOf e = 1)
    (hv : Value.okWide P W r base t v) (h : DataW.Trod enc P W b0 sp held t v d p) :
    ∃ A c zs, v = .slice A (List.length zs) c ∧ RdV W A (zs.map (Value.int k)) ∧ zs.length ≤ c ∧ c ≤ 9223372036854775807 ∧ (∀ a, A = some a → a.block < W.heap.size) ∧ (∀ z ∈ zs, (Lit.int k z).wf = true) := by
  obtain ⟨a, len, cap, rfl⟩ := okWide_slice ht hv
  obtain ⟨fuel, hf⟩ := h
  rcases open_ints ht he hc hf with ⟨hcs, _⟩ | ⟨x, l, c, zs, hcs, _, hl, hm, hz, _, hcell, hwz⟩
  · simp [Value.cells] at hcs
    obtain ⟨rfl, rfl, rfl⟩ := hcs
    exact ⟨none, 0, [], rfl, RdV.nil _ _, by simp, by simp, (fun a e => by cases e), (fun z hz => by cases hz)⟩
  · simp [Value.cells] at hcs
    obtain ⟨rfl, rfl, rfl⟩ := hcs
    have hlen : len ≤ zs.length := by
      rw [hz]; split
      · exact hl
      · exact Nat.le_refl _
    have hll : (zs.take len).length = len := by rw [List.length_take]; omega
    refine ⟨some x, cap, zs.take len, by rw [hll], ?_, by omega, by simpa [maxLen] using hm, fun a e => ?_, fun z hzz => hwz z (List.mem_of_mem_take hzz)⟩
    · intro j u hj
      have h1 : j < (zs.take len).length := by
        have := (List.getElem?_eq_some_iff.1 hj).1
        simpa using this
      have hx : x.spot = none := by
        have := hcell 0 (by omega)
        unfold World.cell? at this
        by_cases hs : x.spot = none
        · exact hs
        · exfalso
          have h1 : ((x.add 0).spot.isSome) = true := by
            simp [Addr.add]
            cases hsp : x.spot with
            | none => exact absurd hsp hs
            | some _ => rfl
          rw [h1] at this
          split at this <;> simp at this
      obtain ⟨bb, oo, ss⟩ := x
      simp at hx
      subst hx
      refine ⟨bb, oo, rfl, ?_⟩
      have := hcell j (by omega)
      rw [add_at] at this
      rw [this, ← hj, List.getElem?_map, List.getElem?_take, if_pos (by omega), List.getElem?_eq_getElem (by omega), List.getD_eq_getElem?_getD, List.getElem?_eq_getElem (by omega)]
      rfl
    · cases e
      exact okWide_slice_lt ht hv
end
end Go.Proofs.Ytmdalhndmmobdaa
