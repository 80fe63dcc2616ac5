/- Openers of arguments: rows of integers. No condition. -/
import Derived.Test.YtihllbhmnkckaaaDoorOpen
import Derived.Test.YtihllbhmnkckaaaDoorGen
import Derived.Test.YtihllbhmnkckaaaDoorOps
import Derived.Deep.Matrix
namespace Go.Proofs.YtihllbhmnkckaaaDoor
set_option linter.unusedVariables false
set_option linter.unusedSimpArgs false
open Go.ChangeShapes Go.WideShapes Go.ChangeAt Go.RowKit
section
variable {H : Type} {enc : TypeId × Value → H} {P : Program} {W : World} {b0 : Nat} {sp : Nat → Bool} {held : Bool}
/-- []int and the like. -/
theorem open_islice {t e : TypeId} {k : IntKind} {r : Reach} {base : Nat} {v : Value} {d : DataW H} {p : List MemPlace} (ht : P.underlying t = some (.slice e)) (he : P.underlying e = some (.int k)) (hc : P.cellsOf e = 1)
    (hv : Value.okWide P W r base t v) (h : DataW.Trod enc P W b0 sp held t v d p) :
    ∃ A c zs, v = .slice A (List.length zs) c ∧ RdV W A (zs.map (Value.int k)) ∧ zs.length ≤ c ∧ c ≤ 9223372036854775807 ∧ (∀ a, A = some a → a.block < W.heap.size) ∧ (∀ z ∈ zs, (Lit.int k z).wf = true) := by
  obtain ⟨a, len, cap, rfl⟩ := okWide_slice ht hv
  obtain ⟨fuel, hf⟩ := h
  rcases open_ints ht he hc hf with ⟨hcs, _⟩ | ⟨x, l, c, zs, hcs, _, hl, hm, hz, _, hcell, hwz⟩
  · simp [Value.cells] at hcs
    obtain ⟨rfl, rfl, rfl⟩ := hcs
    exact ⟨none, 0, [], rfl, RdV.nil _ _, by simp, by simp, (fun a e => by cases e), (fun z hz => by cases hz)⟩
  · simp [Value.cells] at hcs
    obtain ⟨rfl, rfl, rfl⟩ := hcs
    have hlen : len ≤ zs.length := by
      rw [hz]; split
      · exact hl
      · exact Nat.le_refl _
    have hll : (zs.take len).length = len := by rw [List.length_take]; omega
    refine ⟨some x, cap, zs.take len, by rw [hll], ?_, by omega, by simpa [maxLen] using hm, fun a e => ?_, fun z hzz => hwz z (List.mem_of_mem_take hzz)⟩
    · intro j u hj
      have h1 : j < (zs.take len).length := by
        have := (List.getElem?_eq_some_iff.1 hj).1
        simpa using this
      have hx : x.spot = none := by
        have := hcell 0 (by omega)
        unfold World.cell? at this
        by_cases hs : x.spot = none
        · exact hs
        · exfalso
          have h1 : ((x.add 0).spot.isSome) = true := by
            simp [Addr.add]
            cases hsp : x.spot with
            | none => exact absurd hsp hs
            | some _ => rfl
          rw [h1] at this
          split at this <;> simp at this
      obtain ⟨bb, oo, ss⟩ := x
      simp at hx
      subst hx
      refine ⟨bb, oo, rfl, ?_⟩
      have := hcell j (by omega)
      rw [add_at] at this
      rw [this, ← hj, List.getElem?_map, List.getElem?_take, if_pos (by omega), List.getElem?_eq_getElem (by omega), List.getD_eq_getElem?_getD, List.getElem?_eq_getElem (by omega)]
      rfl
    · cases e
      exact okWide_slice_lt ht hv
theorem spot_none {w : World} {a : Addr} {v : Value} (h : w.cell? a = some v) : a.spot = none := by
  unfold World.cell? at h
  cases hs : a.spot with
  | none => rfl
  | some x =>
    exfalso
    have h1 : (a.spot.isSome) = true := by rw [hs]; rfl
    rw [h1] at h
    split at h <;> simp at h
theorem spot_none_zero {w : World} {a : Addr} {v : Value} (h : w.cell? (a.add 0) = some v) : a.spot = none := by
  have h1 : a.add 0 = a := by unfold Addr.add; simp
  rw [h1] at h
  exact spot_none h
/-- [][]byte. -/
theorem open_bytess {t e q : TypeId} {r : Reach} {base : Nat} {v : Value} {d : DataW H} {p : List MemPlace} (ht : P.underlying t = some (.slice e)) (he : P.underlying e = some (.slice q)) (hq : P.underlying q = some (.int .u8)) (ce : P.cellsOf e = 1) (cq : P.cellsOf q = 1)
    (hv : Value.okWide P W r base t v) (h : DataW.Trod enc P W b0 (fun _ => true) held t v d p) :
    ∃ A c vs ls, v = .slice A (List.length vs) c ∧ RdV W A vs ∧ vs.length ≤ c ∧ c ≤ 9223372036854775807 ∧ All2 (SlB W) vs ls ∧ ls.length = vs.length ∧ ∀ l ∈ ls, l.length ≤ 9223372036854775807 := by
  obtain ⟨a, len, cap, rfl⟩ := okWide_slice ht hv
  obtain ⟨fuel, hf⟩ := h
  rcases Go.Deep.open_int_rows ht he hq ce cq hf with ⟨hcs, _⟩ | ⟨x, l, c, A, L, C, Z, hcs, _, hl, hm, _, hrow⟩
  · simp [Value.cells] at hcs
    obtain ⟨rfl, rfl, rfl⟩ := hcs
    exact ⟨none, 0, [], [], rfl, RdV.nil _ _, by simp, by simp, .nil, rfl, by simp⟩
  · simp [Value.cells] at hcs
    obtain ⟨rfl, rfl, rfl⟩ := hcs
    have key : ∀ m, m ≤ len → ∃ ls : List (List UInt8), ls.length = m ∧ All2 (SlB W) ((List.range m).map fun r => Value.slice (A r) (L r) (C r)) ls ∧ ∀ l ∈ ls, l.length ≤ 9223372036854775807 := by
      intro m
      induction m with
      | zero => intro _; exact ⟨[], rfl, .nil, by simp⟩
      | succ m ih =>
        intro hm'
        obtain ⟨ls, hls, hall, hmx⟩ := ih (by omega)
        obtain ⟨hcell, hLC, hCm, hZl, hwf, hnone, hsome⟩ := hrow m (by omega)
        obtain ⟨bs, hbs⟩ := list_u8 ((Z m).take (L m)) (fun z hz => hwf z (List.mem_of_mem_take hz))
        have hbl : bs.length = L m := by
          have : ((Z m).take (L m)).length = bs.length := by rw [hbs]; simp
          rw [List.length_take] at this
          omega
        refine ⟨ls ++ [bs], by simp [hls], ?_, fun l hl => ?_⟩
        rotate_left
        · rcases List.mem_append.1 hl with h | h
          · exact hmx l h
          · obtain rfl : l = bs := by simpa using h
            have : maxLen = 9223372036854775807 := rfl
            omega
        rw [List.range_succ, List.map_append]
        refine hall.snoc ⟨A m, C m, by rw [hbl], by omega, fun j hj => ?_⟩
        rcases hA : A m with _ | a'
        · have := hnone hA; omega
        · obtain ⟨_, hc⟩ := hsome a' hA
          have h1 := hc j (by omega)
          have hs := spot_none_zero (hc 0 (by omega))
          obtain ⟨bb, oo, ss⟩ := a'
          simp at hs
          subst hs
          refine ⟨bb, oo, rfl, ?_⟩
          rw [add_at] at h1
          rw [h1]
          congr 2
          have h3 : (Z m).getD j 0 = ((Z m).take (L m)).getD j 0 := by
            rw [List.getD_eq_getElem?_getD, List.getD_eq_getElem?_getD, List.getElem?_take, if_pos (by omega)]
          rw [h3, hbs, List.getD_eq_getElem?_getD, List.getD_eq_getElem?_getD, List.getElem?_map, List.getElem?_eq_getElem hj]
          rfl
    obtain ⟨ls, hls, hall, hmx⟩ := key len (Nat.le_refl _)
    refine ⟨some x, cap, (List.range len).map fun r => Value.slice (A r) (L r) (C r), ls, by simp, ?_, by simpa using hl, by simpa [maxLen] using hm, hall, by simp [hls], hmx⟩
    intro j v hj
    have hjl : j < len := by
      have := (List.getElem?_eq_some_iff.1 hj).1
      simpa using this
    obtain ⟨hcell, _⟩ := hrow j (by omega)
    have hs := spot_none_zero (hrow 0 (by omega)).1
    obtain ⟨bb, oo, ss⟩ := x
    simp at hs
    subst hs
    rw [List.getElem?_map, List.getElem?_range hjl] at hj
    simp at hj
    subst hj
    refine ⟨bb, oo, rfl, ?_⟩
    rw [add_at] at hcell
    exact hcell
theorem lits_length {k : IntKind} (zs : List Int) : (lits (H := H) k zs).length = zs.length := by simp [lits]
/-- How long a text that came in is at most. -/
theorem len_bytes {t e : TypeId} {k : IntKind} {d : DataW H} {p : List MemPlace} {A : Option Addr} {n c : Nat} (ht : P.underlying t = some (.slice e)) (he : P.underlying e = some (.int k)) (hc : P.cellsOf e = 1) (hbo : 0 < P.bytesOf e)
    (h : DataW.Trod enc P W b0 sp held t (.slice A n c) d p) (hw : ∀ el s, d = .slice el s → (el.length + s.length) * P.bytesOf e ≤ reachBytes) : n ≤ 140737488351232 := by
  obtain ⟨fuel, hf⟩ := h
  rcases open_ints ht he hc hf with ⟨hcs, _⟩ | ⟨x, l, c, zs, hcs, _, hl, hm, hz, hx, _, _⟩
  · simp [Value.cells] at hcs
    omega
  · simp [Value.cells] at hcs
    obtain ⟨rfl, rfl, rfl⟩ := hcs
    have h1 := hw _ _ (congrArg Prod.fst hx)
    rw [lits_length, lits_length] at h1
    have h2 : (List.take n zs).length + (List.drop n zs).length = zs.length := by simp; omega
    have h3 : n ≤ zs.length := by
      rw [hz]; split
      · exact hl
      · exact Nat.le_refl _
    rw [h2] at h1
    have h4 : zs.length ≤ zs.length * P.bytesOf e := Nat.le_mul_of_pos_right _ hbo
    unfold reachBytes at h1
    omega
/-- .. and how many texts. -/
theorem len_bytess {t e q : TypeId} {d : DataW H} {p : List MemPlace} {A : Option Addr} {n c : Nat} (ht : P.underlying t = some (.slice e)) (he : P.underlying e = some (.slice q)) (hq : P.underlying q = some (.int .u8)) (ce : P.cellsOf e = 1) (cq : P.cellsOf q = 1) (hbo : 0 < P.bytesOf e)
    (h : DataW.Trod enc P W b0 (fun _ => true) held t (.slice A n c) d p) (hw : ∀ el s, d = .slice el s → (el.length + s.length) * P.bytesOf e ≤ reachBytes) : n ≤ 140737488351232 := by
  obtain ⟨fuel, hf⟩ := h
  rcases Go.Deep.open_int_rows ht he hq ce cq hf with ⟨hcs, _⟩ | ⟨x, l, c, A', L, C, Z, hcs, _, hl, hm, hx, _⟩
  · simp [Value.cells] at hcs
    omega
  · simp [Value.cells] at hcs
    obtain ⟨rfl, rfl, rfl⟩ := hcs
    have h1 := hw _ _ (congrArg Prod.fst hx)
    rw [List.length_map, List.length_map, List.length_range, List.length_range] at h1
    have h2 : n + (c - n) = c := by omega
    rw [h2] at h1
    have h4 : c ≤ c * P.bytesOf e := Nat.le_mul_of_pos_right _ hbo
    unfold reachBytes at h1
    omega
end
end Go.Proofs.YtihllbhmnkckaaaDoor
