/- How a law's arguments are opened: bytes behind a slice, an array of bytes by value, a number. No condition. -/
import Derived.Test.YtihllbhmnkckaaaDoorBase
import Derived.ProofKit
import Derived.OpenShut
import Derived.SizedLaws
import Derived.ChangeSlices
import Derived.ChangeOld
namespace Go.Proofs.YtihllbhmnkckaaaDoor
set_option linter.unusedVariables false
set_option linter.unusedSimpArgs false
open Go.RowKit Go.ChangeShapes Go.WideShapes

theorem list_of_array {α : Type} (a : Array α) : a = a.toList.toArray := by simp
theorem bounds_i64 {z : Int} (h : (Lit.int .i64 z).wf = true) : -9223372036854775808 ≤ z ∧ z ≤ 9223372036854775807 := by
  simp only [Lit.wf, IntKind.min, IntKind.max, IntKind.signed, IntKind.bits, Bool.and_eq_true, decide_eq_true_eq, if_true] at h
  omega
theorem wf_u8_nat {z : Int} (h : (Lit.int .u8 z).wf = true) : ∃ x : UInt8, z = (x.toNat : Int) := by
  have hb := bounds_u8 h
  refine ⟨UInt8.ofNat z.toNat, ?_⟩
  simp
  omega
theorem wf_u32_nat {z : Int} (h : (Lit.int .u32 z).wf = true) : ∃ x : UInt32, z = (x.toNat : Int) := by
  have hb := bounds_u32 h
  refine ⟨UInt32.ofNat z.toNat, ?_⟩
  simp
  omega
theorem wf_u64_nat {z : Int} (h : (Lit.int .u64 z).wf = true) : ∃ x : UInt64, z = (x.toNat : Int) := by
  have hb := bounds_u64 h
  refine ⟨UInt64.ofNat z.toNat, ?_⟩
  simp
  omega
theorem list_u8 : ∀ (zs : List Int), (∀ z ∈ zs, (Lit.int .u8 z).wf = true) → ∃ l : List UInt8, zs = l.map fun x => (x.toNat : Int)
  | [], _ => ⟨[], rfl⟩
  | z :: r, h => by
    obtain ⟨x, hx⟩ := wf_u8_nat (h z (by simp))
    obtain ⟨l, hl⟩ := list_u8 r (fun y hy => h y (by simp [hy]))
    exact ⟨x :: l, by rw [hx, hl]; rfl⟩

section
variable {H : Type} {enc : TypeId × Value → H} {P : Program} {W : World} {b0 : Nat} {sp : Nat → Bool} {held : Bool}
theorem okWide_slice_lt {t e : TypeId} {r : Reach} {base : Nat} {x : Addr} {n c : Nat} (ht : P.underlying t = some (.slice e)) (hv : Value.okWide P W r base t (.slice (some x) n c)) : x.block < W.heap.size := by
  simp only [Value.okWide, ht, Cell.okWide, Cell.ok] at hv
  obtain ⟨_, _, _, _, row, cells, hs, _⟩ := hv
  unfold World.shape? at hs
  rcases Nat.lt_or_ge x.block W.heap.size with h | h
  · exact h
  · rw [Array.getElem?_eq_none h] at hs
    simp at hs
/-- []byte. -/
theorem open_bytes {t e : TypeId} {r : Reach} {base : Nat} {v : Value} {d : DataW H} {p : List MemPlace} (ht : P.underlying t = some (.slice e)) (he : P.underlying e = some (.int .u8)) (hc : P.cellsOf e = 1)
    (hv : Value.okWide P W r base t v) (h : DataW.Trod enc P W b0 sp held t v d p) :
    ∃ A c l, v = .slice A (List.length l) c ∧ RdB W A l ∧ l.length ≤ c ∧ c ≤ 9223372036854775807 ∧ (∀ a, A = some a → a.block < W.heap.size) := by
  obtain ⟨a, len, cap, rfl⟩ := okWide_slice ht hv
  obtain ⟨fuel, hf⟩ := h
  rcases open_ints ht he hc hf with ⟨hcs, _⟩ | ⟨x, l, c, zs, hcs, _, hl, hm, hz, _, hcell, hwz⟩
  · simp [Value.cells] at hcs
    obtain ⟨rfl, rfl, rfl⟩ := hcs
    exact ⟨none, 0, [], rfl, RdB.nil _ _, by simp, by simp, fun a e => by cases e⟩
  · simp [Value.cells] at hcs
    obtain ⟨rfl, rfl, rfl⟩ := hcs
    obtain ⟨l, hl'⟩ := list_u8 (zs.take len) (fun z hzz => hwz z (List.mem_of_mem_take hzz))
    have hlen : len ≤ zs.length := by
      rw [hz]; split
      · exact hl
      · exact Nat.le_refl _
    have hll : l.length = len := by
      have : (zs.take len).length = l.length := by rw [hl']; simp
      rw [List.length_take] at this
      omega
    rcases Nat.eq_zero_or_pos len with h0 | h0
    · obtain rfl : l = [] := List.eq_nil_of_length_eq_zero (by omega)
      subst h0
      by_cases hzl : 0 < zs.length
      · refine ⟨some x, cap, [], rfl, RdB.nil _ _, by simp, by simpa [maxLen] using hm, fun a e => ?_⟩
        cases e
        have := World.block_lt_of_cell? W _ (hcell 0 hzl)
        simpa [Addr.add] using this
      · refine ⟨some x, cap, [], rfl, RdB.nil _ _, by simp, by simpa [maxLen] using hm, fun a e => ?_⟩
        cases e
        exact okWide_slice_lt ht hv
    · have hx : x.spot = none := by
        have := hcell 0 (by omega)
        unfold World.cell? at this
        by_cases hs : x.spot = none
        · exact hs
        · exfalso
          have h1 : ((x.add 0).spot.isSome) = true := by
            simp [Addr.add]
            cases hsp : x.spot with
            | none => exact absurd hsp hs
            | some _ => rfl
          rw [h1] at this
          split at this <;> simp at this
      obtain ⟨bb, oo, ss⟩ := x
      simp at hx
      subst hx
      refine ⟨some ⟨bb, oo, none⟩, cap, l, by rw [hll], fun j hj => ⟨bb, oo, rfl, ?_⟩, by omega, by simpa [maxLen] using hm, fun a e => ?_⟩
      · have := hcell j (by omega)
        rw [add_at] at this
        rw [this]
        congr 2
        have h3 : zs.getD j 0 = (zs.take len).getD j 0 := by
          rw [List.getD_eq_getElem?_getD, List.getD_eq_getElem?_getD, List.getElem?_take, if_pos (by omega)]
        rw [h3, hl', List.getD_eq_getElem?_getD, List.getD_eq_getElem?_getD, List.getElem?_map, List.getElem?_eq_getElem hj]
        rfl
      · cases e
        have := World.block_lt_of_cell? W _ (hcell 0 (by omega))
        simpa [Addr.add] using this
/-- [n]byte, by value. -/
theorem open_barr {t e n : Nat} {r : Reach} {base : Nat} {v : Value} {d : DataW H} {p : List MemPlace} (ht : P.underlying t = some (.array n e)) (he : P.underlying e = some (.int .u8)) (hc : P.cellsOf e = 1) (hct : P.cellsOf t = n)
    (hv : Value.okWide P W r base t v) (h : DataW.Trod enc P W b0 sp held t v d p) : ∃ l : List UInt8, l.length = n ∧ v = .agg (W8 l) := by
  simp only [Value.okWide, ht] at hv
  obtain ⟨cs, rfl, h2, _⟩ := hv
  obtain ⟨fuel, hf⟩ := h
  obtain ⟨xs, m, _, _, _, hxl, hel⟩ := DataW.trod_array ht hf
  have hcs : (Value.agg cs).cells = cs := rfl
  rw [hcs] at hel
  have key : ∀ i, i < n → ∃ x : UInt8, cs.toList[i]? = some (.int .u8 (x.toNat : Int)) := by
    intro i hi
    have := hel i hi
    rw [hc, Nat.mul_one, List.getElem?_eq_getElem (show i < xs.length by omega)] at this
    obtain ⟨z, hz, _, hw⟩ := DataW.trod_int he this
    obtain ⟨x, hx⟩ := wf_u8_nat hw
    refine ⟨x, ?_⟩
    rw [← hx]
    have h3 : (cs.toList.drop i).take 1 = [.int .u8 z] := hz
    have h4 : ((cs.toList.drop i).take 1)[0]? = some (.int .u8 z) := by rw [h3]; rfl
    simpa [List.getElem?_take, List.getElem?_drop] using h4
  refine ⟨cs.toList.map fun v => match v with | .int _ z => UInt8.ofNat z.toNat | _ => 0, by simp [h2, hct], ?_⟩
  rw [W8, List.map_map]
  congr 1
  conv => lhs; rw [list_of_array cs]
  congr 1
  apply List.ext_getElem?
  intro i
  rw [List.getElem?_map]
  by_cases hi : i < n
  · obtain ⟨x, hx⟩ := key i hi
    rw [hx]
    simp
  · rw [List.getElem?_eq_none (by simp [h2, hct]; omega)]
    rfl
end
end Go.Proofs.YtihllbhmnkckaaaDoor
