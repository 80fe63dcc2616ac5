/- Openers of arguments: rows of structs of two whole numbers. No condition. -/
import Derived.Test.YtcmpiockcndejaaOpenAct
import Derived.Deep.SlicePairs
namespace Go.Proofs.Ytcmpiockcndejaa
set_option linter.unusedVariables false
set_option linter.unusedSimpArgs false
open Go.ChangeShapes Go.WideShapes Go.ChangeAt Go.RowKit Go.Deep
section
variable {H : Type} {enc : TypeId × Value → H} {P : Program} {W : World} {b0 : Nat} {sp : Nat → Bool} {held : Bool}
/-- A row of such pairs. -/
def RdP (w : World) (A : Option Addr) (zs : List (Int × Int)) : Prop := ∀ j z, zs[j]? = some z → ∃ b o, A = some ⟨b, o, none⟩ ∧ w.cell? ⟨b, o + j * 2, none⟩ = some (.int .i64 z.1) ∧ w.cell? ⟨b, o + (j * 2 + 1), none⟩ = some (.int .i64 z.2)
theorem open_acts {t e : TypeId} {f0 f1 : Field} {r : Reach} {base : Nat} {v : Value} {d : DataW H} {p : List MemPlace} (ht : P.underlying t = some (.slice e)) (he : P.underlying e = some (.struct #[f0, f1])) (ce : P.cellsOf e = 2) (o0 : f0.offset = 0) (o1 : f1.offset = 1) (c0 : P.cellsOf f0.type = 1) (c1 : P.cellsOf f1.type = 1)
    (h0 : P.underlying f0.type = some (.int .i64)) (h1 : P.underlying f1.type = some (.int .i64)) (hv : Value.okWide P W r base t v) (h : DataW.Trod enc P W b0 sp held t v d p) :
    ∃ A c zs, v = .slice A (List.length zs) c ∧ RdP W A zs ∧ zs.length ≤ c ∧ ∀ z ∈ zs, (-9223372036854775808 ≤ z.1 ∧ z.1 ≤ 9223372036854775807) ∧ (-9223372036854775808 ≤ z.2 ∧ z.2 ≤ 9223372036854775807) := by
  obtain ⟨a, len, cap, rfl⟩ := okWide_slice ht hv
  obtain ⟨fuel, hf⟩ := h
  rcases Go.Deep.open_slice_pairs ht he ce o0 o1 c0 c1 hf with ⟨hcs, _⟩ | ⟨x, l, c, m, n, V0, V1, D0, D1, P0, P1, hcs, _, hl, hm, hmm, _, hrow⟩
  · simp [Value.cells] at hcs
    obtain ⟨rfl, rfl, rfl⟩ := hcs
    exact ⟨none, 0, [], rfl, (fun j z hj => by simp at hj), by simp, by simp⟩
  · simp [Value.cells] at hcs
    obtain ⟨rfl, rfl, rfl⟩ := hcs
    have hlm : len ≤ m := by rw [hmm]; split <;> omega
    have key : ∀ q, q ≤ len → ∃ zs : List (Int × Int), zs.length = q ∧ RdP W (some x) zs ∧ ∀ z ∈ zs, (-9223372036854775808 ≤ z.1 ∧ z.1 ≤ 9223372036854775807) ∧ (-9223372036854775808 ≤ z.2 ∧ z.2 ≤ 9223372036854775807) := by
      intro q
      induction q with
      | zero => intro _; exact ⟨[], rfl, (fun j z hj => by simp at hj), by simp⟩
      | succ q ih =>
        intro hq
        obtain ⟨zs, hzs, hrd, hbd⟩ := ih (by omega)
        obtain ⟨k0, k1, t0, t1⟩ := hrow q (by omega)
        obtain ⟨z0, hz0, _, w0⟩ := DataW.trod_int h0 t0
        obtain ⟨z1, hz1, _, w1⟩ := DataW.trod_int h1 t1
        simp only [List.cons.injEq, and_true] at hz0 hz1
        refine ⟨zs ++ [(z0, z1)], by simp [hzs], fun j z hj => ?_, fun z hz => ?_⟩
        · by_cases hlt : j < zs.length
          · rw [List.getElem?_append_left hlt] at hj
            exact hrd j z hj
          · have hj2 : j = q := by
              have := (List.getElem?_eq_some_iff.1 hj).1
              simp at this
              omega
            subst hj2
            rw [List.getElem?_append_right (by omega), hzs] at hj
            simp at hj
            subst hj
            have hs := spot_none_zero (hrow 0 (by omega)).1
            obtain ⟨bb, oo, ss⟩ := x
            simp at hs
            subst hs
            rw [add_at] at k0 k1
            exact ⟨bb, oo, rfl, by rw [k0, hz0], by rw [k1, hz1]⟩
        · rcases List.mem_append.1 hz with hz | hz
          · exact hbd z hz
          · obtain rfl : z = (z0, z1) := by simpa using hz
            exact ⟨bounds_i64 w0, bounds_i64 w1⟩
    obtain ⟨zs, hzs, hrd, hbd⟩ := key len (Nat.le_refl _)
    exact ⟨some x, cap, zs, by rw [hzs], hrd, by rw [hzs]; exact hl, hbd⟩
/-- .. and how many. -/
theorem len_acts {t e : TypeId} {f0 f1 : Field} {d : DataW H} {p : List MemPlace} {A : Option Addr} {n c : Nat} (ht : P.underlying t = some (.slice e)) (he : P.underlying e = some (.struct #[f0, f1])) (ce : P.cellsOf e = 2) (o0 : f0.offset = 0) (o1 : f1.offset = 1) (c0 : P.cellsOf f0.type = 1) (c1 : P.cellsOf f1.type = 1) (hbo : 0 < P.bytesOf e)
    (h : DataW.Trod enc P W b0 sp held t (.slice A n c) d p) (hw : ∀ el s, d = .slice el s → (el.length + s.length) * P.bytesOf e ≤ reachBytes) : n ≤ 140737488351232 := by
  obtain ⟨fuel, hf⟩ := h
  rcases Go.Deep.open_slice_pairs ht he ce o0 o1 c0 c1 hf with ⟨hcs, _⟩ | ⟨x, l, c', m, n', V0, V1, D0, D1, P0, P1, hcs, _, hl, hm, hmm, hx, hrow⟩
  · simp [Value.cells] at hcs
    omega
  · simp [Value.cells] at hcs
    obtain ⟨rfl, rfl, rfl⟩ := hcs
    have hlm : n ≤ m := by rw [hmm]; split <;> omega
    have h1 := hw _ _ (congrArg Prod.fst hx)
    rw [List.length_map, List.length_map, List.length_range, List.length_range] at h1
    have h2 : n + (m - n) = m := by omega
    rw [h2] at h1
    have h4 : m ≤ m * P.bytesOf e := Nat.le_mul_of_pos_right _ hbo
    unfold reachBytes at h1
    omega
theorem RdP.keep {w w' : World} {A : Option Addr} {zs : List (Int × Int)} (h : RdP w A zs) (hb : Below w.heap.size w w') : RdP w' A zs := by
  intro j z hj
  obtain ⟨b, o, e, h0, h1⟩ := h j z hj
  exact ⟨b, o, e, (grown_of_below hb).cell h0 (fun er => by cases er), (grown_of_below hb).cell h1 (fun er => by cases er)⟩
end
end Go.Proofs.Ytcmpiockcndejaa
