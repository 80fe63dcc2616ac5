/- Openers of arguments: a struct of two whole numbers. No condition. -/
import Derived.Test.YtcmpiockcndejaaOpenGen
import Derived.Lib.SmallJoins
namespace Go.Proofs.Ytcmpiockcndejaa
set_option linter.unusedVariables false
set_option linter.unusedSimpArgs false
open Go.ChangeShapes Go.WideShapes Go.ChangeAt Go.RowKit Go.Deep
section
variable {H : Type} {enc : TypeId × Value → H} {P : Program} {W : World} {b0 : Nat} {sp : Nat → Bool} {held : Bool}
theorem open_act {t : TypeId} {f0 f1 : Field} {r : Reach} {base : Nat} {v : Value} {d : DataW H} {p : List MemPlace} (hs : P.underlying t = some (.struct #[f0, f1])) (hone : oneCellFields P #[f0, f1] = true) (hC : P.cellsOf t = 2) (h0 : P.underlying f0.type = some (.int .i64)) (h1 : P.underlying f1.type = some (.int .i64))
    (hv : Value.okWide P W r base t v) (h : DataW.Trod enc P W b0 sp held t v d p) :
    ∃ a b : Int, v = .agg #[.int .i64 a, .int .i64 b] ∧ (-9223372036854775808 ≤ a ∧ a ≤ 9223372036854775807) ∧ (-9223372036854775808 ≤ b ∧ b ≤ 9223372036854775807) := by
  obtain ⟨v0, v1, y0, y1, n, rfl, _, _, e0, e1⟩ := Joins.open_agg2 hs hone hC hv h
  obtain ⟨z0, hz0, _, w0⟩ := DataW.trod_int h0 e0
  obtain ⟨z1, hz1, _, w1⟩ := DataW.trod_int h1 e1
  simp only [List.cons.injEq, and_true] at hz0 hz1
  subst hz0 hz1
  exact ⟨z0, z1, rfl, bounds_i64 w0, bounds_i64 w1⟩
end
end Go.Proofs.Ytcmpiockcndejaa
