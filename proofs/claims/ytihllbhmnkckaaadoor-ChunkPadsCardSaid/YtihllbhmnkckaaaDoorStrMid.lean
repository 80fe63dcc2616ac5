/- A slice of a text. No condition but those each theorem states. -/
import Derived.Test.YtihllbhmnkckaaaDoorCuts
namespace Go.Proofs.YtihllbhmnkckaaaDoor
set_option linter.unusedVariables false
set_option linter.unusedSimpArgs false
open Go.RowKit

theorem strB_extract (l : List UInt8) (i j : Nat) : (strB l).extract i j = strB ((l.drop i).take (j - i)) := by
  apply ByteArray.ext
  rw [ByteArray.data_extract]
  simp [strB, List.extract_eq_take_drop]
theorem run_str_mid {P : Program} {o : Oper} {a : Act} (t : TypeId) (x y z : Operand) (ho : o.op = .slice t x (some y) (some z) none) (hu : P.underlying t = some .string) (l : List UInt8) (i j : Nat) (hij : i ≤ j) (hj : j ≤ l.length)
    (hx : a.eval x = .string (strB l)) (k k' : IntKind) (zi zj : Int) (hzi : zi = (i : Int)) (hzj : zj = (j : Int)) (hy : a.eval y = .int k zi) (hz : a.eval z = .int k' zj) (W : World) : (execOp a.eval o).run P W = .ok (.value (.string (strB ((l.drop i).take (j - i))))) W := by
  subst hzi hzj
  have h := run_slice_string (P := P) W t (strB l) k k' (i : Int) (j : Int) hu (by omega) (by omega) (by rw [strB_size]; omega)
  have h2 := run_sliceAt_string (P := P) (w := W) t (.string (strB l)) (some (.int k (i : Int))) (some (.int k' (j : Int))) none hu
  unfold execOp
  simp only [ho, hx, hy, hz, Option.map_some, Option.map_none, Sem.run_bind, Sem.run_pure, h2, h, Result.andThen_ok, Int.toNat_natCast, strB_extract]
theorem run_str_to {P : Program} {o : Oper} {a : Act} (t : TypeId) (x z : Operand) (ho : o.op = .slice t x none (some z) none) (hu : P.underlying t = some .string) (l : List UInt8) (j : Nat) (hj : j ≤ l.length)
    (hx : a.eval x = .string (strB l)) (hz : a.eval z = .int .i64 (j : Int)) (W : World) : (execOp a.eval o).run P W = .ok (.value (.string (strB (l.take j)))) W := by
  have h := run_slice_string_h (P := P) W t (strB l) hu .i64 (j : Int) (by omega) (by rw [strB_size]; omega)
  have h2 := run_sliceAt_string (P := P) (w := W) t (.string (strB l)) none (some (.int .i64 (j : Int))) none hu
  unfold execOp
  simp only [ho, hx, hz, Option.map_some, Option.map_none, Sem.run_bind, Sem.run_pure, h2, h, Result.andThen_ok, Int.toNat_natCast, strB_extract, List.drop_zero, Nat.sub_zero]
theorem run_str_from {P : Program} {o : Oper} {a : Act} (t : TypeId) (x z : Operand) (ho : o.op = .slice t x (some z) none none) (hu : P.underlying t = some .string) (l : List UInt8) (j : Nat) (hj : j ≤ l.length)
    (hx : a.eval x = .string (strB l)) (hz : a.eval z = .int .i64 (j : Int)) (W : World) : (execOp a.eval o).run P W = .ok (.value (.string (strB (l.drop j)))) W := by
  have h := run_slice_string_l (P := P) W t (strB l) hu .i64 (j : Int) (by omega) (by rw [strB_size]; omega)
  have h2 := run_sliceAt_string (P := P) (w := W) t (.string (strB l)) (some (.int .i64 (j : Int))) none none hu
  unfold execOp
  simp only [ho, hx, hz, Option.map_some, Option.map_none, Sem.run_bind, Sem.run_pure, h2, h, Result.andThen_ok, Int.toNat_natCast, strB_extract, strB_size]
  rw [List.take_of_length_le (by rw [List.length_drop]; exact Nat.le_refl _)]
end Go.Proofs.YtihllbhmnkckaaaDoor
