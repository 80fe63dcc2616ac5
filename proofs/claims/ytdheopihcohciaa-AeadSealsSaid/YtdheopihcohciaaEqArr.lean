/- Two arrays of bytes are told to be the same just if they are. No condition. -/
import Derived.Test.YtdheopihcohciaaBase
import Derived.DeepKeys
import Derived.ChangeKeysEq
namespace Go.Proofs.Ytdheopihcohciaa
set_option linter.unusedVariables false
set_option linter.unusedSimpArgs false
open Go.RowKit

theorem eqItems8 {P : Program} (w : World) (e : TypeId) (he : P.underlying e = some (.int .u8)) (dd : Nat) (xs ys : List UInt8) : ∀ (is : List Nat), (∀ i ∈ is, i < xs.length ∧ i < ys.length) →
    (Op.eqItems (dd + 1) e 1 (W8 xs) (W8 ys) is).run P w = .ok (is.all fun i => xs.getD i 0 == ys.getD i 0) w
  | [], _ => by simp [Op.eqItems]
  | i :: is, h => by
    have hk : P.plainKey e = true := by simp [Program.plainKey, he]
    obtain ⟨h1, h2⟩ := h i (by simp)
    have ih := eqItems8 w e he dd xs ys is (fun j hj => h j (by simp [hj]))
    have p1 := run_part_plain (P := P) (w := w) hk (xs := W8 xs) (off := i * 1) (v := .int .u8 ((xs.getD i 0).toNat : Int)) (by rw [Nat.mul_one]; exact W8_get xs i h1)
    have p2 := run_part_plain (P := P) (w := w) hk (xs := W8 ys) (off := i * 1) (v := .int .u8 ((ys.getD i 0).toNat : Int)) (by rw [Nat.mul_one]; exact W8_get ys i h2)
    simp only [Op.eqItems, Sem.run_bind, p1, p2, Result.andThen_ok, run_equalIn_int w dd e .u8 .u8 _ _ he, List.all_cons]
    have e1 : (((xs.getD i 0).toNat : Int) == ((ys.getD i 0).toNat : Int)) = (xs.getD i 0 == ys.getD i 0) := by
      by_cases hq : xs.getD i 0 = ys.getD i 0
      · rw [hq]; simp
      · have : (xs.getD i 0).toNat ≠ (ys.getD i 0).toNat := fun h => hq (UInt8.toNat_inj.1 h)
        rw [beq_eq_false_iff_ne.2 hq, beq_eq_false_iff_ne.2 (by omega)]
    rw [e1]
    cases hb : (xs.getD i 0 == ys.getD i 0)
    · simp
    · simp [ih]
theorem eq_arr {P : Program} (w : World) (t e : TypeId) (n : Nat) (ht : P.underlying t = some (.array n e)) (he : P.underlying e = some (.int .u8)) (hc : (P.info? e).map (·.size) = some 1) (xs ys : List UInt8) (hx : xs.length = n) (hy : ys.length = n) :
    (Op.equalIn 10000 t (.agg (W8 xs)) (.agg (W8 ys))).run P w = .ok (decide (xs = ys)) w := by
  cases hi : P.info? e with
  | none => simp [hi] at hc
  | some i =>
    have hcs : P.cellsOf e = 1 := by
      simp only [hi, Option.map_some, Option.some.injEq] at hc
      simp [Program.cellsOf, hi, hc]
    have h := run_equalIn_array w 9999 (W8 xs) (W8 ys) ht hi
    rw [show (10000 : Nat) = 9999 + 1 from rfl, h]
    rw [hcs, eqItems8 w e he 9998 xs ys (List.range n) (fun j hj => by simp at hj; omega)]
    congr 1
    by_cases hq : xs = ys
    · subst hq; simp
    · rw [decide_eq_false hq]
      apply Bool.eq_false_iff.2
      intro hall
      apply hq
      rw [List.all_eq_true] at hall
      apply List.ext_getElem (by omega)
      intro j h1 h2
      have := hall j (by simp; omega)
      simpa [List.getD_eq_getElem?_getD, h1, h2] using this
theorem run_eq_arr {P : Program} {o : Oper} {a : Act} (t t2 : TypeId) (x y : Operand) (ho : o.op = .binOp .eql t x y t2) (e : TypeId) (n : Nat) (ht : P.underlying t = some (.array n e)) (he : P.underlying e = some (.int .u8)) (hc : (P.info? e).map (·.size) = some 1) (hm : P.eqGuardType P.depth t = false) (xs ys : List UInt8)
    (hxs : xs.length = n) (hys : ys.length = n) (hx : a.eval x = .agg (W8 xs)) (hy : a.eval y = .agg (W8 ys)) (W : World) : (execOp a.eval o).run P W = .ok (.value (.bool (decide (xs = ys)))) W := by
  unfold execOp
  simp only [ho, hx, hy, Sem.run_bind, Sem.run_pure, run_eql_struct, run_eqGuard_agg (w := W) _ t x y _ _ hm, eq_arr W t e n ht he hc xs ys hxs hys, Result.andThen_ok]
theorem run_eq_arr_true {P : Program} {o : Oper} {a : Act} (t t2 : TypeId) (x y : Operand) (ho : o.op = .binOp .eql t x y t2) (e : TypeId) (n : Nat) (ht : P.underlying t = some (.array n e)) (he : P.underlying e = some (.int .u8)) (hc : (P.info? e).map (·.size) = some 1) (hm : P.eqGuardType P.depth t = false) (xs ys : List UInt8)
    (hxs : xs.length = n) (hxy : xs = ys) (hx : a.eval x = .agg (W8 xs)) (hy : a.eval y = .agg (W8 ys)) (W : World) : (execOp a.eval o).run P W = .ok (.value (.bool true)) W := by
  have h := run_eq_arr t t2 x y ho e n ht he hc hm xs ys hxs (hxy ▸ hxs) hx hy W
  rw [decide_eq_true hxy] at h
  exact h
theorem run_neq_arr_false {P : Program} {o : Oper} {a : Act} (t t2 : TypeId) (x y : Operand) (ho : o.op = .binOp .neq t x y t2) (e : TypeId) (n : Nat) (ht : P.underlying t = some (.array n e)) (he : P.underlying e = some (.int .u8)) (hc : (P.info? e).map (·.size) = some 1) (hm : P.eqGuardType P.depth t = false) (xs ys : List UInt8)
    (hxs : xs.length = n) (hxy : xs = ys) (hx : a.eval x = .agg (W8 xs)) (hy : a.eval y = .agg (W8 ys)) (W : World) : (execOp a.eval o).run P W = .ok (.value (.bool false)) W := by
  unfold execOp
  simp only [ho, hx, hy, Sem.run_bind, Sem.run_pure, run_neq_struct, run_eqGuard_agg (w := W) _ t x y _ _ hm, eq_arr W t e n ht he hc xs ys hxs (hxy ▸ hxs), Result.andThen_ok, decide_eq_true hxy]
  rfl
end Go.Proofs.Ytdheopihcohciaa
