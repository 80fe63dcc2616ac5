/- Rows of bytes cut, and text of bytes, as single operations. No condition. -/
import Derived.Test.YtihllbhmnkckaaaDoorBase
namespace Go.Proofs.YtihllbhmnkckaaaDoor
set_option linter.unusedVariables false
set_option linter.unusedSimpArgs false
open Go.RowKit
set_option linter.unusedSimpArgs false

/-- 'xs[:m]'. -/
theorem cut_to {P : Program} (t e : TypeId) {i : TypeInfo} (ht : P.underlying t = some (.slice e)) (hi : P.info? e = some i) (hsz : i.size = 1) (A : Option Addr) (n c m : Nat) (hm : m ≤ c) (W : World) :
    (Instr.slice t (.slice A n c) none (some (.int .i64 (m : Int))) none).run P W = .ok (.slice A m c) W := by
  have hel : P.elem t = e := by simp [Program.elem, ht]
  have hu : P.underlying t = some (.slice (P.elem t)) := by rw [hel]; exact ht
  rw [run_slice_h W t A n c hu .i64 (m : Int) (Int.natCast_nonneg _) (by omega), hel]
  simp only [sizeOf, typeInfo, hi, hsz, sliced, Result.andThen]
  rcases A with _ | ⟨b, o, sp⟩
  · simp [Sem.run_pure, hi, hsz, Result.andThen]
  · simp [Sem.run_pure, hi, hsz, Result.andThen, Addr.add]
    try (cases sp <;> simp)
theorem run_cut_to {P : Program} {o : Oper} {a : Act} (ty : TypeId) (x h : Operand) (ho : o.op = .slice ty x none (some h) none) (e : TypeId) {i : TypeInfo} (ht : P.underlying ty = some (.slice e)) (hi : P.info? e = some i) (hsz : i.size = 1)
    (A : Option Addr) (n c m : Nat) (hx : a.eval x = .slice A n c) (hh : a.eval h = .int .i64 (m : Int)) (hm : m ≤ c) (W : World) : (execOp a.eval o).run P W = .ok (.value (.slice A m c)) W := by
  unfold execOp
  simp only [ho, hx, Option.map_some, Option.map_none, hh, Instr.sliceAt, Sem.run_bind, Sem.run_pure, run_underlying ht, Result.andThen_ok, cut_to ty e ht hi hsz A n c m hm W, Result.andThen_ok]
/-- 'xs[m:h]'. -/
theorem cut_mid {P : Program} (t e : TypeId) {i : TypeInfo} (ht : P.underlying t = some (.slice e)) (hi : P.info? e = some i) (hsz : i.size = 1) (A : Option Addr) (n c m h : Nat) (hm : m ≤ h) (hh : h ≤ n) (hc : n ≤ c) :
    ∃ A' : Option Addr, (∀ W : World, (Instr.slice t (.slice A n c) (some (.int .i64 (m : Int))) (some (.int .i64 (h : Int))) none).run P W = .ok (.slice A' (h - m) (c - m)) W) ∧
      (∀ (w : World) (l : List UInt8), l.length = n → RdB w A l → RdB w A' ((l.drop m).take (h - m))) ∧ (∀ a', A' = some a' → ∃ a, A = some a ∧ a'.block = a.block) := by
  have hel : P.elem t = e := by simp [Program.elem, ht]
  have hu : P.underlying t = some (.slice (P.elem t)) := by rw [hel]; exact ht
  obtain ⟨A', h1, h2, h3⟩ := cut_from (P := P) t e ht hi hsz A n c m (by omega)
  refine ⟨A', fun W => ?_, fun w l hl hR => (h2 w l hl hc hR).take _, h3⟩
  have h1' := h1 W
  rw [run_slice_l W t A n c hu .i64 (m : Int) (Int.natCast_nonneg _) (by omega), hel] at h1'
  rw [run_slice_lh W t A n c hu .i64 .i64 (m : Int) (h : Int) (Int.natCast_nonneg _) (by omega) (by omega), hel]
  simp [sizeOf, typeInfo, hi, hsz, sliced, Result.andThen] at h1' ⊢
  exact h1'
theorem run_cut_mid {P : Program} {o : Oper} {a : Act} (ty : TypeId) (x lo h : Operand) (ho : o.op = .slice ty x (some lo) (some h) none) {e : TypeId} (ht : P.underlying ty = some (.slice e)) {A A' : Option Addr} {n c n' c' : Nat} {m k : Nat}
    (hX : ∀ W : World, (Instr.slice ty (.slice A n c) (some (.int .i64 (m : Int))) (some (.int .i64 (k : Int))) none).run P W = .ok (.slice A' n' c') W)
    (hx : a.eval x = .slice A n c) (hl : a.eval lo = .int .i64 (m : Int)) (hh : a.eval h = .int .i64 (k : Int)) (W : World) : (execOp a.eval o).run P W = .ok (.value (.slice A' n' c')) W := by
  unfold execOp
  simp only [ho, hx, Option.map_some, Option.map_none, hl, hh, Instr.sliceAt, Sem.run_bind, Sem.run_pure, run_underlying ht, Result.andThen_ok, hX W]
theorem run_cut_from {P : Program} {o : Oper} {a : Act} (ty : TypeId) (x h : Operand) (ho : o.op = .slice ty x (some h) none none) {e : TypeId} (ht : P.underlying ty = some (.slice e)) {A A' : Option Addr} {n c n' c' : Nat} {m : Nat}
    (hX : ∀ W : World, (Instr.slice ty (.slice A n c) (some (.int .i64 (m : Int))) none none).run P W = .ok (.slice A' n' c') W)
    (hx : a.eval x = .slice A n c) (hh : a.eval h = .int .i64 (m : Int)) (W : World) : (execOp a.eval o).run P W = .ok (.value (.slice A' n' c')) W := by
  unfold execOp
  simp only [ho, hx, Option.map_some, Option.map_none, hh, Instr.sliceAt, Sem.run_bind, Sem.run_pure, run_underlying ht, Result.andThen_ok, hX W, Result.andThen_ok]
theorem run_str {P : Program} {o : Oper} {a : Act} (src dst : TypeId) (x : Operand) (ho : o.op = .convert src dst x) {e : TypeId} (hs : P.underlying src = some (.slice e)) (he : P.underlying e = some (.int .u8)) (hd : P.underlying dst = some .string) {w : World} {A : Option Addr} {l : List UInt8} (h : RdB w A l) (n c : Nat) (hn : l.length = n)
    (hx : a.eval x = .slice A n c) : (execOp a.eval o).run P w = .ok (.value (.string (strB l))) w := by
  unfold execOp
  simp only [ho, hx, Sem.run_bind, Sem.run_pure, conv_str hs he hd h n c hn, Result.andThen_ok]
/-- 'a[:]', 'a[:m]' of an array that stands at the head of a block. -/
theorem run_arr_all {P : Program} {o : Oper} {a : Act} (ty : TypeId) (x : Operand) (ho : o.op = .slice ty x none none none) (n e : Nat) (ht : P.underlying ty = some (.array n e)) {i : TypeInfo} (hi : P.info? e = some i)
    (g : Nat) (hx : a.eval x = .pointer (some ⟨g, 0, none⟩)) (W : World) : (execOp a.eval o).run P W = .ok (.value (.slice (some ⟨g, 0, none⟩) n n)) W := by
  unfold execOp
  simp only [ho, hx, Option.map_none, Instr.sliceAt, Sem.run_bind, Sem.run_pure, run_underlying ht, Result.andThen_ok, Instr.sureAddr, Instr.sliceBounds, sizeOf, typeInfo, Addr.add]
  simp [hi]
theorem run_arr_to {P : Program} {o : Oper} {a : Act} (ty : TypeId) (x h : Operand) (ho : o.op = .slice ty x none (some h) none) (n e : Nat) (ht : P.underlying ty = some (.array n e)) {i : TypeInfo} (hi : P.info? e = some i)
    (g m : Nat) (hm : m ≤ n) (hx : a.eval x = .pointer (some ⟨g, 0, none⟩)) (hh : a.eval h = .int .i64 (m : Int)) (W : World) : (execOp a.eval o).run P W = .ok (.value (.slice (some ⟨g, 0, none⟩) m n)) W := by
  have hm' : (m : Int) ≤ n := by omega
  unfold execOp
  simp only [ho, hx, hh, Option.map_none, Option.map_some, Instr.sliceAt, Sem.run_bind, Sem.run_pure, run_underlying ht, Result.andThen_ok, Instr.sureAddr, Instr.sliceBounds, sizeOf, typeInfo, Addr.add]
  simp [run_sliceBound, hm', hi]
/-- 'a[lo:hi]' of an array that stands somewhere in a block. -/
theorem slice_ptr {P : Program} (t e n : Nat) (ht : P.underlying t = some (.array n e)) {i : TypeInfo} (hi : P.info? e = some i) (hsz : i.size = 1) (g o lo hj : Nat) (h1 : lo ≤ hj) (h2 : hj ≤ n) (h3 : lo < n) (W : World) :
    (Instr.sliceAt t (.pointer (some ⟨g, o, none⟩)) (some (.int .i64 (lo : Int))) (some (.int .i64 (hj : Int))) none).run P W = .ok (.slice (some ⟨g, o + lo, none⟩) (hj - lo) (n - lo)) W := by
  have b1 : (lo : Int) ≤ hj := by omega
  have b2 : (hj : Int) ≤ n := by omega
  have b3 : ¬ n = lo := by omega
  simp only [Instr.sliceAt, Sem.run_bind, Sem.run_pure, run_underlying ht, Result.andThen_ok, Instr.sureAddr, Instr.sliceBounds, sizeOf, typeInfo, Addr.add]
  simp [run_sliceBound, b1, b2, b3, hi, hsz]
theorem slice_ptr_from {P : Program} (t e n : Nat) (ht : P.underlying t = some (.array n e)) {i : TypeInfo} (hi : P.info? e = some i) (hsz : i.size = 1) (k : IntKind) (g o lo : Nat) (h3 : lo < n) (W : World) :
    (Instr.sliceAt t (.pointer (some ⟨g, o, none⟩)) (some (.int k (lo : Int))) none none).run P W = .ok (.slice (some ⟨g, o + lo, none⟩) (n - lo) (n - lo)) W := by
  have b2 : (lo : Int) ≤ n := by omega
  have b3 : ¬ n = lo := by omega
  simp only [Instr.sliceAt, Sem.run_bind, Sem.run_pure, run_underlying ht, Result.andThen_ok, Instr.sureAddr, Instr.sliceBounds, sizeOf, typeInfo, Addr.add]
  simp [run_sliceBound, b2, b3, hi, hsz]
theorem run_ptr_from {P : Program} {o : Oper} {a : Act} (t : TypeId) (x l : Operand) (ho : o.op = .slice t x (some l) none none) (n e : Nat) (ht : P.underlying t = some (.array n e)) {i : TypeInfo} (hi : P.info? e = some i) (hsz : i.size = 1) (k : IntKind) (g off lo : Nat) (h3 : lo < n)
    (hx : a.eval x = .pointer (some ⟨g, off, none⟩)) (hl : a.eval l = .int k (lo : Int)) (W : World) : (execOp a.eval o).run P W = .ok (.value (.slice (some ⟨g, off + lo, none⟩) (n - lo) (n - lo))) W := by
  have h := slice_ptr_from (P := P) t e n ht hi hsz k g off lo h3 W
  unfold execOp
  simp only [ho, hx, hl, Option.map_some, Option.map_none, Sem.run_bind, Sem.run_pure, h, Result.andThen_ok]
theorem strB_size (l : List UInt8) : (strB l).size = l.length := by simp [strB, ByteArray.size]
theorem strB_get (l : List UInt8) (i : Nat) (hi : i < (strB l).size) : (strB l)[i] = l.getD i 0 := by
  have h : i < l.length := by rwa [strB_size] at hi
  show (strB l).data[i] = _
  simp [strB, List.getD_eq_getElem?_getD, h]
theorem idx_str {P : Program} (t : TypeId) (hu : P.underlying t = some .string) (l : List UInt8) (j : Nat) (hj : j < l.length) (k : IntKind) (z : Int) (hz : z = (j : Int)) (W : World) :
    (Instr.index t (.string (strB l)) (.int k z)).run P W = .ok (.int .u8 ((l.getD j 0).toNat : Int)) W := by
  subst hz
  rw [run_index_string W t (strB l) k (j : Int) hu, dif_pos ⟨by omega, by rw [strB_size]; omega⟩]
  have : ∀ (h : (j : Int).toNat < (strB l).size), (strB l)[(j : Int).toNat] = l.getD j 0 := fun h => strB_get l j h
  rw [this]
theorem run_idx_str {P : Program} {o : Oper} {a : Act} (t : TypeId) (x i : Operand) (ho : o.op = .index t x i) (hu : P.underlying t = some .string) (l : List UInt8) (j : Nat) (y : UInt8) (hy : y = l.getD j 0) (hj : j < l.length) (k : IntKind) (z : Int) (hz : z = (j : Int))
    (hx : a.eval x = .string (strB l)) (hi : a.eval i = .int k z) (W : World) : (execOp a.eval o).run P W = .ok (.value (.int .u8 (y.toNat : Int))) W := by
  subst hy
  unfold execOp
  simp only [ho, hx, hi, Sem.run_bind, Sem.run_pure, idx_str t hu l j hj k z hz W, Result.andThen_ok]
/-- The address of a place of an array, of a slice; what stands there. -/
theorem run_iaddr_arr {P : Program} {o : Oper} {a : Act} (t : TypeId) (x i : Operand) (ho : o.op = .indexAddr t x i) (n e : Nat) (ht : P.underlying t = some (.array n e)) {ti : TypeInfo} (hi : P.info? e = some ti) (hsz : ti.size = 1)
    (g j : Nat) (hj : j < n) (k : IntKind) (z : Int) (hz : z = (j : Int)) (hx : a.eval x = .pointer (some ⟨g, 0, none⟩)) (hii : a.eval i = .int k z) (W : World) : (execOp a.eval o).run P W = .ok (.value (.pointer (some ⟨g, j, none⟩))) W := by
  subst hz
  have hel : P.elem t = e := by simp [Program.elem, ht]
  have hal : P.arrayLen t = n := by simp [Program.arrayLen, ht]
  have h := run_indexAt_array W t ⟨g, 0, none⟩ k (j : Int) (P := P) (by rw [hel, hal]; exact ht)
  unfold execOp
  simp only [ho, hx, hii, Sem.run_bind, Sem.run_pure, h, hel, hal]
  rw [if_pos ⟨by omega, by omega⟩]
  simp [sizeOf, typeInfo, hi, hsz, Result.andThen, add_at]
theorem run_iaddr_sl {P : Program} {o : Oper} {a : Act} (t : TypeId) (x i : Operand) (ho : o.op = .indexAddr t x i) (e : Nat) (ht : P.underlying t = some (.slice e)) {ti : TypeInfo} (hi : P.info? e = some ti) (hsz : ti.size = 1)
    (b off n c j : Nat) (hj : j < n) (k : IntKind) (z : Int) (hz : z = (j : Int)) (hx : a.eval x = .slice (some ⟨b, off, none⟩) n c) (hii : a.eval i = .int k z) (W : World) : (execOp a.eval o).run P W = .ok (.value (.pointer (some ⟨b, off + j, none⟩))) W := by
  subst hz
  have hel : P.elem t = e := by simp [Program.elem, ht]
  have h := run_indexAt_slice W t ⟨b, off, none⟩ n c k (j : Int) (P := P) (by rw [hel]; exact ht)
  unfold execOp
  simp only [ho, hx, hii, Sem.run_bind, Sem.run_pure, h, hel]
  rw [if_pos ⟨by omega, by omega⟩]
  simp [sizeOf, typeInfo, hi, hsz, Result.andThen, add_at]
theorem run_cell {P : Program} {o : Oper} {a : Act} (t : TypeId) (x : Operand) (ho : o.op = .load t x) (d : TypeDesc) (ht : P.underlying t = some d) (hd : (match d with | .struct _ | .array _ _ => false | _ => true) = true)
    {p : Addr} {v : Value} (hx : a.eval x = .pointer (some p)) {W : World} (hc : W.cell? p = some v) : (execOp a.eval o).run P W = .ok (.value v) W := by
  unfold execOp
  have hagg : (isAgg t).run P W = .ok false W := by
    cases d <;> simp_all [isAgg, run_underlying ht, Result.andThen]
  simp only [ho, hx, Instr.loadAt, Instr.sureAddr, Sem.run_bind, Sem.run_pure, Result.andThen_ok, loadVar, hagg]
  simp [hc, Result.andThen]
theorem strB_append (l l' : List UInt8) : strB l ++ strB l' = strB (l ++ l') := by
  apply ByteArray.ext
  rw [ByteArray.data_append]
  simp [strB]
theorem run_cat {P : Program} {o : Oper} {a : Act} (t t2 : TypeId) (x y : Operand) (ho : o.op = .binOp .add t x y t2) (l l' : List UInt8) (hx : a.eval x = .string (strB l)) (hy : a.eval y = .string (strB l')) (hl : l.length + l'.length ≤ 4611686018427387903) (W : World) :
    (execOp a.eval o).run P W = .ok (.value (.string (strB (l ++ l')))) W := by
  unfold execOp
  have h1 : ¬ (9223372036854775807 < (strB l).size + (strB l').size) := by rw [strB_size, strB_size]; omega
  have h2 : (binOp .add t (.string (strB l)) (.string (strB l'))).run P W = .ok (.string (strB l ++ strB l')) W := by
    go_simp
  simp only [ho, hx, hy, eqGuard_add, Sem.run_bind, Sem.run_pure, h2, Result.andThen_ok, strB_append]
/-- Two texts of bytes differ, or do not, as their bytes do. -/
theorem str_eq {l l' : List UInt8} (h : l = l') : decide (strB l = strB l') = true := by simp [h]
end Go.Proofs.YtihllbhmnkckaaaDoor
