/- Small words that the walks of this seat share: bytes and words as values, rows of them in memory, a world seen through what is known of it. No condition. -/
import Derived.WalkKit
import Derived.WalkSpells
import Derived.WalkLawsBesides
import Derived.Outline
import Derived.Deep.QuietTactic
import Derived.BigQuiet
import Derived.BigRegion
import Derived.StillTailTactics
import Derived.KernelRfl
import Derived.Lib.Hide
import Derived.Deep.WholeRow
import Derived.Deep.MidRow
import Derived.Maps.AppendAt
import Derived.Deep.AppendLies
import Derived.Laws.BytesArg
import Derived.Lib.ConvBytes
import Derived.Laws.MakeOwn
import Derived.Deep.RegionHeld3
import Derived.Deep.DrawnRows
import Derived.Deep.DeepCutAuto
import Derived.Lib.SliceRun
import Derived.OrdersHeld
set_option linter.unusedVariables false
set_option linter.unusedSimpArgs false
namespace Go.Proofs.YtihllbhmnkckaaaDoor
set_option linter.unusedVariables false
set_option linter.unusedSimpArgs false
open Go.RowKit

/-! ### words -/
def W8 (l : List UInt8) : Array Value := (l.map fun x => Value.int .u8 (x.toNat : Int)).toArray
def W32 (l : List UInt32) : Array Value := (l.map fun x => Value.int .u32 (x.toNat : Int)).toArray
def W64 (l : List UInt64) : Array Value := (l.map fun x => Value.int .u64 (x.toNat : Int)).toArray
theorem W8_size (l : List UInt8) : (W8 l).size = l.length := by simp [W8]
theorem W32_size (l : List UInt32) : (W32 l).size = l.length := by simp [W32]
theorem W64_size (l : List UInt64) : (W64 l).size = l.length := by simp [W64]
theorem W8_get (l : List UInt8) (i : Nat) (h : i < l.length) : (W8 l)[i]? = some (.int .u8 ((l.getD i 0).toNat : Int)) := by simp [W8, h]
theorem W32_get (l : List UInt32) (i : Nat) (h : i < l.length) : (W32 l)[i]? = some (.int .u32 ((l.getD i 0).toNat : Int)) := by simp [W32, h]
theorem W64_get (l : List UInt64) (i : Nat) (h : i < l.length) : (W64 l)[i]? = some (.int .u64 ((l.getD i 0).toNat : Int)) := by simp [W64, h]
theorem W8_set (l : List UInt8) (i : Nat) (x : UInt8) : (W8 l).setIfInBounds i (.int .u8 (x.toNat : Int)) = W8 (l.set i x) := by simp [W8, List.map_set]
theorem W32_set (l : List UInt32) (i : Nat) (x : UInt32) : (W32 l).setIfInBounds i (.int .u32 (x.toNat : Int)) = W32 (l.set i x) := by simp [W32, List.map_set]
theorem W64_set (l : List UInt64) (i : Nat) (x : UInt64) : (W64 l).setIfInBounds i (.int .u64 (x.toNat : Int)) = W64 (l.set i x) := by simp [W64, List.map_set]

theorem u8_lt (x : UInt8) : (x.toNat : Int) < 256 := by have := x.toNat_lt; omega
theorem u32_lt (x : UInt32) : (x.toNat : Int) < 4294967296 := by have := x.toNat_lt; omega
theorem u32_add (a b : UInt32) : ((a.toNat : Int) + (b.toNat : Int)) % 4294967296 = ((a + b).toNat : Int) := by
  rw [UInt32.toNat_add]; omega
theorem u32_xor' (a b : UInt32) : bits .xor .u32 (a.toNat : Int) (b.toNat : Int) = ((a ^^^ b).toNat : Int) := by
  rw [u32_xor_nat _ _ a.toNat_lt b.toNat_lt, UInt32.toNat_xor]
theorem u32_xor_ex (a b : UInt32) : ∃ z : UInt32, Hid (z = a ^^^ b) ∧ bits .xor .u32 (a.toNat : Int) (b.toNat : Int) = (z.toNat : Int) := ⟨_, rfl, u32_xor' a b⟩
theorem u32_or' (a b : UInt32) : bits .or .u32 (a.toNat : Int) (b.toNat : Int) = ((a ||| b).toNat : Int) := by
  rw [u32_or_nat _ _ a.toNat_lt b.toNat_lt, UInt32.toNat_or]
theorem u32_and' (a b : UInt32) : bits .and .u32 (a.toNat : Int) (b.toNat : Int) = ((a &&& b).toNat : Int) := by
  rw [u32_and_nat _ _ a.toNat_lt b.toNat_lt, UInt32.toNat_and]
theorem u8_xor' (a b : UInt8) : bits .xor .u8 (a.toNat : Int) (b.toNat : Int) = ((a ^^^ b).toNat : Int) := by
  rw [u8_xor_nat _ _ a.toNat_lt b.toNat_lt, UInt8.toNat_xor]
/-- A word turned to the left. -/
def rotl (x : UInt32) (r : Nat) : UInt32 := x <<< (UInt32.ofNat r) ||| x >>> (UInt32.ofNat (32 - r))

/-! ### a world, seen through what is known of it -/
theorem wp_abs {P : Program} {c : Code} {Q : Exit → Act → World → Prop} {a : Act} {w0 : World} (R : World → Prop) (h0 : R w0) (h : ∀ W, R W → c.wp P Q a W) : c.wp P Q a w0 := h _ h0

theorem calls_abs {P : Program} {f : FuncId} {args : Array Value} {w0 : World} {S : Ending → World → Prop} (R : World → Prop) (h0 : R w0) (h : ∀ W, R W → Calls P f args W S) : Calls P f args w0 S := h _ h0
theorem list_abs {P : Program} {ops : Array Oper} {l : List Oper} {Q : Exit → Act → World → Prop} {a : Act} {w0 : World} (R : World → Prop) (h0 : R w0) (h : ∀ W, R W → wpList P ops Q l a W) : wpList P ops Q l a w0 := h _ h0

theorem row_cell {w : World} {g : Nat} {cs : Array Value} {t : TypeId} {fr : Nat × Nat} (h : w.heap[g]? = some (.cells cs t fr)) (i : Nat) {v : Value} (hv : cs[i]? = some v) : w.cell? ⟨g, i, none⟩ = some v :=
  (cell_of_row w g i cs t fr h).trans hv
theorem row_free {w : World} {g : Nat} {cs : Array Value} {t : TypeId} (h : w.heap[g]? = some (.cells cs t (0, 0))) (i : Nat) : w.frozen? ⟨g, i, none⟩ = false := frozen_of_row w g i cs t h
theorem row_lt {w : World} {g : Nat} {o : Obj} (h : w.heap[g]? = some o) : g < w.heap.size := (Array.getElem?_eq_some_iff.1 h).1
theorem grown_set {w0 w : World} {g : Nat} (h : w0.grownBy w (some g)) (i : Nat) (v : Value) : w0.grownBy (w.setCell ⟨g, i, none⟩ v) (some g) :=
  World.grownBy.trans h ⟨rfl, rfl, rfl, by simp [World.setCell], fun k hk hne => Below.heap_setCell _ _ _ _ (fun e => hne (by rw [e]))⟩
theorem grown_drew {w0 w : World} {r : Option Nat} (h : w0.grownBy w r) : w0.grownBy w.drew r := ⟨h.os, h.tape, h.output, h.size, h.block⟩
theorem grown_drewN {w0 w : World} {r : Option Nat} (h : w0.grownBy w r) (n : Nat) : w0.grownBy (w.drewN n) r := ⟨h.os, h.tape, h.output, h.size, h.block⟩

theorem ha_new (w : World) (o : Obj) (k : Nat) (h : k = w.heap.size) : (w.alloc o).heap[k]? = some o := by subst h; exact heap_alloc_last w o
theorem ha_old (w : World) (o : Obj) (k : Nat) (h : k < w.heap.size) {x : Option Obj} (hx : w.heap[k]? = x) : (w.alloc o).heap[k]? = x := (Below.heap_alloc w o k h).trans hx
theorem ha_size (w : World) (o : Obj) : (w.alloc o).heap.size = w.heap.size + 1 := by simp
theorem below_block {B k : Nat} {w w' : World} {o : Obj} (h : Below B w w') (hk : k < B) (hx : w.heap[k]? = some o) : w'.heap[k]? = some o := (h.block k hk).trans hx
theorem grown_block {k : Nat} {w w' : World} {r : Option Nat} {o : Obj} (h : w.grownBy w' r) (hk : some k ≠ r) (hx : w.heap[k]? = some o) : w'.heap[k]? = some o := (h.block k (row_lt hx) hk).trans hx
theorem grown_below {w w' : World} {r : Option Nat} {B : Nat} (h : w.grownBy w' r) (hB : B ≤ w.heap.size) (hr : ∀ g, r = some g → B ≤ g) : Below B w w' :=
  ⟨h.os, h.tape, h.output, h.size, fun k hk => h.block k (Nat.lt_of_lt_of_le hk hB) (fun e => by have := hr k e.symm; omega)⟩
section
variable {P : Program} {ops : Array Oper} {rest : List Oper} {o : Oper} {a : Act} {Q : Exit → Act → World → Prop}
/-- A whole row into the block that was made last. -/
theorem wpList_store_new (hgd : o.guard = none) (hdst : o.dst = none) (ty : TypeId) (x y : Operand) (ho : o.op = .store ty x y) {w : World} {c : Array Value} {t : TypeId} (cells : Array Value)
    (hx : a.eval x = .pointer (some ⟨w.heap.size, 0, none⟩)) (hy : a.eval y = .agg cells) (hi : (P.info? ty).map (·.size) = some cells.size) (hold : c.size = cells.size) (h1 : cells.all (·.oneCell') = true)
    (h : wpList P ops Q rest a (w.alloc (.cells cells t))) : wpList P ops Q (o :: rest) a (w.alloc (.cells c t)) := by
  refine wpList_store_row hgd ty x y ho w.heap.size cells hx hy t c (heap_alloc_last w _) hi hold h1 ?_
  rw [World.setRow_alloc_new, hdst]
  exact h
/-- A whole row into a block that is known whole. -/
theorem wpList_store_whole (hgd : o.guard = none) (hdst : o.dst = none) (ty : TypeId) (x y : Operand) (ho : o.op = .store ty x y) {w : World}
    (g : Nat) (cells : Array Value) (hx : a.eval x = .pointer (some ⟨g, 0, none⟩)) (hy : a.eval y = .agg cells)
    (t : TypeId) (old : Array Value) (hg : w.heap[g]? = some (.cells old t (0, 0))) (hi : (P.info? ty).map (·.size) = some cells.size)
    (hold : old.size = cells.size) (h1 : cells.all (·.oneCell') = true)
    (h : ∀ w', w'.heap[g]? = some (.cells cells t (0, 0)) → w.grownBy w' (some g) → w'.heap.size = w.heap.size → wpList P ops Q rest a w') : wpList P ops Q (o :: rest) a w := by
  refine wpList_store_row hgd ty x y ho g cells hx hy t old hg hi hold h1 ?_
  rw [hdst]
  exact h _ (setRow_heap w g _ _ t _ hg) ⟨rfl, rfl, rfl, by simp, fun k hk hne => setRow_other w g k cells (fun e => hne (by rw [e]))⟩ (by simp)
end
theorem W8_one (l : List UInt8) : (W8 l).all (·.oneCell') = true := all_oneCell_toArray (by intro v hv; simp only [List.mem_map] at hv; obtain ⟨q, _, rfl⟩ := hv; rfl)
theorem W32_one (l : List UInt32) : (W32 l).all (·.oneCell') = true := all_oneCell_toArray (by intro v hv; simp only [List.mem_map] at hv; obtain ⟨q, _, rfl⟩ := hv; rfl)
theorem W64_one (l : List UInt64) : (W64 l).all (·.oneCell') = true := all_oneCell_toArray (by intro v hv; simp only [List.mem_map] at hv; obtain ⟨q, _, rfl⟩ := hv; rfl)

/-! ### a slice of bytes that is read -/
/-- The bytes l stand at A. -/
def RdB (w : World) (A : Option Addr) (l : List UInt8) : Prop := ∀ j, j < l.length → ∃ b o, A = some ⟨b, o, none⟩ ∧ w.cell? ⟨b, o + j, none⟩ = some (.int .u8 ((l.getD j 0).toNat : Int))
/-- .. in another block than g. -/
def Off (A : Option Addr) (g : Nat) : Prop := ∀ a, A = some a → a.block ≠ g
theorem RdB.get {w : World} {A : Option Addr} {l : List UInt8} (h : RdB w A l) (j : Nat) (hj : j < l.length) : ∃ b o, A = some ⟨b, o, none⟩ ∧ ∃ x : UInt8, Hid (x = l.getD j 0) ∧ w.cell? ⟨b, o + j, none⟩ = some (.int .u8 (x.toNat : Int)) := by
  obtain ⟨b, o, e, hc⟩ := h j hj
  exact ⟨b, o, e, _, rfl, hc⟩
theorem RdB.grown {w w' : World} {A : Option Addr} {l : List UInt8} {r : Option Nat} (h : RdB w A l) (hg : w.grownBy w' r) (hne : ∀ g, r = some g → Off A g) : RdB w' A l := by
  intro j hj
  obtain ⟨b, o, e, hc⟩ := h j hj
  exact ⟨b, o, e, hg.cell hc (fun er => hne b er.symm _ e rfl)⟩
theorem RdB.below {w w' : World} {A : Option Addr} {l : List UInt8} {B : Nat} (h : RdB w A l) (hb : Below B w w') (hlt : ∀ a, A = some a → a.block < B) : RdB w' A l := by
  intro j hj
  obtain ⟨b, o, e, hc⟩ := h j hj
  exact ⟨b, o, e, (hb.cell (p := ⟨b, o + j, none⟩) (hlt ⟨b, o, none⟩ e)).trans hc⟩
theorem RdB.nil (w : World) (A : Option Addr) : RdB w A [] := fun j hj => absurd hj (by simp)
theorem RdB.row {w : World} {g : Nat} {l : List UInt8} {t : TypeId} {fr : Nat × Nat} (h : w.heap[g]? = some (.cells (W8 l) t fr)) : RdB w (some ⟨g, 0, none⟩) l := fun j hj =>
  ⟨g, 0, rfl, by rw [Nat.zero_add]; exact row_cell h j (W8_get l j hj)⟩

/-! ### text out of bytes -/
def strB (l : List UInt8) : ByteArray := ⟨l.toArray⟩
theorem strOfNums_eq (l : List UInt8) : strOfNums (l.map fun x => (x.toNat : Int)) = strB l := by
  unfold strOfNums strB
  congr 2
  rw [List.map_map]
  conv => rhs; rw [← List.map_id l]
  apply List.map_congr_left
  intro x _
  simp
theorem conv_str {P : Program} {src dst e : TypeId} (hs : P.underlying src = some (.slice e)) (he : P.underlying e = some (.int .u8)) (hd : P.underlying dst = some .string) {w : World} {A : Option Addr} {l : List UInt8} (h : RdB w A l) (n c : Nat) (hn : l.length = n) :
    (convert src dst (.slice A n c)).run P w = .ok (.string (strB l)) w := by
  subst hn
  rcases l with _ | ⟨x, r⟩
  · rcases A with _ | ⟨b, o, sp⟩
    · exact run_convert_bytes_nil w src e hs he 0 c dst hd
    · simp only [List.length_nil]
      rw [run_convert_bytes_string w src dst e _ 0 c hs he hd]
      simp [Conv.bytesToString, strB, loadCells, loadCellsFrom]
      rfl
  · obtain ⟨b, o, rfl, hc⟩ := h 0 (by simp)
    have hh := run_convert_bytes_arg (P := P) w src e hs he b o (x :: r).length c ((x :: r).map fun x => (x.toNat : Int)) (by simp) (fun i hi => by
      obtain ⟨b', o', e', hc'⟩ := h i hi
      injection e' with e'
      injection e' with e1 e2
      subst e1 e2
      rw [hc', List.getD_eq_getElem?_getD, List.getD_eq_getElem?_getD, List.getElem?_map, List.getElem?_eq_getElem hi]
      rfl) dst hd
    rw [strOfNums_eq] at hh
    exact hh
theorem strB_inj {l l' : List UInt8} : strB l = strB l' ↔ l = l' := by
  constructor
  · intro h
    have : l.toArray = l'.toArray := congrArg ByteArray.data h
    simpa using this
  · rintro rfl; rfl

/-! ### rows of bytes of the call's own -/
def B8 (l : List UInt8) : List Value := l.map fun x => Value.int .u8 (x.toNat : Int)
theorem B8_length (l : List UInt8) : (B8 l).length = l.length := by simp [B8]
theorem B8_append (l l' : List UInt8) : B8 (l ++ l') = B8 l ++ B8 l' := by simp [B8]
theorem B8_get (l : List UInt8) (j : Nat) (hj : j < l.length) : (B8 l)[j]? = some (.int .u8 ((l.getD j 0).toNat : Int)) := by simp [B8, hj]
theorem B8_one (l : List UInt8) : ∀ u ∈ B8 l, u.oneCell' = true := by
  intro u hu
  simp only [B8, List.mem_map] at hu
  obtain ⟨x, _, rfl⟩ := hu
  rfl
def OwnB (w : World) (base : Nat) (v : Value) (l : List UInt8) : Prop := w.ownsRow base 5 1 v l.length (B8 l)
theorem add_at (b o j : Nat) : (⟨b, o, none⟩ : Addr).add j = ⟨b, o + j, none⟩ := by unfold Addr.add; split <;> simp_all
theorem OwnB.read {w : World} {base : Nat} {v : Value} {l : List UInt8} (h : OwnB w base v l) :
    ∃ A c, v = .slice A l.length c ∧ RdB w A l ∧ l.length ≤ c ∧ c ≤ 9223372036854775807 ∧ ∀ a, A = some a → base ≤ a.block ∧ a.block < w.heap.size := by
  have h' := h
  rcases h'.2 with ⟨hv, hn⟩ | ⟨g, cap, cur, hv, hb, hh, hnc, hcm, hcs, _⟩
  · exact ⟨none, 0, by rw [hv, hn], fun j hj => absurd hj (by omega), by omega, by omega, fun a e => by cases e⟩
  · refine ⟨_, cap, hv, fun j hj => ⟨g, 0, rfl, ?_⟩, hnc, by simpa [maxLen] using hcm, fun a e => by cases e; exact ⟨hb, row_lt hh⟩⟩
    have := h.cells (g := g) (by rw [hv]; rfl) j _ (B8_get l j hj)
    rwa [add_at] at this
theorem OwnB.nil (w : World) (base : Nat) : OwnB w base (.slice none 0 0) [] := World.ownsRow_nil _ _ _ _
theorem OwnB.alloc {w : World} {base : Nat} {v : Value} {l : List UInt8} (h : OwnB w base v l) (o : Obj) : OwnB (w.alloc o) base v l := World.ownsRow.alloc h o
theorem OwnB.drew {w : World} {base : Nat} {v : Value} {l : List UInt8} (h : OwnB w base v l) : OwnB w.drew base v l := World.ownsRow.drew h
theorem OwnB.lt {w : World} {base : Nat} {v : Value} {l : List UInt8} (h : OwnB w base v l) : ∀ k, v.ownBlock = some k → base ≤ k ∧ k < w.heap.size := World.ownsRow.lt h
theorem OwnB.grown {w w' : World} {base : Nat} {v : Value} {l : List UInt8} {r : Option Nat} (h : OwnB w base v l) (hg : w.grownBy w' r) (hne : v.ownBlock = none ∨ v.ownBlock ≠ r) : OwnB w' base v l := World.ownsRow.kept h hg hne
theorem grown_of_below {w w' : World} (h : Below w.heap.size w w') : w.grownBy w' none := ⟨h.os, h.tape, h.output, h.size, fun i hi _ => h.block i hi⟩
theorem OwnB.below {w w' : World} {base : Nat} {v : Value} {l : List UInt8} (h : OwnB w base v l) (hb : Below w.heap.size w w') : OwnB w' base v l := h.grown (grown_of_below hb) (by cases v.ownBlock <;> simp)
theorem OwnB.mono {w : World} {base base' : Nat} {v : Value} {l : List UInt8} (h : OwnB w base v l) (hb : base' ≤ base) : OwnB w base' v l := by
  refine ⟨h.1, ?_⟩
  rcases h.2 with h2 | ⟨g, cap, cur, hv, hg, r⟩
  · exact .inl h2
  · exact .inr ⟨g, cap, cur, hv, Nat.le_trans hb hg, r⟩
/-- What is behind a step of a region is known of the appended row: itself, or a new one. -/
def AtOrNew (v v1 : Value) (W : World) : Prop := v1.ownBlock = v.ownBlock ∨ v1.ownBlock = some W.heap.size
/-- The []byte's and the byte's rows of the program's table. -/
structure ByteT (P : Program) : Prop where
  ht : P.underlying 22 = some (.slice 5)
  hinfo : (P.info? 5).map (fun i => (i.zero, i.size, i.bytes)) = some (some (.int .u8 0), 1, 1)
/-- append(v, ys...): the run. -/
theorem run_app {P : Program} (T : ByteT P) (ty : TypeId) (W : World) (base : Nat) (v : Value) (l ys : List UInt8) (A : Option Addr) (m c : Nat) (hm : ys.length = m) (HO : OwnB W base v l) (HR : RdB W A ys) (hbase : base ≤ W.heap.size) (hl : l.length + m ≤ 140737488355328) :
    ∃ v1 w1, (Builtin.append_ #[22, 22] ty #[v, .slice A m c]).run P W = .ok v1 w1 ∧ OwnB w1 base v1 (l ++ ys) ∧ W.grownBy w1 v.ownBlock ∧ (v1.ownBlock = v.ownBlock ∨ v1.ownBlock = some W.heap.size) := by
  obtain ⟨i0, hi, hzz⟩ := Option.map_eq_some_iff.1 T.hinfo
  simp only [Prod.mk.injEq] at hzz
  obtain ⟨hz0, hz1, hz2⟩ := hzz
  have ht := T.ht
  subst hm
  rcases ys with _ | ⟨y, r⟩
  · rcases A with _ | ad
    · refine ⟨v, W, ?_, by simpa using HO, World.grownBy.refl W _, .inl rfl⟩
      rcases HO.2 with ⟨rfl, hn⟩ | ⟨g, cap, cur, rfl, _, _, hnc, _⟩
      · simp [Builtin.append_, run_underlying ht, sizeOf, typeInfo, hi, Builtin.lenOf, Builtin.firstCells]
      · simp [Builtin.append_, run_underlying ht, sizeOf, typeInfo, hi, Builtin.lenOf, Builtin.firstCells, hnc, storeCells]
    · obtain ⟨v1, w1, hr, h2, h3, _, h5⟩ := run_append_own_at (P := P) W base 22 ty 5 i0 (.int .u8 0) 1 1 ht hi hz0 hz1 hz2 rfl (by omega) v l.length (B8 l) HO ad 0 c [] (by simp) (by simp) (by simp) (by simp only [maxLen]; omega) (by omega) hbase
      exact ⟨v1, w1, hr, by simpa [OwnB] using h2, h3, h5⟩
  · obtain ⟨b, o, rfl, _⟩ := HR 0 (by simp)
    obtain ⟨v1, w1, hr, h2, h3, _, h5⟩ := run_append_own_at (P := P) W base 22 ty 5 i0 (.int .u8 0) 1 1 ht hi hz0 hz1 hz2 rfl (by omega) v l.length (B8 l) HO ⟨b, o, none⟩ (y :: r).length c (B8 (y :: r)) (by simp [B8])
      (fun j u hu => by
        have hj : j < (y :: r).length := by
          have := (List.getElem?_eq_some_iff.1 hu).1
          rwa [B8_length] at this
        obtain ⟨b', o', e', hc'⟩ := HR j hj
        injection e' with e'
        injection e' with e1 e2
        subst e1 e2
        rw [add_at, hc', ← B8_get _ j hj, hu]) (B8_one _) (by simp only [maxLen]; omega) (by omega) hbase
    refine ⟨v1, w1, hr, ?_, h3, h5⟩
    rw [OwnB, List.length_append, B8_append]
    exact h2
section
variable {P : Program} {ops : Array Oper} {rest : List Oper} {o : Oper} {a : Act} {Q : Exit → Act → World → Prop} {K : Act → World → Prop} {E : Prop}
theorem app_wp (T : ByteT P) (s x : Operand) (ho : o.op = .call { callee := .builtin .append, args := #[s, x], argTypes := #[22, 22] }) {W : World}
    (base : Nat) (v : Value) (l ys : List UInt8) (A : Option Addr) (m c : Nat) (hs : a.eval s = v) (hx : a.eval x = .slice A m c) (hm : ys.length = m) (HO : OwnB W base v l) (HR : RdB W A ys) (hbase : base ≤ W.heap.size) (hl : l.length + m ≤ 140737488355328)
    (h : ∀ v1 w1, OwnB w1 base v1 (l ++ ys) → W.grownBy w1 v.ownBlock → (v1.ownBlock = v.ownBlock ∨ v1.ownBlock = some W.heap.size) → K (a.put o.dst v1) w1) : o.wp P a W K Q := by
  obtain ⟨v1, w1, hr, h2, h3, h5⟩ := run_app T o.type W base v l ys A m c hm HO HR hbase hl
  unfold Oper.wp execOp
  simp only [ho, resolve, invoke, builtin, Sem.run_bind, Sem.run_pure, Result.andThen_ok, List.map_toArray, List.map_cons, List.map_nil, hs, hx, hr]
  exact h v1 w1 h2 h3 h5
/-- append(v, ys...) at a list of operations. -/
theorem app_list (hgd : o.guard = none) (T : ByteT P) (s x : Operand) (ho : o.op = .call { callee := .builtin .append, args := #[s, x], argTypes := #[22, 22] }) {W : World}
    (base : Nat) (v : Value) (l ys : List UInt8) (A : Option Addr) (m c : Nat) (hs : a.eval s = v) (hx : a.eval x = .slice A m c) (hm : ys.length = m) (HO : OwnB W base v l) (HR : RdB W A ys) (hbase : base ≤ W.heap.size) (hl : l.length + m ≤ 140737488355328)
    (h : ∀ v1 w1, OwnB w1 base v1 (l ++ ys) → W.grownBy w1 v.ownBlock → (v1.ownBlock = v.ownBlock ∨ v1.ownBlock = some W.heap.size) → wpList P ops Q rest (a.put o.dst v1) w1) : wpList P ops Q (o :: rest) a W :=
  wpList_plain hgd fun _ hK => app_wp T s x ho base v l ys A m c hs hx hm HO HR hbase hl (fun v1 w1 h1 h2 h3 => hK _ _ (h v1 w1 h1 h2 h3))
/-- .. at a step of a region that draws. -/
theorem app_step (hgd : o.guard = none) (T : ByteT P) (s x : Operand) (ho : o.op = .call { callee := .builtin .append, args := #[s, x], argTypes := #[22, 22] }) {W : World}
    (base : Nat) (v : Value) (l ys : List UInt8) (A : Option Addr) (m c : Nat) (hs : a.eval s = v) (hx : a.eval x = .slice A m c) (hm : ys.length = m) (HO : OwnB W base v l) (HR : RdB W A ys) (hbase : base ≤ W.heap.size) (hl : l.length + m ≤ 140737488355328)
    (h : ∀ v1 w1, OwnB w1 base v1 (l ++ ys) → W.grownBy w1 v.ownBlock → (v1.ownBlock = v.ownBlock ∨ v1.ownBlock = some W.heap.size) → K (a.put o.dst v1) w1) : if Region.wanted o (yielded ops a.tmps) = true then Oper.wp P o a W K Q else E := by
  rw [if_pos (by simp [Region.wanted, hgd])]
  exact app_wp T s x ho base v l ys A m c hs hx hm HO HR hbase hl h
end
theorem RdB.one {w : World} {b : Nat} {y : UInt8} (h : w.cell? ⟨b, 0, none⟩ = some (.int .u8 (y.toNat : Int))) : RdB w (some ⟨b, 0, none⟩) [y] := by
  intro j hj
  obtain rfl : j = 0 := by simp at hj; omega
  exact ⟨b, 0, rfl, h⟩
/-- What 'xs[m:]' tells, without a case on the capacity. -/
theorem cut_from {P : Program} (t e : TypeId) {i : TypeInfo} (ht : P.underlying t = some (.slice e)) (hi : P.info? e = some i) (hsz : i.size = 1) (A : Option Addr) (n c m : Nat) (hm : m ≤ n) :
    ∃ A' : Option Addr, (∀ W : World, (Instr.slice t (.slice A n c) (some (.int .i64 (m : Int))) none none).run P W = .ok (.slice A' (n - m) (c - m)) W) ∧
      (∀ (w : World) (l : List UInt8), l.length = n → n ≤ c → RdB w A l → RdB w A' (l.drop m)) ∧ (∀ a', A' = some a' → ∃ a, A = some a ∧ a'.block = a.block) := by
  refine ⟨if c = m then A else A.map (·.add m), fun W => ?_, fun w l hl hc h => ?_, fun a' ha' => ?_⟩
  · have hel : P.elem t = e := by simp [Program.elem, ht]
    have hu : P.underlying t = some (.slice (P.elem t)) := by rw [hel]; exact ht
    rw [run_slice_l W t A n c hu .i64 (m : Int) (Int.natCast_nonneg _) (by omega), hel]
    simp [sizeOf, typeInfo, hi, hsz, sliced, Result.andThen]
  · intro j hj
    have hj' : m + j < l.length := by simp at hj; omega
    obtain ⟨b, o, rfl, hcell⟩ := h (m + j) hj'
    rw [if_neg (by omega)]
    refine ⟨b, o + m, by simp [add_at], ?_⟩
    rw [Nat.add_assoc, hcell]
    simp [List.getD_eq_getElem?_getD, List.getElem?_drop]
  · split at ha'
    · exact ⟨a', ha', rfl⟩
    · rcases A with _ | ⟨b, o, sp⟩
      · simp at ha'
      · simp at ha'
        subst ha'
        refine ⟨_, rfl, ?_⟩
        unfold Addr.add
        split <;> rfl
theorem RdB.take {w : World} {A : Option Addr} {l : List UInt8} (h : RdB w A l) (m : Nat) : RdB w A (l.take m) := by
  intro j hj
  simp at hj
  obtain ⟨b, o, e, hc⟩ := h j (by omega)
  exact ⟨b, o, e, by
    rw [hc]
    have h1 : j < m := by omega
    simp [List.getD_eq_getElem?_getD, List.getElem?_take, h1]⟩
theorem cell_alloc {w : World} {a : Addr} {v : Value} (h : w.cell? a = some v) (o : Obj) : (w.alloc o).cell? a = some v := by
  rw [World.cell?_alloc_lt _ _ _ (World.block_lt_of_cell? w a h)]
  exact h
theorem cell_grown {w w' : World} {r : Option Nat} {a : Addr} {v : Value} (hg : w.grownBy w' r) (h : w.cell? a = some v) (hr : ∀ g, r = some g → a.block ≠ g) : w'.cell? a = some v :=
  hg.cell h (fun e => hr _ e.symm rfl)
theorem made_W8 (n : Nat) : madeCells #[Value.int .u8 0] n = W8 (List.replicate n 0) := by
  rw [← Array.toArray_toList (xs := madeCells #[Value.int .u8 0] n), toList_madeCells_one]
  simp [W8]
theorem run_load_row {P : Program} {o : Oper} {a : Act} {w : World} (ty : TypeId) (x : Operand) (ho : o.op = .load ty x)
    (g : Nat) (hx : a.eval x = .pointer (some ⟨g, 0, none⟩)) (t : TypeId) (cs : Array Value) (fr : Nat × Nat) (d : TypeDesc) (hg : w.heap[g]? = some (.cells cs t fr))
    (hu : P.underlying ty = some d) (hd : (match d with | .struct _ | .array _ _ => true | _ => false) = true) (hi : (P.info? ty).map (·.size) = some cs.size) : (execOp a.eval o).run P w = .ok (.value (.agg cs)) w := by
  unfold execOp
  simp only [ho, hx, Instr.loadAt, Instr.sureAddr, Sem.run_bind, Sem.run_pure, Result.andThen_ok, run_loadVar_row w g t ty cs fr d hg hu hd hi]
/-- A slot's length, for a loop's measure. -/
def lenOf : Value → Nat
  | .slice _ n _ => n
  | _ => 0
end Go.Proofs.YtihllbhmnkckaaaDoor
