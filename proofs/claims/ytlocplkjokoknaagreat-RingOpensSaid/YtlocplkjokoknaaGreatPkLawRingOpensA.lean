/- Part 1 of what the law LawRingOpens needs. No condition but those each theorem states. -/
import Derived.ArgAppend
import Derived.BigQuiet
import Derived.BigRegion
import Derived.Deep.AppendLies
import Derived.Deep.DeepCutAuto
import Derived.Deep.DrawnRows
import Derived.Deep.MidRow
import Derived.Deep.QuietTactic
import Derived.Deep.RegionHeld3
import Derived.Deep.WholeRow
import Derived.KernelRfl
import Derived.Laws.BytesArg
import Derived.Laws.CopyOwn
import Derived.Laws.IdiomMaps
import Derived.Laws.MakeOwn
import Derived.Lib.AppendZerosOnto
import Derived.Lib.ConvBytes
import Derived.Lib.Hide
import Derived.Lib.SliceRun
import Derived.Maps.AppendAt
import Derived.OrdersHeld
import Derived.Outline
import Derived.StillTailTactics
import Derived.StringKeys
import Derived.Test.YtlocplkjokoknaaGreatProg
import Derived.WalkKit
import Derived.WalkLawsBesides
import Derived.WalkSpells
/- Small words that the walks of this seat share: bytes and words as values, rows of them in memory, a world seen through what is known of it. No condition. -/
set_option linter.unusedVariables false
set_option linter.unusedSimpArgs false
namespace Go.Proofs.YtlocplkjokoknaaGreat
set_option linter.unusedVariables false
set_option linter.unusedSimpArgs false
open Go.RowKit

/-! ### words -/
def W8 (l : List UInt8) : Array Value := (l.map fun x => Value.int .u8 (x.toNat : Int)).toArray
def W32 (l : List UInt32) : Array Value := (l.map fun x => Value.int .u32 (x.toNat : Int)).toArray
def W64 (l : List UInt64) : Array Value := (l.map fun x => Value.int .u64 (x.toNat : Int)).toArray
theorem W8_size (l : List UInt8) : (W8 l).size = l.length := by simp [W8]
theorem W32_size (l : List UInt32) : (W32 l).size = l.length := by simp [W32]
theorem W64_size (l : List UInt64) : (W64 l).size = l.length := by simp [W64]
theorem W8_get (l : List UInt8) (i : Nat) (h : i < l.length) : (W8 l)[i]? = some (.int .u8 ((l.getD i 0).toNat : Int)) := by simp [W8, h]
theorem W32_get (l : List UInt32) (i : Nat) (h : i < l.length) : (W32 l)[i]? = some (.int .u32 ((l.getD i 0).toNat : Int)) := by simp [W32, h]
theorem W64_get (l : List UInt64) (i : Nat) (h : i < l.length) : (W64 l)[i]? = some (.int .u64 ((l.getD i 0).toNat : Int)) := by simp [W64, h]
theorem W8_set (l : List UInt8) (i : Nat) (x : UInt8) : (W8 l).setIfInBounds i (.int .u8 (x.toNat : Int)) = W8 (l.set i x) := by simp [W8, List.map_set]
theorem W32_set (l : List UInt32) (i : Nat) (x : UInt32) : (W32 l).setIfInBounds i (.int .u32 (x.toNat : Int)) = W32 (l.set i x) := by simp [W32, List.map_set]
theorem W64_set (l : List UInt64) (i : Nat) (x : UInt64) : (W64 l).setIfInBounds i (.int .u64 (x.toNat : Int)) = W64 (l.set i x) := by simp [W64, List.map_set]

theorem u8_lt (x : UInt8) : (x.toNat : Int) < 256 := by have := x.toNat_lt; omega
theorem u32_lt (x : UInt32) : (x.toNat : Int) < 4294967296 := by have := x.toNat_lt; omega
theorem u32_add (a b : UInt32) : ((a.toNat : Int) + (b.toNat : Int)) % 4294967296 = ((a + b).toNat : Int) := by
  rw [UInt32.toNat_add]; omega
theorem u32_xor' (a b : UInt32) : bits .xor .u32 (a.toNat : Int) (b.toNat : Int) = ((a ^^^ b).toNat : Int) := by
  rw [u32_xor_nat _ _ a.toNat_lt b.toNat_lt, UInt32.toNat_xor]
theorem u32_xor_ex (a b : UInt32) : ∃ z : UInt32, Hid (z = a ^^^ b) ∧ bits .xor .u32 (a.toNat : Int) (b.toNat : Int) = (z.toNat : Int) := ⟨_, rfl, u32_xor' a b⟩
theorem u32_or' (a b : UInt32) : bits .or .u32 (a.toNat : Int) (b.toNat : Int) = ((a ||| b).toNat : Int) := by
  rw [u32_or_nat _ _ a.toNat_lt b.toNat_lt, UInt32.toNat_or]
theorem u32_and' (a b : UInt32) : bits .and .u32 (a.toNat : Int) (b.toNat : Int) = ((a &&& b).toNat : Int) := by
  rw [u32_and_nat _ _ a.toNat_lt b.toNat_lt, UInt32.toNat_and]
theorem u8_xor' (a b : UInt8) : bits .xor .u8 (a.toNat : Int) (b.toNat : Int) = ((a ^^^ b).toNat : Int) := by
  rw [u8_xor_nat _ _ a.toNat_lt b.toNat_lt, UInt8.toNat_xor]
/-- A word turned to the left. -/
def rotl (x : UInt32) (r : Nat) : UInt32 := x <<< (UInt32.ofNat r) ||| x >>> (UInt32.ofNat (32 - r))

/-! ### a world, seen through what is known of it -/
theorem wp_abs {P : Program} {c : Code} {Q : Exit → Act → World → Prop} {a : Act} {w0 : World} (R : World → Prop) (h0 : R w0) (h : ∀ W, R W → c.wp P Q a W) : c.wp P Q a w0 := h _ h0

theorem calls_abs {P : Program} {f : FuncId} {args : Array Value} {w0 : World} {S : Ending → World → Prop} (R : World → Prop) (h0 : R w0) (h : ∀ W, R W → Calls P f args W S) : Calls P f args w0 S := h _ h0
theorem list_abs {P : Program} {ops : Array Oper} {l : List Oper} {Q : Exit → Act → World → Prop} {a : Act} {w0 : World} (R : World → Prop) (h0 : R w0) (h : ∀ W, R W → wpList P ops Q l a W) : wpList P ops Q l a w0 := h _ h0

theorem row_cell {w : World} {g : Nat} {cs : Array Value} {t : TypeId} {fr : Nat × Nat} (h : w.heap[g]? = some (.cells cs t fr)) (i : Nat) {v : Value} (hv : cs[i]? = some v) : w.cell? ⟨g, i, none⟩ = some v :=
  (cell_of_row w g i cs t fr h).trans hv
theorem row_free {w : World} {g : Nat} {cs : Array Value} {t : TypeId} (h : w.heap[g]? = some (.cells cs t (0, 0))) (i : Nat) : w.frozen? ⟨g, i, none⟩ = false := frozen_of_row w g i cs t h
theorem row_lt {w : World} {g : Nat} {o : Obj} (h : w.heap[g]? = some o) : g < w.heap.size := (Array.getElem?_eq_some_iff.1 h).1
theorem grown_set {w0 w : World} {g : Nat} (h : w0.grownBy w (some g)) (i : Nat) (v : Value) : w0.grownBy (w.setCell ⟨g, i, none⟩ v) (some g) :=
  World.grownBy.trans h ⟨rfl, rfl, rfl, by simp [World.setCell], fun k hk hne => Below.heap_setCell _ _ _ _ (fun e => hne (by rw [e]))⟩
theorem grown_drew {w0 w : World} {r : Option Nat} (h : w0.grownBy w r) : w0.grownBy w.drew r := ⟨h.os, h.tape, h.output, h.size, h.block⟩
theorem grown_drewN {w0 w : World} {r : Option Nat} (h : w0.grownBy w r) (n : Nat) : w0.grownBy (w.drewN n) r := ⟨h.os, h.tape, h.output, h.size, h.block⟩

theorem ha_new (w : World) (o : Obj) (k : Nat) (h : k = w.heap.size) : (w.alloc o).heap[k]? = some o := by subst h; exact heap_alloc_last w o
theorem ha_old (w : World) (o : Obj) (k : Nat) (h : k < w.heap.size) {x : Option Obj} (hx : w.heap[k]? = x) : (w.alloc o).heap[k]? = x := (Below.heap_alloc w o k h).trans hx
theorem ha_size (w : World) (o : Obj) : (w.alloc o).heap.size = w.heap.size + 1 := by simp
theorem below_block {B k : Nat} {w w' : World} {o : Obj} (h : Below B w w') (hk : k < B) (hx : w.heap[k]? = some o) : w'.heap[k]? = some o := (h.block k hk).trans hx
theorem grown_block {k : Nat} {w w' : World} {r : Option Nat} {o : Obj} (h : w.grownBy w' r) (hk : some k ≠ r) (hx : w.heap[k]? = some o) : w'.heap[k]? = some o := (h.block k (row_lt hx) hk).trans hx
theorem grown_below {w w' : World} {r : Option Nat} {B : Nat} (h : w.grownBy w' r) (hB : B ≤ w.heap.size) (hr : ∀ g, r = some g → B ≤ g) : Below B w w' :=
  ⟨h.os, h.tape, h.output, h.size, fun k hk => h.block k (Nat.lt_of_lt_of_le hk hB) (fun e => by have := hr k e.symm; omega)⟩
section
variable {P : Program} {ops : Array Oper} {rest : List Oper} {o : Oper} {a : Act} {Q : Exit → Act → World → Prop}
/-- A whole row into the block that was made last. -/
theorem wpList_store_new (hgd : o.guard = none) (hdst : o.dst = none) (ty : TypeId) (x y : Operand) (ho : o.op = .store ty x y) {w : World} {c : Array Value} {t : TypeId} (cells : Array Value)
    (hx : a.eval x = .pointer (some ⟨w.heap.size, 0, none⟩)) (hy : a.eval y = .agg cells) (hi : (P.info? ty).map (·.size) = some cells.size) (hold : c.size = cells.size) (h1 : cells.all (·.oneCell') = true)
    (h : wpList P ops Q rest a (w.alloc (.cells cells t))) : wpList P ops Q (o :: rest) a (w.alloc (.cells c t)) := by
  refine wpList_store_row hgd ty x y ho w.heap.size cells hx hy t c (heap_alloc_last w _) hi hold h1 ?_
  rw [World.setRow_alloc_new, hdst]
  exact h
/-- A whole row into a block that is known whole. -/
theorem wpList_store_whole (hgd : o.guard = none) (hdst : o.dst = none) (ty : TypeId) (x y : Operand) (ho : o.op = .store ty x y) {w : World}
    (g : Nat) (cells : Array Value) (hx : a.eval x = .pointer (some ⟨g, 0, none⟩)) (hy : a.eval y = .agg cells)
    (t : TypeId) (old : Array Value) (hg : w.heap[g]? = some (.cells old t (0, 0))) (hi : (P.info? ty).map (·.size) = some cells.size)
    (hold : old.size = cells.size) (h1 : cells.all (·.oneCell') = true)
    (h : ∀ w', w'.heap[g]? = some (.cells cells t (0, 0)) → w.grownBy w' (some g) → w'.heap.size = w.heap.size → wpList P ops Q rest a w') : wpList P ops Q (o :: rest) a w := by
  refine wpList_store_row hgd ty x y ho g cells hx hy t old hg hi hold h1 ?_
  rw [hdst]
  exact h _ (setRow_heap w g _ _ t _ hg) ⟨rfl, rfl, rfl, by simp, fun k hk hne => setRow_other w g k cells (fun e => hne (by rw [e]))⟩ (by simp)
end
theorem W8_one (l : List UInt8) : (W8 l).all (·.oneCell') = true := all_oneCell_toArray (by intro v hv; simp only [List.mem_map] at hv; obtain ⟨q, _, rfl⟩ := hv; rfl)
theorem W32_one (l : List UInt32) : (W32 l).all (·.oneCell') = true := all_oneCell_toArray (by intro v hv; simp only [List.mem_map] at hv; obtain ⟨q, _, rfl⟩ := hv; rfl)
theorem W64_one (l : List UInt64) : (W64 l).all (·.oneCell') = true := all_oneCell_toArray (by intro v hv; simp only [List.mem_map] at hv; obtain ⟨q, _, rfl⟩ := hv; rfl)

/-! ### a slice of bytes that is read -/
/-- The bytes l stand at A. -/
def RdB (w : World) (A : Option Addr) (l : List UInt8) : Prop := ∀ j, j < l.length → ∃ b o, A = some ⟨b, o, none⟩ ∧ w.cell? ⟨b, o + j, none⟩ = some (.int .u8 ((l.getD j 0).toNat : Int))
/-- .. in another block than g. -/
def Off (A : Option Addr) (g : Nat) : Prop := ∀ a, A = some a → a.block ≠ g
theorem RdB.get {w : World} {A : Option Addr} {l : List UInt8} (h : RdB w A l) (j : Nat) (hj : j < l.length) : ∃ b o, A = some ⟨b, o, none⟩ ∧ ∃ x : UInt8, Hid (x = l.getD j 0) ∧ w.cell? ⟨b, o + j, none⟩ = some (.int .u8 (x.toNat : Int)) := by
  obtain ⟨b, o, e, hc⟩ := h j hj
  exact ⟨b, o, e, _, rfl, hc⟩
theorem RdB.grown {w w' : World} {A : Option Addr} {l : List UInt8} {r : Option Nat} (h : RdB w A l) (hg : w.grownBy w' r) (hne : ∀ g, r = some g → Off A g) : RdB w' A l := by
  intro j hj
  obtain ⟨b, o, e, hc⟩ := h j hj
  exact ⟨b, o, e, hg.cell hc (fun er => hne b er.symm _ e rfl)⟩
theorem RdB.below {w w' : World} {A : Option Addr} {l : List UInt8} {B : Nat} (h : RdB w A l) (hb : Below B w w') (hlt : ∀ a, A = some a → a.block < B) : RdB w' A l := by
  intro j hj
  obtain ⟨b, o, e, hc⟩ := h j hj
  exact ⟨b, o, e, (hb.cell (p := ⟨b, o + j, none⟩) (hlt ⟨b, o, none⟩ e)).trans hc⟩
theorem RdB.nil (w : World) (A : Option Addr) : RdB w A [] := fun j hj => absurd hj (by simp)
theorem RdB.row {w : World} {g : Nat} {l : List UInt8} {t : TypeId} {fr : Nat × Nat} (h : w.heap[g]? = some (.cells (W8 l) t fr)) : RdB w (some ⟨g, 0, none⟩) l := fun j hj =>
  ⟨g, 0, rfl, by rw [Nat.zero_add]; exact row_cell h j (W8_get l j hj)⟩

/-! ### text out of bytes -/
def strB (l : List UInt8) : ByteArray := ⟨l.toArray⟩
theorem strOfNums_eq (l : List UInt8) : strOfNums (l.map fun x => (x.toNat : Int)) = strB l := by
  unfold strOfNums strB
  congr 2
  rw [List.map_map]
  conv => rhs; rw [← List.map_id l]
  apply List.map_congr_left
  intro x _
  simp
theorem conv_str {P : Program} {src dst e : TypeId} (hs : P.underlying src = some (.slice e)) (he : P.underlying e = some (.int .u8)) (hd : P.underlying dst = some .string) {w : World} {A : Option Addr} {l : List UInt8} (h : RdB w A l) (n c : Nat) (hn : l.length = n) :
    (convert src dst (.slice A n c)).run P w = .ok (.string (strB l)) w := by
  subst hn
  rcases l with _ | ⟨x, r⟩
  · rcases A with _ | ⟨b, o, sp⟩
    · exact run_convert_bytes_nil w src e hs he 0 c dst hd
    · simp only [List.length_nil]
      rw [run_convert_bytes_string w src dst e _ 0 c hs he hd]
      simp [Conv.bytesToString, strB, loadCells, loadCellsFrom]
      rfl
  · obtain ⟨b, o, rfl, hc⟩ := h 0 (by simp)
    have hh := run_convert_bytes_arg (P := P) w src e hs he b o (x :: r).length c ((x :: r).map fun x => (x.toNat : Int)) (by simp) (fun i hi => by
      obtain ⟨b', o', e', hc'⟩ := h i hi
      injection e' with e'
      injection e' with e1 e2
      subst e1 e2
      rw [hc', List.getD_eq_getElem?_getD, List.getD_eq_getElem?_getD, List.getElem?_map, List.getElem?_eq_getElem hi]
      rfl) dst hd
    rw [strOfNums_eq] at hh
    exact hh
theorem strB_inj {l l' : List UInt8} : strB l = strB l' ↔ l = l' := by
  constructor
  · intro h
    have : l.toArray = l'.toArray := congrArg ByteArray.data h
    simpa using this
  · rintro rfl; rfl

/-! ### rows of bytes of the call's own -/
def B8 (l : List UInt8) : List Value := l.map fun x => Value.int .u8 (x.toNat : Int)
theorem B8_length (l : List UInt8) : (B8 l).length = l.length := by simp [B8]
theorem B8_append (l l' : List UInt8) : B8 (l ++ l') = B8 l ++ B8 l' := by simp [B8]
theorem B8_get (l : List UInt8) (j : Nat) (hj : j < l.length) : (B8 l)[j]? = some (.int .u8 ((l.getD j 0).toNat : Int)) := by simp [B8, hj]
theorem B8_one (l : List UInt8) : ∀ u ∈ B8 l, u.oneCell' = true := by
  intro u hu
  simp only [B8, List.mem_map] at hu
  obtain ⟨x, _, rfl⟩ := hu
  rfl
def OwnB (w : World) (base : Nat) (v : Value) (l : List UInt8) : Prop := w.ownsRow base 5 1 v l.length (B8 l)
theorem add_at (b o j : Nat) : (⟨b, o, none⟩ : Addr).add j = ⟨b, o + j, none⟩ := by unfold Addr.add; split <;> simp_all
theorem OwnB.read {w : World} {base : Nat} {v : Value} {l : List UInt8} (h : OwnB w base v l) :
    ∃ A c, v = .slice A l.length c ∧ RdB w A l ∧ l.length ≤ c ∧ c ≤ 9223372036854775807 ∧ ∀ a, A = some a → base ≤ a.block ∧ a.block < w.heap.size := by
  have h' := h
  rcases h'.2 with ⟨hv, hn⟩ | ⟨g, cap, cur, hv, hb, hh, hnc, hcm, hcs, _⟩
  · exact ⟨none, 0, by rw [hv, hn], fun j hj => absurd hj (by omega), by omega, by omega, fun a e => by cases e⟩
  · refine ⟨_, cap, hv, fun j hj => ⟨g, 0, rfl, ?_⟩, hnc, by simpa [maxLen] using hcm, fun a e => by cases e; exact ⟨hb, row_lt hh⟩⟩
    have := h.cells (g := g) (by rw [hv]; rfl) j _ (B8_get l j hj)
    rwa [add_at] at this
theorem OwnB.nil (w : World) (base : Nat) : OwnB w base (.slice none 0 0) [] := World.ownsRow_nil _ _ _ _
theorem OwnB.alloc {w : World} {base : Nat} {v : Value} {l : List UInt8} (h : OwnB w base v l) (o : Obj) : OwnB (w.alloc o) base v l := World.ownsRow.alloc h o
theorem OwnB.drew {w : World} {base : Nat} {v : Value} {l : List UInt8} (h : OwnB w base v l) : OwnB w.drew base v l := World.ownsRow.drew h
theorem OwnB.lt {w : World} {base : Nat} {v : Value} {l : List UInt8} (h : OwnB w base v l) : ∀ k, v.ownBlock = some k → base ≤ k ∧ k < w.heap.size := World.ownsRow.lt h
theorem OwnB.grown {w w' : World} {base : Nat} {v : Value} {l : List UInt8} {r : Option Nat} (h : OwnB w base v l) (hg : w.grownBy w' r) (hne : v.ownBlock = none ∨ v.ownBlock ≠ r) : OwnB w' base v l := World.ownsRow.kept h hg hne
theorem grown_of_below {w w' : World} (h : Below w.heap.size w w') : w.grownBy w' none := ⟨h.os, h.tape, h.output, h.size, fun i hi _ => h.block i hi⟩
theorem OwnB.below {w w' : World} {base : Nat} {v : Value} {l : List UInt8} (h : OwnB w base v l) (hb : Below w.heap.size w w') : OwnB w' base v l := h.grown (grown_of_below hb) (by cases v.ownBlock <;> simp)
theorem OwnB.mono {w : World} {base base' : Nat} {v : Value} {l : List UInt8} (h : OwnB w base v l) (hb : base' ≤ base) : OwnB w base' v l := by
  refine ⟨h.1, ?_⟩
  rcases h.2 with h2 | ⟨g, cap, cur, hv, hg, r⟩
  · exact .inl h2
  · exact .inr ⟨g, cap, cur, hv, Nat.le_trans hb hg, r⟩
/-- What is behind a step of a region is known of the appended row: itself, or a new one. -/
def AtOrNew (v v1 : Value) (W : World) : Prop := v1.ownBlock = v.ownBlock ∨ v1.ownBlock = some W.heap.size
/-- The []byte's and the byte's rows of the program's table. -/
structure ByteT (P : Program) : Prop where
  ht : P.underlying 22 = some (.slice 5)
  hinfo : (P.info? 5).map (fun i => (i.zero, i.size, i.bytes)) = some (some (.int .u8 0), 1, 1)
/-- append(v, ys...): the run. -/
theorem run_app {P : Program} (T : ByteT P) (ty : TypeId) (W : World) (base : Nat) (v : Value) (l ys : List UInt8) (A : Option Addr) (m c : Nat) (hm : ys.length = m) (HO : OwnB W base v l) (HR : RdB W A ys) (hbase : base ≤ W.heap.size) (hl : l.length + m ≤ 140737488355328) :
    ∃ v1 w1, (Builtin.append_ #[22, 22] ty #[v, .slice A m c]).run P W = .ok v1 w1 ∧ OwnB w1 base v1 (l ++ ys) ∧ W.grownBy w1 v.ownBlock ∧ (v1.ownBlock = v.ownBlock ∨ v1.ownBlock = some W.heap.size) := by
  obtain ⟨i0, hi, hzz⟩ := Option.map_eq_some_iff.1 T.hinfo
  simp only [Prod.mk.injEq] at hzz
  obtain ⟨hz0, hz1, hz2⟩ := hzz
  have ht := T.ht
  subst hm
  rcases ys with _ | ⟨y, r⟩
  · rcases A with _ | ad
    · refine ⟨v, W, ?_, by simpa using HO, World.grownBy.refl W _, .inl rfl⟩
      rcases HO.2 with ⟨rfl, hn⟩ | ⟨g, cap, cur, rfl, _, _, hnc, _⟩
      · simp [Builtin.append_, run_underlying ht, sizeOf, typeInfo, hi, Builtin.lenOf, Builtin.firstCells]
      · simp [Builtin.append_, run_underlying ht, sizeOf, typeInfo, hi, Builtin.lenOf, Builtin.firstCells, hnc, storeCells]
    · obtain ⟨v1, w1, hr, h2, h3, _, h5⟩ := run_append_own_at (P := P) W base 22 ty 5 i0 (.int .u8 0) 1 1 ht hi hz0 hz1 hz2 rfl (by omega) v l.length (B8 l) HO ad 0 c [] (by simp) (by simp) (by simp) (by simp only [maxLen]; omega) (by omega) hbase
      exact ⟨v1, w1, hr, by simpa [OwnB] using h2, h3, h5⟩
  · obtain ⟨b, o, rfl, _⟩ := HR 0 (by simp)
    obtain ⟨v1, w1, hr, h2, h3, _, h5⟩ := run_append_own_at (P := P) W base 22 ty 5 i0 (.int .u8 0) 1 1 ht hi hz0 hz1 hz2 rfl (by omega) v l.length (B8 l) HO ⟨b, o, none⟩ (y :: r).length c (B8 (y :: r)) (by simp [B8])
      (fun j u hu => by
        have hj : j < (y :: r).length := by
          have := (List.getElem?_eq_some_iff.1 hu).1
          rwa [B8_length] at this
        obtain ⟨b', o', e', hc'⟩ := HR j hj
        injection e' with e'
        injection e' with e1 e2
        subst e1 e2
        rw [add_at, hc', ← B8_get _ j hj, hu]) (B8_one _) (by simp only [maxLen]; omega) (by omega) hbase
    refine ⟨v1, w1, hr, ?_, h3, h5⟩
    rw [OwnB, List.length_append, B8_append]
    exact h2
section
variable {P : Program} {ops : Array Oper} {rest : List Oper} {o : Oper} {a : Act} {Q : Exit → Act → World → Prop} {K : Act → World → Prop} {E : Prop}
theorem app_wp (T : ByteT P) (s x : Operand) (ho : o.op = .call { callee := .builtin .append, args := #[s, x], argTypes := #[22, 22] }) {W : World}
    (base : Nat) (v : Value) (l ys : List UInt8) (A : Option Addr) (m c : Nat) (hs : a.eval s = v) (hx : a.eval x = .slice A m c) (hm : ys.length = m) (HO : OwnB W base v l) (HR : RdB W A ys) (hbase : base ≤ W.heap.size) (hl : l.length + m ≤ 140737488355328)
    (h : ∀ v1 w1, OwnB w1 base v1 (l ++ ys) → W.grownBy w1 v.ownBlock → (v1.ownBlock = v.ownBlock ∨ v1.ownBlock = some W.heap.size) → K (a.put o.dst v1) w1) : o.wp P a W K Q := by
  obtain ⟨v1, w1, hr, h2, h3, h5⟩ := run_app T o.type W base v l ys A m c hm HO HR hbase hl
  unfold Oper.wp execOp
  simp only [ho, resolve, invoke, builtin, Sem.run_bind, Sem.run_pure, Result.andThen_ok, List.map_toArray, List.map_cons, List.map_nil, hs, hx, hr]
  exact h v1 w1 h2 h3 h5
/-- append(v, ys...) at a list of operations. -/
theorem app_list (hgd : o.guard = none) (T : ByteT P) (s x : Operand) (ho : o.op = .call { callee := .builtin .append, args := #[s, x], argTypes := #[22, 22] }) {W : World}
    (base : Nat) (v : Value) (l ys : List UInt8) (A : Option Addr) (m c : Nat) (hs : a.eval s = v) (hx : a.eval x = .slice A m c) (hm : ys.length = m) (HO : OwnB W base v l) (HR : RdB W A ys) (hbase : base ≤ W.heap.size) (hl : l.length + m ≤ 140737488355328)
    (h : ∀ v1 w1, OwnB w1 base v1 (l ++ ys) → W.grownBy w1 v.ownBlock → (v1.ownBlock = v.ownBlock ∨ v1.ownBlock = some W.heap.size) → wpList P ops Q rest (a.put o.dst v1) w1) : wpList P ops Q (o :: rest) a W :=
  wpList_plain hgd fun _ hK => app_wp T s x ho base v l ys A m c hs hx hm HO HR hbase hl (fun v1 w1 h1 h2 h3 => hK _ _ (h v1 w1 h1 h2 h3))
/-- .. at a step of a region that draws. -/
theorem app_step (hgd : o.guard = none) (T : ByteT P) (s x : Operand) (ho : o.op = .call { callee := .builtin .append, args := #[s, x], argTypes := #[22, 22] }) {W : World}
    (base : Nat) (v : Value) (l ys : List UInt8) (A : Option Addr) (m c : Nat) (hs : a.eval s = v) (hx : a.eval x = .slice A m c) (hm : ys.length = m) (HO : OwnB W base v l) (HR : RdB W A ys) (hbase : base ≤ W.heap.size) (hl : l.length + m ≤ 140737488355328)
    (h : ∀ v1 w1, OwnB w1 base v1 (l ++ ys) → W.grownBy w1 v.ownBlock → (v1.ownBlock = v.ownBlock ∨ v1.ownBlock = some W.heap.size) → K (a.put o.dst v1) w1) : if Region.wanted o (yielded ops a.tmps) = true then Oper.wp P o a W K Q else E := by
  rw [if_pos (by simp [Region.wanted, hgd])]
  exact app_wp T s x ho base v l ys A m c hs hx hm HO HR hbase hl h
end
theorem RdB.one {w : World} {b : Nat} {y : UInt8} (h : w.cell? ⟨b, 0, none⟩ = some (.int .u8 (y.toNat : Int))) : RdB w (some ⟨b, 0, none⟩) [y] := by
  intro j hj
  obtain rfl : j = 0 := by simp at hj; omega
  exact ⟨b, 0, rfl, h⟩
/-- What 'xs[m:]' tells, without a case on the capacity. -/
theorem cut_from {P : Program} (t e : TypeId) {i : TypeInfo} (ht : P.underlying t = some (.slice e)) (hi : P.info? e = some i) (hsz : i.size = 1) (A : Option Addr) (n c m : Nat) (hm : m ≤ n) :
    ∃ A' : Option Addr, (∀ W : World, (Instr.slice t (.slice A n c) (some (.int .i64 (m : Int))) none none).run P W = .ok (.slice A' (n - m) (c - m)) W) ∧
      (∀ (w : World) (l : List UInt8), l.length = n → n ≤ c → RdB w A l → RdB w A' (l.drop m)) ∧ (∀ a', A' = some a' → ∃ a, A = some a ∧ a'.block = a.block) := by
  refine ⟨if c = m then A else A.map (·.add m), fun W => ?_, fun w l hl hc h => ?_, fun a' ha' => ?_⟩
  · have hel : P.elem t = e := by simp [Program.elem, ht]
    have hu : P.underlying t = some (.slice (P.elem t)) := by rw [hel]; exact ht
    rw [run_slice_l W t A n c hu .i64 (m : Int) (Int.natCast_nonneg _) (by omega), hel]
    simp [sizeOf, typeInfo, hi, hsz, sliced, Result.andThen]
  · intro j hj
    have hj' : m + j < l.length := by simp at hj; omega
    obtain ⟨b, o, rfl, hcell⟩ := h (m + j) hj'
    rw [if_neg (by omega)]
    refine ⟨b, o + m, by simp [add_at], ?_⟩
    rw [Nat.add_assoc, hcell]
    simp [List.getD_eq_getElem?_getD, List.getElem?_drop]
  · split at ha'
    · exact ⟨a', ha', rfl⟩
    · rcases A with _ | ⟨b, o, sp⟩
      · simp at ha'
      · simp at ha'
        subst ha'
        refine ⟨_, rfl, ?_⟩
        unfold Addr.add
        split <;> rfl
theorem RdB.take {w : World} {A : Option Addr} {l : List UInt8} (h : RdB w A l) (m : Nat) : RdB w A (l.take m) := by
  intro j hj
  simp at hj
  obtain ⟨b, o, e, hc⟩ := h j (by omega)
  exact ⟨b, o, e, by
    rw [hc]
    have h1 : j < m := by omega
    simp [List.getD_eq_getElem?_getD, List.getElem?_take, h1]⟩
theorem cell_alloc {w : World} {a : Addr} {v : Value} (h : w.cell? a = some v) (o : Obj) : (w.alloc o).cell? a = some v := by
  rw [World.cell?_alloc_lt _ _ _ (World.block_lt_of_cell? w a h)]
  exact h
theorem cell_grown {w w' : World} {r : Option Nat} {a : Addr} {v : Value} (hg : w.grownBy w' r) (h : w.cell? a = some v) (hr : ∀ g, r = some g → a.block ≠ g) : w'.cell? a = some v :=
  hg.cell h (fun e => hr _ e.symm rfl)
theorem made_W8 (n : Nat) : madeCells #[Value.int .u8 0] n = W8 (List.replicate n 0) := by
  rw [← Array.toArray_toList (xs := madeCells #[Value.int .u8 0] n), toList_madeCells_one]
  simp [W8]
theorem run_load_row {P : Program} {o : Oper} {a : Act} {w : World} (ty : TypeId) (x : Operand) (ho : o.op = .load ty x)
    (g : Nat) (hx : a.eval x = .pointer (some ⟨g, 0, none⟩)) (t : TypeId) (cs : Array Value) (fr : Nat × Nat) (d : TypeDesc) (hg : w.heap[g]? = some (.cells cs t fr))
    (hu : P.underlying ty = some d) (hd : (match d with | .struct _ | .array _ _ => true | _ => false) = true) (hi : (P.info? ty).map (·.size) = some cs.size) : (execOp a.eval o).run P w = .ok (.value (.agg cs)) w := by
  unfold execOp
  simp only [ho, hx, Instr.loadAt, Instr.sureAddr, Sem.run_bind, Sem.run_pure, Result.andThen_ok, run_loadVar_row w g t ty cs fr d hg hu hd hi]
/-- A slot's length, for a loop's measure. -/
def lenOf : Value → Nat
  | .slice _ n _ => n
  | _ => 0
end Go.Proofs.YtlocplkjokoknaaGreat

/- A region that draws its order, walked once: what only reads is taken first, in every world that keeps what was there; what is left comes up one by one. No condition but those each theorem states. -/
namespace Go.Proofs.YtlocplkjokoknaaGreat
set_option linter.unusedVariables false
set_option linter.unusedSimpArgs false
open Go.RowKit

section
variable {P : Program} {ops : Array Oper} {Q : Exit → Act → World → Prop} {S : World → Prop}
/-- Do these come up alone, one by one? -/
def planTB (ops : Array Oper) : List Nat → Array Bool → Bool
  | i :: T, L => (ops[i]?).isSome && (match Region.ready .any ops L with | [j] => Nat.beq j i | _ => false) && planTB ops T (L.setIfInBounds i true)
  | [], L => (Region.ready .any ops L).isEmpty
/-- May these be taken first, one by one, and do those then come up alone, one by one? -/
def planB (ops : Array Oper) : List Nat → List Nat → Array Bool → Bool
  | i :: H, T, L => (ops[i]?).isSome && Region.free .any ops L i && (Region.ready .any ops L).contains i && planB ops H T (L.setIfInBounds i true)
  | [], T, L => planTB ops T L
/-- What is left, one by one. -/
def planT (P : Program) (ops : Array Oper) (Q : Exit → Act → World → Prop) (S : World → Prop) : List Oper → Act → World → Prop
  | [], a, w => Q .normal a w
  | o :: rest, a, w => if Region.wanted o (yielded ops a.tmps) = true then o.wp P a w (fun a' w' => S w' ∧ planT P ops Q S rest a' w') Q else S w ∧ planT P ops Q S rest (a.put o.dst undef) w
/-- What is taken first. -/
def planQ (P : Program) (ops : Array Oper) (S : World → Prop) (R : Act → Prop) : List Oper → Act → Prop
  | [], a => R a
  | o :: rest, a => ∃ v, YieldsIf P ops S o v a ∧ planQ P ops S R rest (a.put o.dst v)

theorem planT_sound : ∀ (T : List Nat) (fuel : Nat) (L : Array Bool) (a : Act) (w : World), T.length ≤ fuel → planTB ops T L = true →
    planT P ops Q S (T.filterMap fun i => ops[i]?) a w → wpAnyH P .any ops Q S fuel L a w
  | [], fuel, L, a, w, _, hB, h => by
    simp only [planTB, List.isEmpty_iff] at hB
    exact wpAnyH_done hB h fuel
  | i :: T, fuel, L, a, w, hf, hB, h => by
    simp only [planTB, Bool.and_eq_true] at hB
    obtain ⟨⟨hi, hr0⟩, hB'⟩ := hB
    have hr : Region.ready .any ops L = [i] := by
      split at hr0
      · rename_i j hj
        rw [hj, Nat.eq_of_beq_eq_true hr0]
      · cases hr0
    obtain ⟨o, ho⟩ := Option.isSome_iff_exists.1 hi
    obtain ⟨fuel, rfl⟩ : ∃ m, fuel = m + 1 := ⟨fuel - 1, by simp at hf; omega⟩
    have e : (i :: T).filterMap (fun i => ops[i]?) = o :: T.filterMap fun i => ops[i]? := by simp [ho]
    rw [e] at h
    refine wpAnyH_all hr (by simp) ?_
    intro j hj
    obtain rfl : j = i := by simpa using hj
    unfold wpOp
    simp only [ho]
    unfold planT at h
    split
    · rename_i hw
      rw [if_pos hw] at h
      refine .inl ?_
      exact Oper.wp_mono (fun a' w' hh => ⟨hh.1, planT_sound T fuel _ a' w' (by simp at hf; omega) hB' hh.2⟩) h
    · rename_i hw
      rw [if_neg hw] at h
      exact ⟨h.1, planT_sound T fuel _ _ w (by simp at hf; omega) hB' h.2⟩
theorem planQ_sound (hQ : ∀ c a d v w, Q (.panic c) (Act.put a d v) w → Q (.panic c) a w) (hs : Region.noSelect ops = true) (T : List Nat) (w : World) (hS : S w) : ∀ (H : List Nat) (fuel : Nat) (L : Array Bool) (a : Act), H.length + T.length ≤ fuel → planB ops H T L = true →
    planQ P ops S (fun a' => planT P ops Q S (T.filterMap fun i => ops[i]?) a' w) (H.filterMap fun i => ops[i]?) a → wpAnyH P .any ops Q S fuel L a w
  | [], fuel, L, a, hf, hB, h => planT_sound T fuel L a w (by simpa using hf) hB h
  | i :: H, fuel, L, a, hf, hB, h => by
    simp only [planB, Bool.and_eq_true] at hB
    obtain ⟨⟨⟨hi, hfr⟩, hr⟩, hB'⟩ := hB
    obtain ⟨o, ho⟩ := Option.isSome_iff_exists.1 hi
    obtain ⟨fuel, rfl⟩ : ∃ m, fuel = m + 1 := ⟨fuel - 1, by simp at hf; omega⟩
    have e : (i :: H).filterMap (fun i => ops[i]?) = o :: H.filterMap fun i => ops[i]? := by simp [ho]
    rw [e] at h
    obtain ⟨v, hy, h'⟩ := h
    exact wpAnyH_take ho hs hfr hr (fun c a w hh => hQ c a _ _ w hh) hy hS (planQ_sound hQ hs T w hS H fuel _ _ (by simp at hf ⊢; omega) hB' h')
/-- THE LAW. -/
theorem wp_region_plan {id : Nat} {l : List Oper} {a : Act} {w : World} (S : World → Prop) (H T : List Nat) (hm : P.follows .mixedOrders = true)
    (hB : (planB l.toArray H T (Array.replicate l.toArray.size false) && Region.noSelect l.toArray && Nat.ble (H.length + T.length) l.toArray.size) = true)
    (hQ : ∀ c a d v w, Q (.panic c) (Act.put a d v) w → Q (.panic c) a w) (hS : S w.drew)
    (h : planQ P l.toArray S (fun a' => planT P l.toArray Q S (T.filterMap fun i => l.toArray[i]?) a' w.drew) (H.filterMap fun i => l.toArray[i]?) a) : (Code.region id l.toArray true).wp P Q a w := by
  simp only [Bool.and_eq_true] at hB
  exact wp_region_held hm (planQ_sound hQ hB.1.2 T w.drew hS H _ _ a (Nat.le_of_ble_eq_true hB.2) hB.1.1 h)
theorem planQ_cons {R : Act → Prop} {o : Oper} {rest : List Oper} {a : Act} {v : Value} (hw : Region.wanted o (yielded ops a.tmps) = true) (hy : ∀ w, S w → (execOp a.eval o).run P w = .ok (.value v) w) (h : planQ P ops S R rest (a.put o.dst v)) : planQ P ops S R (o :: rest) a := ⟨v, .inl ⟨hw, hy⟩, h⟩
theorem planQ_skip {R : Act → Prop} {o : Oper} {rest : List Oper} {a : Act} (hw : Region.wanted o (yielded ops a.tmps) = false) (h : planQ P ops S R rest (a.put o.dst undef)) : planQ P ops S R (o :: rest) a := ⟨undef, .inr ⟨hw, rfl⟩, h⟩
theorem planQ_nil {R : Act → Prop} {a : Act} (h : R a) : planQ P ops S R [] a := h
/-- An operation that is left, what follows behind a variable. -/
theorem planT_cons {o : Oper} {rest : List Oper} {a : Act} {w : World} (hw : Region.wanted o (yielded ops a.tmps) = true)
    (h : ∀ K : Act → World → Prop, Hid (∀ a w, S w → planT P ops Q S rest a w → K a w) → o.wp P a w K Q) : planT P ops Q S (o :: rest) a w := by
  unfold planT
  rw [if_pos hw]
  exact h _ (fun a w h1 h2 => ⟨h1, h2⟩)
theorem planT_skip {o : Oper} {rest : List Oper} {a : Act} {w : World} (hw : Region.wanted o (yielded ops a.tmps) = false) (hS : S w) (h : planT P ops Q S rest (a.put o.dst undef) w) : planT P ops Q S (o :: rest) a w := by
  unfold planT
  rw [if_neg (by rw [hw]; simp)]
  exact ⟨hS, h⟩
/-- An operation that is left and yields its value where it stands. -/
theorem planT_val {o : Oper} {rest : List Oper} {a : Act} {w : World} {v : Value} (hw : Region.wanted o (yielded ops a.tmps) = true) (hS : S w) (hy : (execOp a.eval o).run P w = .ok (.value v) w) (h : planT P ops Q S rest (a.put o.dst v) w) : planT P ops Q S (o :: rest) a w := by
  unfold planT
  rw [if_pos hw]
  unfold Oper.wp
  rw [hy]
  exact ⟨hS, h⟩
theorem planT_nil {a : Act} {w : World} (h : Q .normal a w) : planT P ops Q S [] a w := h
end
end Go.Proofs.YtlocplkjokoknaaGreat

/- A region that draws its order, walked once along one road: what only reads is taken as it comes, in every world of a class that may grow narrower on the way; what is left comes up alone. No condition but those each theorem states. -/
namespace Go.Proofs.YtlocplkjokoknaaGreat
set_option linter.unusedVariables false
set_option linter.unusedSimpArgs false
open Go.RowKit

section
variable {P : Program} {ops : Array Oper} {Q : Exit → Act → World → Prop} {S : World → Prop}
theorem wpAnyH_narrow {md : Region.Mode} {S' : World → Prop} (hSS : ∀ w, S' w → S w) : ∀ (fuel : Nat) (L : Array Bool) (a : Act) (w : World), wpAnyH P md ops Q S' fuel L a w → wpAnyH P md ops Q S fuel L a w
  | 0, _, _, _, h => h
  | fuel + 1, _, _, _, h => ⟨h.1, fun i hi => wpOp_mono (fun a' w' h' => ⟨hSS _ h'.1, wpAnyH_narrow hSS fuel _ a' w' h'.2⟩) (h.2 i hi)⟩
/-- May this road be taken? -/
def planGB (ops : Array Oper) : List (Bool × Nat) → Array Bool → Bool
  | [], L => (Region.ready .any ops L).isEmpty
  | (true, i) :: T, L => (ops[i]?).isSome && Region.free .any ops L i && (Region.ready .any ops L).contains i && planGB ops T (L.setIfInBounds i true)
  | (false, i) :: T, L => (ops[i]?).isSome && (match Region.ready .any ops L with | [j] => Nat.beq j i | _ => false) && planGB ops T (L.setIfInBounds i true)
/-- The road. -/
def planG (P : Program) (ops : Array Oper) (Q : Exit → Act → World → Prop) : (World → Prop) → List (Bool × Oper) → Act → World → Prop
  | _, [], a, w => Q .normal a w
  | S, (true, o) :: r, a, w => ∃ S' : World → Prop, (∀ w, S' w → S w) ∧ S' w ∧ ∃ v, YieldsIf P ops S' o v a ∧ planG P ops Q S' r (a.put o.dst v) w
  | S, (false, o) :: r, a, w => ∃ S' : World → Prop, (∀ w, S' w → S w) ∧ if Region.wanted o (yielded ops a.tmps) = true then o.wp P a w (fun a' w' => S' w' ∧ planG P ops Q S' r a' w') Q else S' w ∧ planG P ops Q S' r (a.put o.dst undef) w
theorem planG_sound (hQ : ∀ c a d v w, Q (.panic c) (Act.put a d v) w → Q (.panic c) a w) (hs : Region.noSelect ops = true) : ∀ (T : List (Bool × Nat)) (S : World → Prop) (fuel : Nat) (L : Array Bool) (a : Act) (w : World), T.length ≤ fuel → planGB ops T L = true →
    planG P ops Q S (T.filterMap fun i => (ops[i.2]?).map fun o => (i.1, o)) a w → wpAnyH P .any ops Q S fuel L a w
  | [], S, fuel, L, a, w, _, hB, h => by
    simp only [planGB, List.isEmpty_iff] at hB
    exact wpAnyH_done hB h fuel
  | (true, i) :: T, S, fuel, L, a, w, hf, hB, h => by
    simp only [planGB, Bool.and_eq_true] at hB
    obtain ⟨⟨⟨hi, hfr⟩, hr⟩, hB'⟩ := hB
    obtain ⟨o, ho⟩ := Option.isSome_iff_exists.1 hi
    obtain ⟨fuel, rfl⟩ : ∃ m, fuel = m + 1 := ⟨fuel - 1, by simp at hf; omega⟩
    have e : ((true, i) :: T).filterMap (fun i => (ops[i.2]?).map fun o => (i.1, o)) = (true, o) :: T.filterMap fun i => (ops[i.2]?).map fun o => (i.1, o) := by simp [ho]
    rw [e] at h
    obtain ⟨S', hSS, hS, v, hy, h'⟩ := h
    exact wpAnyH_narrow hSS _ _ _ _ (wpAnyH_take ho hs hfr hr (fun c a w hh => hQ c a _ _ w hh) hy hS (planG_sound hQ hs T S' fuel _ _ w (by simp at hf ⊢; omega) hB' h'))
  | (false, i) :: T, S, fuel, L, a, w, hf, hB, h => by
    simp only [planGB, Bool.and_eq_true] at hB
    obtain ⟨⟨hi, hr0⟩, hB'⟩ := hB
    have hr : Region.ready .any ops L = [i] := by
      split at hr0
      · rename_i j hj
        rw [hj, Nat.eq_of_beq_eq_true hr0]
      · cases hr0
    obtain ⟨o, ho⟩ := Option.isSome_iff_exists.1 hi
    obtain ⟨fuel, rfl⟩ : ∃ m, fuel = m + 1 := ⟨fuel - 1, by simp at hf; omega⟩
    have e : ((false, i) :: T).filterMap (fun i => (ops[i.2]?).map fun o => (i.1, o)) = (false, o) :: T.filterMap fun i => (ops[i.2]?).map fun o => (i.1, o) := by simp [ho]
    rw [e] at h
    obtain ⟨S', hSS, h⟩ := h
    refine wpAnyH_narrow hSS _ _ _ _ (wpAnyH_all hr (by simp) ?_)
    intro j hj
    obtain rfl : j = i := by simpa using hj
    unfold wpOp
    simp only [ho]
    split
    · rename_i hw
      rw [if_pos hw] at h
      refine .inl ?_
      exact Oper.wp_mono (fun a' w' hh => ⟨hh.1, planG_sound hQ hs T S' fuel _ a' w' (by simp at hf; omega) hB' hh.2⟩) h
    · rename_i hw
      rw [if_neg hw] at h
      exact ⟨h.1, planG_sound hQ hs T S' fuel _ _ w (by simp at hf; omega) hB' h.2⟩
/-- THE LAW. -/
theorem wp_region_road {id : Nat} {l : List Oper} {a : Act} {w : World} (S : World → Prop) (T : List (Bool × Nat)) (hm : P.follows .mixedOrders = true)
    (hB : (planGB l.toArray T (Array.replicate l.toArray.size false) && Region.noSelect l.toArray && Nat.ble T.length l.toArray.size) = true)
    (hQ : ∀ c a d v w, Q (.panic c) (Act.put a d v) w → Q (.panic c) a w)
    (h : planG P l.toArray Q S (T.filterMap fun i => (l.toArray[i.2]?).map fun o => (i.1, o)) a w.drew) : (Code.region id l.toArray true).wp P Q a w := by
  simp only [Bool.and_eq_true] at hB
  exact wp_region_held hm (planG_sound hQ hB.1.2 T S _ _ a w.drew (Nat.le_of_ble_eq_true hB.2) hB.1.1 h)
theorem planG_q {o : Oper} {rest : List (Bool × Oper)} {a : Act} {w : World} {v : Value} (hw : Region.wanted o (yielded ops a.tmps) = true) (hS : S w) (hy : ∀ w, S w → (execOp a.eval o).run P w = .ok (.value v) w) (h : planG P ops Q S rest (a.put o.dst v) w) : planG P ops Q S ((true, o) :: rest) a w := ⟨S, fun _ h => h, hS, v, .inl ⟨hw, hy⟩, h⟩
theorem planG_qs {o : Oper} {rest : List (Bool × Oper)} {a : Act} {w : World} (hw : Region.wanted o (yielded ops a.tmps) = false) (hS : S w) (h : planG P ops Q S rest (a.put o.dst undef) w) : planG P ops Q S ((true, o) :: rest) a w := ⟨S, fun _ h => h, hS, undef, .inr ⟨hw, rfl⟩, h⟩
/-- The class grows narrower. -/
theorem planG_sw (S' : World → Prop) {l : List (Bool × Oper)} {a : Act} {w : World} (hSS : ∀ w, S' w → S w) (h : planG P ops Q S' l a w) : planG P ops Q S l a w := by
  rcases l with _ | ⟨⟨_ | _, o⟩, r⟩
  · exact h
  · obtain ⟨T, h1, h2⟩ := h
    exact ⟨T, fun w h => hSS w (h1 w h), h2⟩
  · obtain ⟨T, h1, h2⟩ := h
    exact ⟨T, fun w h => hSS w (h1 w h), h2⟩
/-- An operation that is left; what follows stands behind a variable. -/
theorem planG_t {o : Oper} {rest : List (Bool × Oper)} {a : Act} {w : World} (hw : Region.wanted o (yielded ops a.tmps) = true)
    (h : ∀ K : Act → World → Prop, Hid (∀ a w, S w → planG P ops Q S rest a w → K a w) → o.wp P a w K Q) : planG P ops Q S ((false, o) :: rest) a w := by
  refine ⟨S, fun _ h => h, ?_⟩
  rw [if_pos hw]
  exact h _ (fun a w h1 h2 => ⟨h1, h2⟩)
theorem planG_ts {o : Oper} {rest : List (Bool × Oper)} {a : Act} {w : World} (hw : Region.wanted o (yielded ops a.tmps) = false) (hS : S w) (h : planG P ops Q S rest (a.put o.dst undef) w) : planG P ops Q S ((false, o) :: rest) a w := by
  refine ⟨S, fun _ h => h, ?_⟩
  rw [if_neg (by rw [hw]; simp)]
  exact ⟨hS, h⟩
theorem planG_tv {o : Oper} {rest : List (Bool × Oper)} {a : Act} {w : World} {v : Value} (hw : Region.wanted o (yielded ops a.tmps) = true) (hS : S w) (hy : (execOp a.eval o).run P w = .ok (.value v) w) (h : planG P ops Q S rest (a.put o.dst v) w) : planG P ops Q S ((false, o) :: rest) a w := by
  refine ⟨S, fun _ h => h, ?_⟩
  rw [if_pos hw]
  unfold Oper.wp
  rw [hy]
  exact ⟨hS, h⟩
theorem planG_nil {a : Act} {w : World} (h : Q .normal a w) : planG P ops Q S [] a w := h
end
end Go.Proofs.YtlocplkjokoknaaGreat

/- Rows of bytes cut, and text of bytes, as single operations. No condition. -/
namespace Go.Proofs.YtlocplkjokoknaaGreat
set_option linter.unusedVariables false
set_option linter.unusedSimpArgs false
open Go.RowKit
set_option linter.unusedSimpArgs false

/-- 'xs[:m]'. -/
theorem cut_to {P : Program} (t e : TypeId) {i : TypeInfo} (ht : P.underlying t = some (.slice e)) (hi : P.info? e = some i) (hsz : i.size = 1) (A : Option Addr) (n c m : Nat) (hm : m ≤ c) (W : World) :
    (Instr.slice t (.slice A n c) none (some (.int .i64 (m : Int))) none).run P W = .ok (.slice A m c) W := by
  have hel : P.elem t = e := by simp [Program.elem, ht]
  have hu : P.underlying t = some (.slice (P.elem t)) := by rw [hel]; exact ht
  rw [run_slice_h W t A n c hu .i64 (m : Int) (Int.natCast_nonneg _) (by omega), hel]
  simp only [sizeOf, typeInfo, hi, hsz, sliced, Result.andThen]
  rcases A with _ | ⟨b, o, sp⟩
  · simp [Sem.run_pure, hi, hsz, Result.andThen]
  · simp [Sem.run_pure, hi, hsz, Result.andThen, Addr.add]
    try (cases sp <;> simp)
theorem run_cut_to {P : Program} {o : Oper} {a : Act} (ty : TypeId) (x h : Operand) (ho : o.op = .slice ty x none (some h) none) (e : TypeId) {i : TypeInfo} (ht : P.underlying ty = some (.slice e)) (hi : P.info? e = some i) (hsz : i.size = 1)
    (A : Option Addr) (n c m : Nat) (hx : a.eval x = .slice A n c) (hh : a.eval h = .int .i64 (m : Int)) (hm : m ≤ c) (W : World) : (execOp a.eval o).run P W = .ok (.value (.slice A m c)) W := by
  unfold execOp
  simp only [ho, hx, Option.map_some, Option.map_none, hh, Instr.sliceAt, Sem.run_bind, Sem.run_pure, run_underlying ht, Result.andThen_ok, cut_to ty e ht hi hsz A n c m hm W, Result.andThen_ok]
/-- 'xs[m:h]'. -/
theorem cut_mid {P : Program} (t e : TypeId) {i : TypeInfo} (ht : P.underlying t = some (.slice e)) (hi : P.info? e = some i) (hsz : i.size = 1) (A : Option Addr) (n c m h : Nat) (hm : m ≤ h) (hh : h ≤ n) (hc : n ≤ c) :
    ∃ A' : Option Addr, (∀ W : World, (Instr.slice t (.slice A n c) (some (.int .i64 (m : Int))) (some (.int .i64 (h : Int))) none).run P W = .ok (.slice A' (h - m) (c - m)) W) ∧
      (∀ (w : World) (l : List UInt8), l.length = n → RdB w A l → RdB w A' ((l.drop m).take (h - m))) ∧ (∀ a', A' = some a' → ∃ a, A = some a ∧ a'.block = a.block) := by
  have hel : P.elem t = e := by simp [Program.elem, ht]
  have hu : P.underlying t = some (.slice (P.elem t)) := by rw [hel]; exact ht
  obtain ⟨A', h1, h2, h3⟩ := cut_from (P := P) t e ht hi hsz A n c m (by omega)
  refine ⟨A', fun W => ?_, fun w l hl hR => (h2 w l hl hc hR).take _, h3⟩
  have h1' := h1 W
  rw [run_slice_l W t A n c hu .i64 (m : Int) (Int.natCast_nonneg _) (by omega), hel] at h1'
  rw [run_slice_lh W t A n c hu .i64 .i64 (m : Int) (h : Int) (Int.natCast_nonneg _) (by omega) (by omega), hel]
  simp [sizeOf, typeInfo, hi, hsz, sliced, Result.andThen] at h1' ⊢
  exact h1'
theorem run_cut_mid {P : Program} {o : Oper} {a : Act} (ty : TypeId) (x lo h : Operand) (ho : o.op = .slice ty x (some lo) (some h) none) {e : TypeId} (ht : P.underlying ty = some (.slice e)) {A A' : Option Addr} {n c n' c' : Nat} {m k : Nat}
    (hX : ∀ W : World, (Instr.slice ty (.slice A n c) (some (.int .i64 (m : Int))) (some (.int .i64 (k : Int))) none).run P W = .ok (.slice A' n' c') W)
    (hx : a.eval x = .slice A n c) (hl : a.eval lo = .int .i64 (m : Int)) (hh : a.eval h = .int .i64 (k : Int)) (W : World) : (execOp a.eval o).run P W = .ok (.value (.slice A' n' c')) W := by
  unfold execOp
  simp only [ho, hx, Option.map_some, Option.map_none, hl, hh, Instr.sliceAt, Sem.run_bind, Sem.run_pure, run_underlying ht, Result.andThen_ok, hX W]
theorem run_cut_from {P : Program} {o : Oper} {a : Act} (ty : TypeId) (x h : Operand) (ho : o.op = .slice ty x (some h) none none) {e : TypeId} (ht : P.underlying ty = some (.slice e)) {A A' : Option Addr} {n c n' c' : Nat} {m : Nat}
    (hX : ∀ W : World, (Instr.slice ty (.slice A n c) (some (.int .i64 (m : Int))) none none).run P W = .ok (.slice A' n' c') W)
    (hx : a.eval x = .slice A n c) (hh : a.eval h = .int .i64 (m : Int)) (W : World) : (execOp a.eval o).run P W = .ok (.value (.slice A' n' c')) W := by
  unfold execOp
  simp only [ho, hx, Option.map_some, Option.map_none, hh, Instr.sliceAt, Sem.run_bind, Sem.run_pure, run_underlying ht, Result.andThen_ok, hX W, Result.andThen_ok]
theorem run_str {P : Program} {o : Oper} {a : Act} (src dst : TypeId) (x : Operand) (ho : o.op = .convert src dst x) {e : TypeId} (hs : P.underlying src = some (.slice e)) (he : P.underlying e = some (.int .u8)) (hd : P.underlying dst = some .string) {w : World} {A : Option Addr} {l : List UInt8} (h : RdB w A l) (n c : Nat) (hn : l.length = n)
    (hx : a.eval x = .slice A n c) : (execOp a.eval o).run P w = .ok (.value (.string (strB l))) w := by
  unfold execOp
  simp only [ho, hx, Sem.run_bind, Sem.run_pure, conv_str hs he hd h n c hn, Result.andThen_ok]
/-- 'a[:]', 'a[:m]' of an array that stands at the head of a block. -/
theorem run_arr_all {P : Program} {o : Oper} {a : Act} (ty : TypeId) (x : Operand) (ho : o.op = .slice ty x none none none) (n e : Nat) (ht : P.underlying ty = some (.array n e)) {i : TypeInfo} (hi : P.info? e = some i)
    (g : Nat) (hx : a.eval x = .pointer (some ⟨g, 0, none⟩)) (W : World) : (execOp a.eval o).run P W = .ok (.value (.slice (some ⟨g, 0, none⟩) n n)) W := by
  unfold execOp
  simp only [ho, hx, Option.map_none, Instr.sliceAt, Sem.run_bind, Sem.run_pure, run_underlying ht, Result.andThen_ok, Instr.sureAddr, Instr.sliceBounds, sizeOf, typeInfo, Addr.add]
  simp [hi]
theorem run_arr_to {P : Program} {o : Oper} {a : Act} (ty : TypeId) (x h : Operand) (ho : o.op = .slice ty x none (some h) none) (n e : Nat) (ht : P.underlying ty = some (.array n e)) {i : TypeInfo} (hi : P.info? e = some i)
    (g m : Nat) (hm : m ≤ n) (hx : a.eval x = .pointer (some ⟨g, 0, none⟩)) (hh : a.eval h = .int .i64 (m : Int)) (W : World) : (execOp a.eval o).run P W = .ok (.value (.slice (some ⟨g, 0, none⟩) m n)) W := by
  have hm' : (m : Int) ≤ n := by omega
  unfold execOp
  simp only [ho, hx, hh, Option.map_none, Option.map_some, Instr.sliceAt, Sem.run_bind, Sem.run_pure, run_underlying ht, Result.andThen_ok, Instr.sureAddr, Instr.sliceBounds, sizeOf, typeInfo, Addr.add]
  simp [run_sliceBound, hm', hi]
/-- 'a[lo:hi]' of an array that stands somewhere in a block. -/
theorem slice_ptr {P : Program} (t e n : Nat) (ht : P.underlying t = some (.array n e)) {i : TypeInfo} (hi : P.info? e = some i) (hsz : i.size = 1) (g o lo hj : Nat) (h1 : lo ≤ hj) (h2 : hj ≤ n) (h3 : lo < n) (W : World) :
    (Instr.sliceAt t (.pointer (some ⟨g, o, none⟩)) (some (.int .i64 (lo : Int))) (some (.int .i64 (hj : Int))) none).run P W = .ok (.slice (some ⟨g, o + lo, none⟩) (hj - lo) (n - lo)) W := by
  have b1 : (lo : Int) ≤ hj := by omega
  have b2 : (hj : Int) ≤ n := by omega
  have b3 : ¬ n = lo := by omega
  simp only [Instr.sliceAt, Sem.run_bind, Sem.run_pure, run_underlying ht, Result.andThen_ok, Instr.sureAddr, Instr.sliceBounds, sizeOf, typeInfo, Addr.add]
  simp [run_sliceBound, b1, b2, b3, hi, hsz]
theorem slice_ptr_from {P : Program} (t e n : Nat) (ht : P.underlying t = some (.array n e)) {i : TypeInfo} (hi : P.info? e = some i) (hsz : i.size = 1) (k : IntKind) (g o lo : Nat) (h3 : lo < n) (W : World) :
    (Instr.sliceAt t (.pointer (some ⟨g, o, none⟩)) (some (.int k (lo : Int))) none none).run P W = .ok (.slice (some ⟨g, o + lo, none⟩) (n - lo) (n - lo)) W := by
  have b2 : (lo : Int) ≤ n := by omega
  have b3 : ¬ n = lo := by omega
  simp only [Instr.sliceAt, Sem.run_bind, Sem.run_pure, run_underlying ht, Result.andThen_ok, Instr.sureAddr, Instr.sliceBounds, sizeOf, typeInfo, Addr.add]
  simp [run_sliceBound, b2, b3, hi, hsz]
theorem run_ptr_from {P : Program} {o : Oper} {a : Act} (t : TypeId) (x l : Operand) (ho : o.op = .slice t x (some l) none none) (n e : Nat) (ht : P.underlying t = some (.array n e)) {i : TypeInfo} (hi : P.info? e = some i) (hsz : i.size = 1) (k : IntKind) (g off lo : Nat) (h3 : lo < n)
    (hx : a.eval x = .pointer (some ⟨g, off, none⟩)) (hl : a.eval l = .int k (lo : Int)) (W : World) : (execOp a.eval o).run P W = .ok (.value (.slice (some ⟨g, off + lo, none⟩) (n - lo) (n - lo))) W := by
  have h := slice_ptr_from (P := P) t e n ht hi hsz k g off lo h3 W
  unfold execOp
  simp only [ho, hx, hl, Option.map_some, Option.map_none, Sem.run_bind, Sem.run_pure, h, Result.andThen_ok]
theorem strB_size (l : List UInt8) : (strB l).size = l.length := by simp [strB, ByteArray.size]
theorem strB_get (l : List UInt8) (i : Nat) (hi : i < (strB l).size) : (strB l)[i] = l.getD i 0 := by
  have h : i < l.length := by rwa [strB_size] at hi
  show (strB l).data[i] = _
  simp [strB, List.getD_eq_getElem?_getD, h]
theorem idx_str {P : Program} (t : TypeId) (hu : P.underlying t = some .string) (l : List UInt8) (j : Nat) (hj : j < l.length) (k : IntKind) (z : Int) (hz : z = (j : Int)) (W : World) :
    (Instr.index t (.string (strB l)) (.int k z)).run P W = .ok (.int .u8 ((l.getD j 0).toNat : Int)) W := by
  subst hz
  rw [run_index_string W t (strB l) k (j : Int) hu, dif_pos ⟨by omega, by rw [strB_size]; omega⟩]
  have : ∀ (h : (j : Int).toNat < (strB l).size), (strB l)[(j : Int).toNat] = l.getD j 0 := fun h => strB_get l j h
  rw [this]
theorem run_idx_str {P : Program} {o : Oper} {a : Act} (t : TypeId) (x i : Operand) (ho : o.op = .index t x i) (hu : P.underlying t = some .string) (l : List UInt8) (j : Nat) (y : UInt8) (hy : y = l.getD j 0) (hj : j < l.length) (k : IntKind) (z : Int) (hz : z = (j : Int))
    (hx : a.eval x = .string (strB l)) (hi : a.eval i = .int k z) (W : World) : (execOp a.eval o).run P W = .ok (.value (.int .u8 (y.toNat : Int))) W := by
  subst hy
  unfold execOp
  simp only [ho, hx, hi, Sem.run_bind, Sem.run_pure, idx_str t hu l j hj k z hz W, Result.andThen_ok]
/-- The address of a place of an array, of a slice; what stands there. -/
theorem run_iaddr_arr {P : Program} {o : Oper} {a : Act} (t : TypeId) (x i : Operand) (ho : o.op = .indexAddr t x i) (n e : Nat) (ht : P.underlying t = some (.array n e)) {ti : TypeInfo} (hi : P.info? e = some ti) (hsz : ti.size = 1)
    (g j : Nat) (hj : j < n) (k : IntKind) (z : Int) (hz : z = (j : Int)) (hx : a.eval x = .pointer (some ⟨g, 0, none⟩)) (hii : a.eval i = .int k z) (W : World) : (execOp a.eval o).run P W = .ok (.value (.pointer (some ⟨g, j, none⟩))) W := by
  subst hz
  have hel : P.elem t = e := by simp [Program.elem, ht]
  have hal : P.arrayLen t = n := by simp [Program.arrayLen, ht]
  have h := run_indexAt_array W t ⟨g, 0, none⟩ k (j : Int) (P := P) (by rw [hel, hal]; exact ht)
  unfold execOp
  simp only [ho, hx, hii, Sem.run_bind, Sem.run_pure, h, hel, hal]
  rw [if_pos ⟨by omega, by omega⟩]
  simp [sizeOf, typeInfo, hi, hsz, Result.andThen, add_at]
theorem run_iaddr_sl {P : Program} {o : Oper} {a : Act} (t : TypeId) (x i : Operand) (ho : o.op = .indexAddr t x i) (e : Nat) (ht : P.underlying t = some (.slice e)) {ti : TypeInfo} (hi : P.info? e = some ti) (hsz : ti.size = 1)
    (b off n c j : Nat) (hj : j < n) (k : IntKind) (z : Int) (hz : z = (j : Int)) (hx : a.eval x = .slice (some ⟨b, off, none⟩) n c) (hii : a.eval i = .int k z) (W : World) : (execOp a.eval o).run P W = .ok (.value (.pointer (some ⟨b, off + j, none⟩))) W := by
  subst hz
  have hel : P.elem t = e := by simp [Program.elem, ht]
  have h := run_indexAt_slice W t ⟨b, off, none⟩ n c k (j : Int) (P := P) (by rw [hel]; exact ht)
  unfold execOp
  simp only [ho, hx, hii, Sem.run_bind, Sem.run_pure, h, hel]
  rw [if_pos ⟨by omega, by omega⟩]
  simp [sizeOf, typeInfo, hi, hsz, Result.andThen, add_at]
theorem run_cell {P : Program} {o : Oper} {a : Act} (t : TypeId) (x : Operand) (ho : o.op = .load t x) (d : TypeDesc) (ht : P.underlying t = some d) (hd : (match d with | .struct _ | .array _ _ => false | _ => true) = true)
    {p : Addr} {v : Value} (hx : a.eval x = .pointer (some p)) {W : World} (hc : W.cell? p = some v) : (execOp a.eval o).run P W = .ok (.value v) W := by
  unfold execOp
  have hagg : (isAgg t).run P W = .ok false W := by
    cases d <;> simp_all [isAgg, run_underlying ht, Result.andThen]
  simp only [ho, hx, Instr.loadAt, Instr.sureAddr, Sem.run_bind, Sem.run_pure, Result.andThen_ok, loadVar, hagg]
  simp [hc, Result.andThen]
theorem strB_append (l l' : List UInt8) : strB l ++ strB l' = strB (l ++ l') := by
  apply ByteArray.ext
  rw [ByteArray.data_append]
  simp [strB]
theorem run_cat {P : Program} {o : Oper} {a : Act} (t t2 : TypeId) (x y : Operand) (ho : o.op = .binOp .add t x y t2) (l l' : List UInt8) (hx : a.eval x = .string (strB l)) (hy : a.eval y = .string (strB l')) (hl : l.length + l'.length ≤ 4611686018427387903) (W : World) :
    (execOp a.eval o).run P W = .ok (.value (.string (strB (l ++ l')))) W := by
  unfold execOp
  have h1 : ¬ (9223372036854775807 < (strB l).size + (strB l').size) := by rw [strB_size, strB_size]; omega
  have h2 : (binOp .add t (.string (strB l)) (.string (strB l'))).run P W = .ok (.string (strB l ++ strB l')) W := by
    go_simp
  simp only [ho, hx, hy, eqGuard_add, Sem.run_bind, Sem.run_pure, h2, Result.andThen_ok, strB_append]
/-- Two texts of bytes differ, or do not, as their bytes do. -/
theorem str_eq {l l' : List UInt8} (h : l = l') : decide (strB l = strB l') = true := by simp [h]
end Go.Proofs.YtlocplkjokoknaaGreat

/- Rows of values, of whatever element type of one cell: read, owned, appended to; rows of rows. No condition. -/
namespace Go.Proofs.YtlocplkjokoknaaGreat
set_option linter.unusedVariables false
set_option linter.unusedSimpArgs false
open Go.RowKit

/-- The values stand at A. -/
def RdV (w : World) (A : Option Addr) (l : List Value) : Prop := ∀ j v, l[j]? = some v → ∃ b o, A = some ⟨b, o, none⟩ ∧ w.cell? ⟨b, o + j, none⟩ = some v
theorem RdV.grown {w w' : World} {A : Option Addr} {l : List Value} {r : Option Nat} (h : RdV w A l) (hg : w.grownBy w' r) (hne : ∀ g, r = some g → Off A g) : RdV w' A l := by
  intro j v hj
  obtain ⟨b, o, e, hc⟩ := h j v hj
  exact ⟨b, o, e, hg.cell hc (fun er => hne b er.symm _ e rfl)⟩
theorem RdV.below {w w' : World} {A : Option Addr} {l : List Value} {B : Nat} (h : RdV w A l) (hb : Below B w w') (hlt : ∀ a, A = some a → a.block < B) : RdV w' A l := by
  intro j v hj
  obtain ⟨b, o, e, hc⟩ := h j v hj
  exact ⟨b, o, e, (hb.cell (p := ⟨b, o + j, none⟩) (hlt ⟨b, o, none⟩ e)).trans hc⟩
theorem RdV.keep {w w' : World} {A : Option Addr} {l : List Value} (h : RdV w A l) (hb : Below w.heap.size w w') : RdV w' A l := by
  intro j v hj
  obtain ⟨b, o, e, hc⟩ := h j v hj
  exact ⟨b, o, e, (hb.cell (p := ⟨b, o + j, none⟩) (World.block_lt_of_cell? _ _ hc)).trans hc⟩
theorem RdV.nil (w : World) (A : Option Addr) : RdV w A [] := fun j v hj => by simp at hj
theorem RdV.row {w : World} {g : Nat} {l : List Value} {t : TypeId} {fr : Nat × Nat} (h : w.heap[g]? = some (.cells l.toArray t fr)) : RdV w (some ⟨g, 0, none⟩) l := fun j v hj =>
  ⟨g, 0, rfl, by rw [Nat.zero_add]; exact row_cell h j (by simpa using hj)⟩
theorem RdV.one {w : World} {b : Nat} {v : Value} (h : w.cell? ⟨b, 0, none⟩ = some v) : RdV w (some ⟨b, 0, none⟩) [v] := by
  intro j u hj
  obtain rfl : j = 0 := by have := (List.getElem?_eq_some_iff.1 hj).1; simp at this; omega
  obtain rfl : v = u := by simpa using hj
  exact ⟨b, 0, rfl, h⟩
theorem RdV.take {w : World} {A : Option Addr} {l : List Value} (h : RdV w A l) (m : Nat) : RdV w A (l.take m) := by
  intro j v hj
  rw [List.getElem?_take] at hj
  split at hj
  · exact h j v hj
  · cases hj
theorem RdV.some {w : World} {A : Option Addr} {l : List Value} (h : RdV w A l) (hl : 0 < l.length) : ∃ b o, A = some ⟨b, o, none⟩ := by
  obtain ⟨b, o, e, _⟩ := h 0 (l[0]) (by simp)
  exact ⟨b, o, e⟩
theorem RdB.toV {w : World} {A : Option Addr} {l : List UInt8} (h : RdB w A l) : RdV w A (B8 l) := by
  intro j v hj
  have h1 : j < l.length := by
    have := (List.getElem?_eq_some_iff.1 hj).1
    rwa [B8_length] at this
  obtain ⟨b, o, e, hc⟩ := h j h1
  rw [B8_get _ _ h1] at hj
  cases hj
  exact ⟨b, o, e, hc⟩
theorem RdV.toB {w : World} {A : Option Addr} {l : List UInt8} (h : RdV w A (B8 l)) : RdB w A l := fun j hj => h j _ (B8_get l j hj)

/-- Rows of the call's own. -/
def OwnV (w : World) (base : Nat) (e : TypeId) (v : Value) (l : List Value) : Prop := w.ownsRow base e 1 v l.length l
theorem OwnV.read {w : World} {base : Nat} {e : TypeId} {v : Value} {l : List Value} (h : OwnV w base e v l) :
    ∃ A c, v = .slice A l.length c ∧ RdV w A l ∧ l.length ≤ c ∧ c ≤ 9223372036854775807 ∧ ∀ a, A = some a → base ≤ a.block ∧ a.block < w.heap.size := by
  have h' := h
  rcases h'.2 with ⟨hv, hn⟩ | ⟨g, cap, cur, hv, hb, hh, hnc, hcm, hcs, _⟩
  · exact ⟨none, 0, by rw [hv, hn], fun j v hj => by have := (List.getElem?_eq_some_iff.1 hj).1; omega, by omega, by omega, fun a e => by cases e⟩
  · refine ⟨_, cap, hv, fun j u hj => ⟨g, 0, rfl, ?_⟩, hnc, by simpa [maxLen] using hcm, fun a e => by cases e; exact ⟨hb, row_lt hh⟩⟩
    have := h.cells (g := g) (by rw [hv]; rfl) j _ hj
    rwa [add_at] at this
theorem OwnV.nil (w : World) (base : Nat) (e : TypeId) : OwnV w base e (.slice none 0 0) [] := World.ownsRow_nil _ _ _ _
theorem OwnV.alloc {w : World} {base : Nat} {e : TypeId} {v : Value} {l : List Value} (h : OwnV w base e v l) (o : Obj) : OwnV (w.alloc o) base e v l := World.ownsRow.alloc h o
theorem OwnV.drew {w : World} {base : Nat} {e : TypeId} {v : Value} {l : List Value} (h : OwnV w base e v l) : OwnV w.drew base e v l := World.ownsRow.drew h
theorem OwnV.lt {w : World} {base : Nat} {e : TypeId} {v : Value} {l : List Value} (h : OwnV w base e v l) : ∀ k, v.ownBlock = some k → base ≤ k ∧ k < w.heap.size := World.ownsRow.lt h
theorem OwnV.grown {w w' : World} {base : Nat} {e : TypeId} {v : Value} {l : List Value} {r : Option Nat} (h : OwnV w base e v l) (hg : w.grownBy w' r) (hne : v.ownBlock = none ∨ v.ownBlock ≠ r) : OwnV w' base e v l := World.ownsRow.kept h hg hne
theorem OwnV.below {w w' : World} {base : Nat} {e : TypeId} {v : Value} {l : List Value} (h : OwnV w base e v l) (hb : Below w.heap.size w w') : OwnV w' base e v l := h.grown (grown_of_below hb) (by cases v.ownBlock <;> simp)
theorem OwnV.mono {w : World} {base base' : Nat} {e : TypeId} {v : Value} {l : List Value} (h : OwnV w base e v l) (hb : base' ≤ base) : OwnV w base' e v l := by
  refine ⟨h.1, ?_⟩
  rcases h.2 with h2 | ⟨g, cap, cur, hv, hg, r⟩
  · exact .inl h2
  · exact .inr ⟨g, cap, cur, hv, Nat.le_trans hb hg, r⟩
theorem OwnB.toV {w : World} {base : Nat} {v : Value} {l : List UInt8} (h : OwnB w base v l) : OwnV w base 5 v (B8 l) := by
  have : (B8 l).length = l.length := B8_length l
  rw [OwnV, this]
  exact h
theorem OwnV.toB {w : World} {base : Nat} {v : Value} {l : List UInt8} (h : OwnV w base 5 v (B8 l)) : OwnB w base v l := by
  have : (B8 l).length = l.length := B8_length l
  rw [OwnV, this] at h
  exact h

/-- A slice type's rows of the program's table: elements of one cell, of so many bytes. -/
structure SlT (P : Program) (t e : TypeId) (z : Value) (b : Nat) : Prop where
  ht : P.underlying t = some (.slice e)
  hinfo : (P.info? e).map (fun i => (i.zero, i.size, i.bytes)) = some (some z, 1, b)
  hz : z.cells.size = 1
/-- append(v, ys...): the run. -/
theorem run_appV {P : Program} {t e : TypeId} {z : Value} {bt : Nat} (T : SlT P t e z bt) (ty : TypeId) (W : World) (base : Nat) (v : Value) (l ys : List Value) (A : Option Addr) (m c : Nat) (hm : ys.length = m) (HO : OwnV W base e v l) (HR : RdV W A ys) (h1 : ∀ u ∈ ys, u.oneCell' = true)
    (hbase : base ≤ W.heap.size) (hl : l.length + m ≤ 9223372036854775807) (hl2 : (l.length + m) * bt ≤ 140737488355328) :
    ∃ v1 w1, (Builtin.append_ #[t, t] ty #[v, .slice A m c]).run P W = .ok v1 w1 ∧ OwnV w1 base e v1 (l ++ ys) ∧ W.grownBy w1 v.ownBlock ∧ (v1.ownBlock = v.ownBlock ∨ v1.ownBlock = some W.heap.size) := by
  obtain ⟨i0, hi, hzz⟩ := Option.map_eq_some_iff.1 T.hinfo
  simp only [Prod.mk.injEq] at hzz
  obtain ⟨hz0, hz1, hz2⟩ := hzz
  have ht := T.ht
  subst hm
  rcases ys with _ | ⟨y, r⟩
  · rcases A with _ | ad
    · refine ⟨v, W, ?_, by simpa using HO, World.grownBy.refl W _, .inl rfl⟩
      rcases HO.2 with ⟨rfl, hn⟩ | ⟨g, cap, cur, rfl, _, _, hnc, _⟩
      · simp [Builtin.append_, run_underlying ht, sizeOf, typeInfo, hi, Builtin.lenOf, Builtin.firstCells]
      · simp [Builtin.append_, run_underlying ht, sizeOf, typeInfo, hi, Builtin.lenOf, Builtin.firstCells, hnc, storeCells]
    · obtain ⟨v1, w1, hr, h2, h3, _, h5⟩ := run_append_own_at (P := P) W base t ty e i0 z 1 bt ht hi hz0 hz1 hz2 T.hz (by omega) v l.length l HO ad 0 c [] (by simp) (by simp) (by simp) (by simpa [maxLen] using hl) (by simpa using hl2) hbase
      exact ⟨v1, w1, hr, by simpa [OwnV] using h2, h3, h5⟩
  · obtain ⟨b, o, rfl, _⟩ := HR 0 y (by simp)
    obtain ⟨v1, w1, hr, h2, h3, _, h5⟩ := run_append_own_at (P := P) W base t ty e i0 z 1 bt ht hi hz0 hz1 hz2 T.hz (by omega) v l.length l HO ⟨b, o, none⟩ (y :: r).length c (y :: r) (by simp)
      (fun j u hu => by
        obtain ⟨b', o', e', hc'⟩ := HR j u hu
        injection e' with e'
        injection e' with e1 e2
        subst e1 e2
        rw [add_at, hc']) h1 (by simpa [maxLen] using hl) hl2 hbase
    refine ⟨v1, w1, hr, ?_, h3, h5⟩
    rw [OwnV, List.length_append]
    exact h2
section
variable {P : Program} {ops : Array Oper} {rest : List Oper} {o : Oper} {a : Act} {Q : Exit → Act → World → Prop} {K : Act → World → Prop} {E : Prop} {t e : TypeId} {z : Value} {bt : Nat}
theorem appV_wp (T : SlT P t e z bt) (s x : Operand) (ho : o.op = .call { callee := .builtin .append, args := #[s, x], argTypes := #[t, t] }) {W : World}
    (base : Nat) (v : Value) (l ys : List Value) (A : Option Addr) (m c : Nat) (hs : a.eval s = v) (hx : a.eval x = .slice A m c) (hm : ys.length = m) (HO : OwnV W base e v l) (HR : RdV W A ys) (h1 : ∀ u ∈ ys, u.oneCell' = true) (hbase : base ≤ W.heap.size) (hl : l.length + m ≤ 9223372036854775807) (hl2 : (l.length + m) * bt ≤ 140737488355328)
    (h : ∀ v1 w1, OwnV w1 base e v1 (l ++ ys) → W.grownBy w1 v.ownBlock → (v1.ownBlock = v.ownBlock ∨ v1.ownBlock = some W.heap.size) → K (a.put o.dst v1) w1) : o.wp P a W K Q := by
  obtain ⟨v1, w1, hr, h2, h3, h5⟩ := run_appV T o.type W base v l ys A m c hm HO HR h1 hbase hl hl2
  unfold Oper.wp execOp
  simp only [ho, resolve, invoke, builtin, Sem.run_bind, Sem.run_pure, Result.andThen_ok, List.map_toArray, List.map_cons, List.map_nil, hs, hx, hr]
  exact h v1 w1 h2 h3 h5
/-- append(v, ys...) at a list of operations. -/
theorem appV_list (hgd : o.guard = none) (T : SlT P t e z bt) (s x : Operand) (ho : o.op = .call { callee := .builtin .append, args := #[s, x], argTypes := #[t, t] }) {W : World}
    (base : Nat) (v : Value) (l ys : List Value) (A : Option Addr) (m c : Nat) (hs : a.eval s = v) (hx : a.eval x = .slice A m c) (hm : ys.length = m) (HO : OwnV W base e v l) (HR : RdV W A ys) (h1 : ∀ u ∈ ys, u.oneCell' = true) (hbase : base ≤ W.heap.size) (hl : l.length + m ≤ 9223372036854775807) (hl2 : (l.length + m) * bt ≤ 140737488355328)
    (h : ∀ v1 w1, OwnV w1 base e v1 (l ++ ys) → W.grownBy w1 v.ownBlock → (v1.ownBlock = v.ownBlock ∨ v1.ownBlock = some W.heap.size) → wpList P ops Q rest (a.put o.dst v1) w1) : wpList P ops Q (o :: rest) a W :=
  wpList_plain hgd fun _ hK => appV_wp T s x ho base v l ys A m c hs hx hm HO HR h1 hbase hl hl2 (fun v1 w1 h1 h2 h3 => hK _ _ (h v1 w1 h1 h2 h3))
/-- .. at a step of a region that draws. -/
theorem appV_step (hgd : o.guard = none) (T : SlT P t e z bt) (s x : Operand) (ho : o.op = .call { callee := .builtin .append, args := #[s, x], argTypes := #[t, t] }) {W : World}
    (base : Nat) (v : Value) (l ys : List Value) (A : Option Addr) (m c : Nat) (hs : a.eval s = v) (hx : a.eval x = .slice A m c) (hm : ys.length = m) (HO : OwnV W base e v l) (HR : RdV W A ys) (h1 : ∀ u ∈ ys, u.oneCell' = true) (hbase : base ≤ W.heap.size) (hl : l.length + m ≤ 9223372036854775807) (hl2 : (l.length + m) * bt ≤ 140737488355328)
    (h : ∀ v1 w1, OwnV w1 base e v1 (l ++ ys) → W.grownBy w1 v.ownBlock → (v1.ownBlock = v.ownBlock ∨ v1.ownBlock = some W.heap.size) → K (a.put o.dst v1) w1) : if Region.wanted o (yielded ops a.tmps) = true then Oper.wp P o a W K Q else E := by
  rw [if_pos (by simp [Region.wanted, hgd])]
  exact appV_wp T s x ho base v l ys A m c hs hx hm HO HR h1 hbase hl hl2 h
end
/-- What 'xs[m:]' tells of a row of values. -/
theorem cutV_from {P : Program} (t e : TypeId) {i : TypeInfo} (ht : P.underlying t = some (.slice e)) (hi : P.info? e = some i) (hsz : i.size = 1) (A : Option Addr) (n c m : Nat) (hm : m ≤ n) :
    ∃ A' : Option Addr, (∀ W : World, (Instr.slice t (.slice A n c) (some (.int .i64 (m : Int))) none none).run P W = .ok (.slice A' (n - m) (c - m)) W) ∧
      (∀ (w : World) (l : List Value), l.length = n → n ≤ c → RdV w A l → RdV w A' (l.drop m)) ∧ (∀ a', A' = some a' → ∃ a, A = some a ∧ a'.block = a.block) := by
  refine ⟨if c = m then A else A.map (·.add m), fun W => ?_, fun w l hl hc h => ?_, fun a' ha' => ?_⟩
  · have hel : P.elem t = e := by simp [Program.elem, ht]
    have hu : P.underlying t = some (.slice (P.elem t)) := by rw [hel]; exact ht
    rw [run_slice_l W t A n c hu .i64 (m : Int) (Int.natCast_nonneg _) (by omega), hel]
    simp [sizeOf, typeInfo, hi, hsz, sliced, Result.andThen]
  · intro j v hj
    rw [List.getElem?_drop] at hj
    obtain ⟨b, o, rfl, hcell⟩ := h (m + j) v hj
    have := (List.getElem?_eq_some_iff.1 hj).1
    rw [if_neg (by omega)]
    refine ⟨b, o + m, by simp [add_at], ?_⟩
    rw [Nat.add_assoc, hcell]
  · split at ha'
    · exact ⟨a', ha', rfl⟩
    · rcases A with _ | ⟨b, o, sp⟩
      · simp at ha'
      · simp at ha'
        subst ha'
        refine ⟨_, rfl, ?_⟩
        unfold Addr.add
        split <;> rfl

/-! ### rows of rows -/
/-- A slice that is read, in a block below the world's end that is not g. -/
def InRow (w : World) (g : Option Nat) (s : Value) (l : List Value) : Prop := ∃ A c, s = .slice A l.length c ∧ l.length ≤ c ∧ RdV w A l ∧ ∀ a, A = some a → a.block < w.heap.size ∧ some a.block ≠ g
inductive All2 {α β : Type} (R : α → β → Prop) : List α → List β → Prop
  | nil : All2 R [] []
  | cons {a b ks bs} : R a b → All2 R ks bs → All2 R (a :: ks) (b :: bs)
theorem All2.length {α β : Type} {R : α → β → Prop} {ks : List α} {bs : List β} (h : All2 R ks bs) : ks.length = bs.length := by
  induction h with
  | nil => rfl
  | cons _ _ ih => simp [ih]
theorem All2.mono {α β : Type} {R R' : α → β → Prop} {ks : List α} {bs : List β} (h : All2 R ks bs) (hr : ∀ a b, R a b → R' a b) : All2 R' ks bs := by
  induction h with
  | nil => exact .nil
  | cons h1 _ ih => exact .cons (hr _ _ h1) ih
theorem All2.snoc {α β : Type} {R : α → β → Prop} {ks : List α} {bs : List β} (h : All2 R ks bs) {a : α} {b : β} (hab : R a b) : All2 R (ks ++ [a]) (bs ++ [b]) := by
  induction h with
  | nil => exact .cons hab .nil
  | cons h1 _ ih => exact .cons h1 ih
theorem All2.get {α β : Type} {R : α → β → Prop} {ks : List α} {bs : List β} (h : All2 R ks bs) (j : Nat) (b : β) (hb : bs[j]? = some b) : ∃ a, ks[j]? = some a ∧ R a b := by
  induction h generalizing j with
  | nil => simp at hb
  | cons h1 _ ih =>
    cases j with
    | zero => simp at hb; subst hb; exact ⟨_, rfl, h1⟩
    | succ j => simpa using ih j (by simpa using hb)
theorem InRow.grown {w w' : World} {g g' r : Option Nat} {s : Value} {l : List Value} (h : InRow w g s l) (hg : w.grownBy w' r) (hr : r = none ∨ r = g) (hg' : g' = g ∨ g' = some w.heap.size ∨ g' = none) : InRow w' g' s l := by
  obtain ⟨A, c, e, hl, hR, hb⟩ := h
  refine ⟨A, c, e, hl, hR.grown hg (fun k hk a ha => ?_), fun a ha => ⟨Nat.lt_of_lt_of_le (hb a ha).1 hg.size, ?_⟩⟩
  · rcases hr with hr | hr
    · rw [hr] at hk; cases hk
    · have := (hb a ha).2
      intro he
      apply this
      rw [he, ← hk, hr]
  · rcases hg' with h | h | h
    · rw [h]; exact (hb a ha).2
    · rw [h]; intro he; injection he with he; have := (hb a ha).1; omega
    · rw [h]; simp
end Go.Proofs.YtlocplkjokoknaaGreat

/- Single operations, one by one, each with what it yields. No condition but those each theorem states. -/
namespace Go.Proofs.YtlocplkjokoknaaGreat
set_option linter.unusedVariables false
set_option linter.unusedSimpArgs false
open Go.RowKit
theorem _root_.Go.World.grownBy.mono_none {w w' : World} {r : Option Nat} (h : w.grownBy w' none) : w.grownBy w' r := ⟨h.os, h.tape, h.output, h.size, fun k hk _ => h.block k hk (by simp)⟩
section
variable {P : Program} {ops : Array Oper} {rest : List Oper} {o : Oper} {a : Act} {Q : Exit → Act → World → Prop} {W : World}
/-- An operation that yields a value where it stands. -/
theorem wpList_val {v : Value} (hg : o.guard = none) (hy : (execOp a.eval o).run P W = .ok (.value v) W) (h : wpList P ops Q rest (a.put o.dst v) W) : wpList P ops Q (o :: rest) a W :=
  wpList_plain hg fun K hK => by
    unfold Oper.wp
    rw [hy]
    exact hK _ _ h
/-- .. whose guard says yes. -/
theorem wpList_valg {v : Value} (hw : Region.wanted o (yielded ops a.tmps) = true) (hy : (execOp a.eval o).run P W = .ok (.value v) W) (h : wpList P ops Q rest (a.put o.dst v) W) : wpList P ops Q (o :: rest) a W := by
  unfold wpList
  rw [if_pos hw]
  refine .inl ?_
  unfold Oper.wp
  rw [hy]
  exact h
theorem wpList_skipg (hw : Region.wanted o (yielded ops a.tmps) = false) (h : wpList P ops Q rest (a.put o.dst undef) W) : wpList P ops Q (o :: rest) a W := by
  unfold wpList
  rw [if_neg (by rw [hw]; simp)]
  exact h
/-- An operation that is carried out, whatever it does. -/
theorem wpList_op (hg : o.guard = none) (h : ∀ K : Act → World → Prop, Hid (∀ a w, wpList P ops Q rest a w → K a w) → o.wp P a W K Q) : wpList P ops Q (o :: rest) a W :=
  wpList_plain hg fun K hK => h K hK
theorem run_ptr_fromz (t : TypeId) (x l : Operand) (ho : o.op = .slice t x (some l) none none) (n e : Nat) (ht : P.underlying t = some (.array n e)) {i : TypeInfo} (hi : P.info? e = some i) (hsz : i.size = 1) (k : IntKind) (g off lo : Nat) (h3 : lo < n) (z : Int) (hz : z = (lo : Int))
    (hx : a.eval x = .pointer (some ⟨g, off, none⟩)) (hl : a.eval l = .int k z) (W : World) : (execOp a.eval o).run P W = .ok (.value (.slice (some ⟨g, off + lo, none⟩) (n - lo) (n - lo))) W :=
  run_ptr_from t x l ho n e ht hi hsz k g off lo h3 hx (by rw [hl, hz]) W
theorem setCells_heap (g : Nat) (t : TypeId) : ∀ (vs : List Value) (o : Nat) (w : World) (cur : Array Value), w.heap[g]? = some (.cells cur t (0, 0)) → o + vs.length ≤ cur.size →
    (w.setCells g o vs).heap[g]? = some (.cells (cur.toList.take o ++ (vs ++ cur.toList.drop (o + vs.length))).toArray t (0, 0))
  | [], o, w, cur, h, _ => by simpa [World.setCells] using h
  | v :: r, o, w, cur, h, hl => by
    simp only [List.length_cons] at hl
    rw [World.setCells]
    have h1 := setCells_heap g t r (o + 1) (w.setCell ⟨g, o, none⟩ v) (cur.setIfInBounds o v) (heap_setCell_same w g o cur t v h) (by simp; omega)
    rw [h1]
    congr 3
    have ho : o < cur.toList.length := by simp; omega
    have hx : (cur.setIfInBounds o v).toList = cur.toList.set o v := by simp
    have e1 : (cur.toList.set o v).take (o + 1) = cur.toList.take o ++ [v] := by
      rw [List.take_add_one, List.getElem?_set_self ho, List.take_set_of_le (Nat.le_refl _)]; rfl
    have e2 : (cur.toList.set o v).drop (o + 1 + r.length) = cur.toList.drop (o + (v :: r).length) := by
      rw [List.drop_set_of_lt (by omega)]
      simp [Nat.add_assoc, Nat.add_comm 1]
    rw [hx, e1, e2]
    simp
theorem setCells_grown (g : Nat) : ∀ (vs : List Value) (o : Nat) (w : World), w.grownBy (w.setCells g o vs) (some g)
  | [], _, w => World.grownBy.refl _ _
  | v :: r, o, w => by
    rw [World.setCells]
    exact World.grownBy.trans (grown_set (World.grownBy.refl _ _) _ _) (setCells_grown g r (o + 1) _)
theorem setCells_size (g : Nat) : ∀ (vs : List Value) (o : Nat) (w : World), (w.setCells g o vs).heap.size = w.heap.size
  | [], _, w => rfl
  | v :: r, o, w => by
    rw [World.setCells, setCells_size g r]
    simp [World.setCell]
/-- A row into a place of a block that is known whole. -/
theorem storeM_wp {K : Act → World → Prop} (ty : TypeId) (x y : Operand) (ho : o.op = .store ty x y) (g off : Nat) (cells : Array Value) (hx : a.eval x = .pointer (some ⟨g, off, none⟩)) (hy : a.eval y = .agg cells)
    (cur : Array Value) (t : TypeId) (hg : W.heap[g]? = some (.cells cur t (0, 0))) (hi : (P.info? ty).map (·.size) = some cells.size) (hl : off + cells.size ≤ cur.size) (h1 : cells.all (·.oneCell') = true)
    (h : ∀ w', w'.heap[g]? = some (.cells (cur.toList.take off ++ (cells.toList ++ cur.toList.drop (off + cells.size))).toArray t (0, 0)) → W.grownBy w' (some g) → w'.heap.size = W.heap.size → K (a.put o.dst undef) w') : o.wp P a W K Q :=
  wp_store_mid ty x y ho g off cells hx hy (fun j hj => ⟨by
      have : (cur[off + j]?).isSome = true := by simp; omega
      obtain ⟨v, hv⟩ := Option.isSome_iff_exists.1 this
      rw [row_cell hg (off + j) hv]; rfl, row_free hg _⟩) hi h1
    (h _ (by have := setCells_heap g t cells.toList off W cur hg (by simpa using hl); simpa using this) (setCells_grown g _ _ _) (setCells_size g _ _ _))
/-- .. at a list of operations. -/
theorem storeM_list (hgd : o.guard = none) (ty : TypeId) (x y : Operand) (ho : o.op = .store ty x y) (g off : Nat) (cells : Array Value) (hx : a.eval x = .pointer (some ⟨g, off, none⟩)) (hy : a.eval y = .agg cells)
    (cur : Array Value) (t : TypeId) (hg : W.heap[g]? = some (.cells cur t (0, 0))) (hi : (P.info? ty).map (·.size) = some cells.size) (hl : off + cells.size ≤ cur.size) (h1 : cells.all (·.oneCell') = true)
    (h : ∀ w', w'.heap[g]? = some (.cells (cur.toList.take off ++ (cells.toList ++ cur.toList.drop (off + cells.size))).toArray t (0, 0)) → W.grownBy w' (some g) → w'.heap.size = W.heap.size → wpList P ops Q rest (a.put o.dst undef) w') : wpList P ops Q (o :: rest) a W :=
  wpList_plain hgd fun _ hK => storeM_wp ty x y ho g off cells hx hy cur t hg hi hl h1 (fun w' h1 h2 h3 => hK _ _ (h w' h1 h2 h3))
/-- 'xs[:m:m]'. -/
theorem cut_max {P : Program} (t e : TypeId) {i : TypeInfo} (ht : P.underlying t = some (.slice e)) (hi : P.info? e = some i) (hsz : i.size = 1) (A : Option Addr) (n c m : Nat) (hm : m ≤ c) (W : World) :
    (Instr.slice t (.slice A n c) none (some (.int .i64 (m : Int))) (some (.int .i64 (m : Int)))).run P W = .ok (.slice A m m) W := by
  have hel : P.elem t = e := by simp [Program.elem, ht]
  have hu : P.underlying t = some (.slice (P.elem t)) := by rw [hel]; exact ht
  rw [run_slice_hm W t A n c hu .i64 .i64 (m : Int) (m : Int) (Int.natCast_nonneg _) (Int.le_refl _) (by omega), hel]
  simp only [sizeOf, typeInfo, hi, hsz, sliced, Result.andThen]
  rcases A with _ | ⟨b, o, sp⟩
  · simp [Sem.run_pure, hi, hsz, Result.andThen]
  · simp [Sem.run_pure, hi, hsz, Result.andThen, Addr.add]
    try (cases sp <;> simp)
/-- A slice as an array of its first cells. -/
theorem run_sl2arr (t : TypeId) (x : Operand) (ho : o.op = .sliceToArrayPointer t x) (n e : Nat) (ht : P.underlying t = some (.array n e)) (A : Option Addr) (len c : Nat) (hx : a.eval x = .slice A len c) (hle : n ≤ len) (W : World) : (execOp a.eval o).run P W = .ok (.value (.pointer A)) W := by
  have h1 : ¬ len < n := by omega
  unfold execOp
  simp only [ho, hx, Instr.arrayAt, Sem.run_bind, Sem.run_pure, run_underlying ht, Result.andThen_ok]
  simp [h1]
/-- append(s, ys...) where s has no room: a new row. -/
theorem appg_list (hgd : o.guard = none) (T : ByteT P) (s x : Operand) (ho : o.op = .call { callee := .builtin .append, args := #[s, x], argTypes := #[22, 22] }) {W : World}
    (A : Option Addr) (n c : Nat) (l ys : List UInt8) (Ax : Addr) (m cx : Nat) (hs : a.eval s = .slice A n c) (hx : a.eval x = .slice (some Ax) m cx) (hn : l.length = n) (hm : ys.length = m) (hnone : A = none → n = 0 ∧ c = 0) (HS : RdB W A l) (HR : RdB W (some Ax) ys) (hfull : c < n + m) (hl : n + m ≤ 140737488355328)
    (h : ∀ v1 w1, OwnB w1 W.heap.size v1 (l ++ ys) → W.grownBy w1 none → wpList P ops Q rest (a.put o.dst v1) w1) : wpList P ops Q (o :: rest) a W := by
  obtain ⟨i0, hi, hzz⟩ := Option.map_eq_some_iff.1 T.hinfo
  simp only [Prod.mk.injEq] at hzz
  obtain ⟨hz0, hz1, hz2⟩ := hzz
  have rd : ∀ (ad : Addr) (l : List UInt8), RdB W (some ad) l → ∀ j u, (B8 l)[j]? = some u → W.cell? (ad.add j) = some u := by
    intro ad l hl j u hu
    have hj : j < l.length := by
      have := (List.getElem?_eq_some_iff.1 hu).1
      rwa [B8_length] at this
    obtain ⟨b', o', e', hc'⟩ := hl j hj
    injection e' with e'
    subst e'
    rw [add_at, hc', ← B8_get _ j hj, hu]
  refine wpList_append_grows W hgd s x 22 ho 5 i0 (.int .u8 0) 1 1 T.ht hi hz0 hz1 hz2 rfl (by omega) A n c (B8 l) hs hnone (by rw [B8_length, hn, Nat.mul_one]) (fun b eb => rd b l (eb ▸ HS)) Ax m cx (B8 ys) hx (by rw [B8_length, hm, Nat.mul_one]) (rd Ax ys HR) (B8_one _) hfull (by unfold maxLen; omega) (by omega) ?_
  intro v' w' ho' hg'
  refine h v' w' ?_ hg'
  rw [OwnB, List.length_append, hn, hm, B8_append]
  exact ho'
/-- copy(dst, src) of bytes into a place of a block that is known whole. -/
theorem copyB_wp {K : Act → World → Prop} (T : ByteT P) (d s : Operand) (ho : o.op = .call { callee := .builtin .copy, args := #[d, s], argTypes := #[22, 22] })
    (g off dLen dCap : Nat) (A : Option Addr) (sLen sCap : Nat) (hd : a.eval d = .slice (some ⟨g, off, none⟩) dLen dCap) (hs : a.eval s = .slice A sLen sCap) (cur : Array Value) (t : TypeId) (hg : W.heap[g]? = some (.cells cur t (0, 0)))
    (src : List UInt8) (hl : src.length = sLen) (hR : RdB W A src) (h0 : 0 < sLen) (m : Nat) (hm : m = Nat.min sLen dLen) (hfit : off + m ≤ cur.size)
    (h : ∀ w', w'.heap[g]? = some (.cells (cur.toList.take off ++ (B8 (src.take m) ++ cur.toList.drop (off + m))).toArray t (0, 0)) → W.grownBy w' (some g) → w'.heap.size = W.heap.size → K (a.put o.dst (.int .i64 (m : Int))) w') : o.wp P a W K Q := by
  obtain ⟨b, o', rfl, _⟩ := hR 0 (by omega)
  have hms : m ≤ sLen := by rw [hm]; exact Nat.min_le_left _ _
  have hcl : (B8 (src.take m)).length = m := by rw [B8_length, List.length_take]; omega
  have hsz : (P.info? 5).map (·.size) = some 1 := by
    have := T.hinfo
    revert this
    cases P.info? 5 <;> simp <;> intros <;> assumption
  have hrun := run_copy_row (P := P) W 22 22 o.type 5 g off dLen dCap ⟨b, o', none⟩ sLen sCap cur t (B8 (src.take m)) T.ht hsz hg (by rw [hcl, hm]) (by
      intro j u hu
      have hj : j < m := by
        have := (List.getElem?_eq_some_iff.1 hu).1
        rwa [hcl] at this
      obtain ⟨b', o'', e', hc'⟩ := hR j (by omega)
      injection e' with e'
      injection e' with e1 e2
      subst e1 e2
      rw [B8_get _ j (by rw [List.length_take]; omega)] at hu
      rw [add_at, hc', ← hu, List.getD_eq_getElem?_getD, List.getD_eq_getElem?_getD, List.getElem?_take, if_pos hj]) (by rw [hcl]; exact hfit) (B8_one _)
  unfold Oper.wp execOp
  simp only [ho, resolve, invoke, builtin, Sem.run_bind, Sem.run_pure, Result.andThen_ok, List.map_toArray, List.map_cons, List.map_nil, hd, hs, hrun]
  rw [hcl]
  have e : (cur.toList.take off ++ B8 (src.take m) ++ cur.toList.drop (off + m)).toArray = (cur.toList.take off ++ (B8 (src.take m) ++ cur.toList.drop (off + m))).toArray := by rw [List.append_assoc]
  rw [e]
  exact h _ (setRow_heap W g _ _ t _ hg) ⟨rfl, rfl, rfl, by simp, fun k hk hne => setRow_other W g k _ (fun e => hne (by rw [e]))⟩ (by simp)
/-- A list that is filled from its beginning on. -/
def partB (L : List UInt8) (j : Nat) : List UInt8 := L.take j ++ List.replicate (L.length - j) 0
theorem partB_length (L : List UInt8) (j : Nat) : (partB L j).length = L.length := by simp [partB]; omega
theorem partB_zero (L : List UInt8) : partB L 0 = List.replicate L.length 0 := by simp [partB]
theorem partB_full (L : List UInt8) : partB L L.length = L := by simp [partB]
theorem partB_set (L : List UInt8) (j : Nat) (h : j < L.length) : (partB L j).set j (L.getD j 0) = partB L (j + 1) := by
  apply List.ext_getElem
  · simp [partB_length]
  · intro i h1 h2
    rw [partB_length] at h2
    simp only [partB, List.getElem_set, List.getElem_append, List.length_take, List.getElem_take, List.getElem_replicate]
    by_cases e : j = i
    · subst e
      rw [if_pos rfl, dif_pos (by omega)]
      simp [List.getD_eq_getElem?_getD, h]
    · rw [if_neg e]
      by_cases h3 : i < j
      · rw [dif_pos (by omega), dif_pos (by omega)]
      · rw [dif_neg (by omega), dif_neg (by omega)]
theorem _root_.Go.Proofs.YtlocplkjokoknaaGreat.RdB.lt {w : World} {A : Option Addr} {l : List UInt8} (h : RdB w A l) (h0 : l ≠ []) : ∀ a, A = some a → a.block < w.heap.size := by
  intro a ea
  obtain ⟨b, o, e, hc⟩ := h 0 (List.length_pos_iff.2 h0)
  rw [e] at ea
  cases ea
  exact World.block_lt_of_cell? _ _ hc
/-- What is read stands below the world's end: whatever is made above it leaves it. -/
theorem _root_.Go.Proofs.YtlocplkjokoknaaGreat.RdB.keep {w w' : World} {A : Option Addr} {l : List UInt8} (h : RdB w A l) (hb : Below w.heap.size w w') : RdB w' A l := by
  by_cases h0 : l = []
  · subst h0; exact RdB.nil _ _
  · exact h.below hb (h.lt h0)
theorem _root_.Go.Proofs.YtlocplkjokoknaaGreat.RdB.grow {w w' : World} {A : Option Addr} {l : List UInt8} {g : Nat} (h : RdB w A l) (hg : w.grownBy w' (some g)) (hne : l ≠ [] → ∀ a, A = some a → a.block ≠ g) : RdB w' A l := by
  by_cases h0 : l = []
  · subst h0; exact RdB.nil _ _
  · exact h.grown hg (fun g' e a ea => by cases e; exact hne h0 a ea)
/-- A slice of bytes that is read. -/
def SlB (w : World) (v : Value) (l : List UInt8) : Prop := ∃ A c, v = .slice A l.length c ∧ l.length ≤ c ∧ RdB w A l
theorem SlB.keep {w w' : World} {v : Value} {l : List UInt8} (h : SlB w v l) (hb : Below w.heap.size w w') : SlB w' v l := by
  obtain ⟨A, c, e, hc, hR⟩ := h
  exact ⟨A, c, e, hc, hR.keep hb⟩
theorem SlB.nil (w : World) : SlB w (.slice none 0 0) [] := ⟨none, 0, rfl, Nat.le_refl _, RdB.nil _ _⟩
end
end Go.Proofs.YtlocplkjokoknaaGreat

/- Small words for walks of laws: what stands while a law is asked, rows that are made, texts that are compared. No condition but those each theorem states. -/
namespace Go.Proofs.YtlocplkjokoknaaGreat
set_option linter.unusedVariables false
set_option linter.unusedSimpArgs false
open Go.RowKit

theorem strB_beq (l l' : List UInt8) : ((strB l).toList == (strB l').toList) = decide (l = l') := by
  rw [ByteArray.toList_eq, ByteArray.toList_eq]
  simp only [strB]
  by_cases h : l = l' <;> simp [h]
theorem run_eqstr {P : Program} {o : Oper} {a : Act} (t t2 : TypeId) (x y : Operand) (ho : o.op = .binOp .eql t x y t2) (l l' : List UInt8) (hx : a.eval x = .string (strB l)) (hy : a.eval y = .string (strB l')) (W : World) : (execOp a.eval o).run P W = .ok (.value (.bool (decide (l = l')))) W := by
  have h2 : (binOp .eql t (.string (strB l)) (.string (strB l'))).run P W = .ok (.bool ((strB l).toList == (strB l').toList)) W := by go_simp
  unfold execOp
  simp only [ho, hx, hy, Sem.run_bind, Sem.run_pure, h2, Result.andThen_ok, strB_beq]
  go_simp
  rw [strB_beq]
/-- What is owned is made anew: what was there is as it was. -/
theorem below_own {w W W' : World} {v : Value} {l : List UInt8} (h : Below w.heap.size w W) (ho : OwnB W w.heap.size v l) (hg : W.grownBy W' v.ownBlock) : Below w.heap.size w W' := h.trans (grown_below hg h.size (fun g e => (ho.lt g e).1))
theorem made_new {w W W' : World} {NB : Nat} (hw : W.alloc (.cells #[] 5) = W') (hB : W.heap.size = NB) (hb : Below w.heap.size w W) : OwnB W' w.heap.size (.slice (some ⟨NB, 0, none⟩) 0 0) [] ∧ Below w.heap.size w W' ∧ Below W.heap.size W W' := by
  subst hw hB
  exact ⟨World.ownsRow_made _ #[] 0 hb.size (Nat.zero_le _) rfl, hb.alloc hb.size _, (Below.refl _ _).alloc (Nat.le_refl _) _⟩
theorem built_one {w W W' : World} {NB : Nat} {x : UInt8} (hw : W.alloc (.cells #[.int .u8 (x.toNat : Int)] 5) = W') (hB : W.heap.size = NB) (hb : Below w.heap.size w W) : RdB W' (some ⟨NB, 0, none⟩) [x] ∧ Below w.heap.size w W' ∧ Below W.heap.size W W' := by
  subst hw hB
  exact ⟨RdB.one (row_cell (fr := (0, 0)) (ha_new _ _ _ rfl) 0 rfl), hb.alloc hb.size _, (Below.refl _ _).alloc (Nat.le_refl _) _⟩
theorem below_new (w : World) (o : Obj) : Below w.heap.size w (w.alloc o) := (Below.refl _ _).alloc (Nat.le_refl _) _
theorem run_eqstr_true {P : Program} {o : Oper} {a : Act} (t t2 : TypeId) (x y : Operand) (ho : o.op = .binOp .eql t x y t2) (l l' : List UInt8) (h : l = l') (hx : a.eval x = .string (strB l)) (hy : a.eval y = .string (strB l')) (W : World) : (execOp a.eval o).run P W = .ok (.value (.bool true)) W := by
  have := run_eqstr (P := P) t t2 x y ho l l' hx hy W
  rwa [decide_eq_true h] at this
/-- Blocks that stand while a law is asked. -/
structure OneB (w : World) (t : TypeId) (M : Nat) (X : List UInt8) (W : World) : Prop where
  bel : Below w.heap.size w W
  b : W.heap[M]? = some (.cells (W8 X) t (0, 0))
theorem OneB.keep {w W W' : World} {t : TypeId} {M : Nat} {X : List UInt8} (h : OneB w t M X W) (hb : Below W.heap.size W W') : OneB w t M X W' := ⟨h.bel.trans (hb.mono h.bel.size), below_block hb (row_lt h.b) h.b⟩
/-- A row of slices that was made. -/
theorem built_rows {W W' : World} {NB : Nat} {vs : Array Value} (hw : W.alloc (.cells vs 22) = W') (hB : W.heap.size = NB) : RdV W' (some ⟨NB, 0, none⟩) vs.toList ∧ Below W.heap.size W W' := by
  subst hw hB
  exact ⟨RdV.row (t := 22) (fr := (0, 0)) (ha_new _ _ _ rfl), below_new _ _⟩
/-- The first texts, each cut. -/
def cutsL (k : Nat) (ls : List (List UInt8)) (j : Nat) : List (List UInt8) := (ls.take j).map (·.take k)
theorem cutsL_succ (k : Nat) (ls : List (List UInt8)) (j : Nat) (l : List UInt8) (h : ls[j]? = some l) : cutsL k ls (j + 1) = cutsL k ls j ++ [l.take k] := by
  rw [cutsL, List.take_add_one, h]; simp [cutsL]
theorem cutsL_flat (k : Nat) (ls : List (List UInt8)) (j : Nat) : (cutsL k ls j).flatten.length ≤ k * j := by
  have key : ∀ (q : List (List UInt8)), (q.map (·.take k)).flatten.length ≤ k * q.length := by
    intro q
    induction q with
    | nil => simp
    | cons l q ih =>
      simp only [List.map_cons, List.flatten_cons, List.length_append, List.length_take, List.length_cons, Nat.mul_succ]
      omega
  have h1 := key (ls.take j)
  have h2 : k * (ls.take j).length ≤ k * j := Nat.mul_le_mul (Nat.le_refl _) (by rw [List.length_take]; omega)
  unfold cutsL
  omega
theorem slices_one {vs : List Value} {ls : List (List UInt8)} {w : World} (h : All2 (SlB w) vs ls) : ∀ u ∈ vs, u.oneCell' = true := by
  induction h with
  | nil => intro u hu; cases hu
  | cons h1 _ ih =>
    intro u hu
    rcases List.mem_cons.1 hu with e | e
    · obtain ⟨A, c, e', _⟩ := h1
      rw [e, e']; rfl
    · exact ih u e
theorem ne_step {v v' : Value} {W : World} {N : Nat} (h : ∀ g, v.ownBlock = some g → N ≠ g) (hat : v'.ownBlock = v.ownBlock ∨ v'.ownBlock = some W.heap.size) (hN : N < W.heap.size) : ∀ g, v'.ownBlock = some g → N ≠ g := by
  intro g hg
  rcases hat with e | e
  · exact h g (e ▸ hg)
  · rw [e] at hg
    injection hg with hg
    omega
theorem fresh_ne {W : World} {N7 N4 : Nat} (h : N7 < W.heap.size) (hB : W.heap.size = N4) : ∀ g, (Value.slice (some ⟨N4, 0, none⟩) 0 0).ownBlock = some g → N7 ≠ g := by
  intro g e
  simp [Value.ownBlock] at e
  omega
theorem RdB.lt1 {w : World} {b o : Nat} {x : UInt8} {l : List UInt8} (h : RdB w (some ⟨b, o, none⟩) (x :: l)) : b < w.heap.size := h.lt (by simp) _ rfl
theorem _root_.Go.Proofs.YtlocplkjokoknaaGreat.RdV.lt1 {w : World} {b o : Nat} {v : Value} {l : List Value} (h : RdV w (some ⟨b, o, none⟩) (v :: l)) : b < w.heap.size := by
  obtain ⟨b', o', e, hc⟩ := h 0 v rfl
  cases e
  exact World.block_lt_of_cell? _ _ hc
theorem freeze_same (w : World) (a : Addr) (n : Nat) : (w.freeze a n).os = w.os ∧ (w.freeze a n).tape = w.tape ∧ (w.freeze a n).output = w.output := by
  unfold World.freeze
  split <;> exact ⟨rfl, rfl, rfl⟩
theorem bytesWorld_os (w : World) (e : TypeId) (s : ByteArray) : (Lib.bytesWorld w e s).os = w.os := (freeze_same _ _ _).1
theorem bytesWorld_tape (w : World) (e : TypeId) (s : ByteArray) : (Lib.bytesWorld w e s).tape = w.tape := (freeze_same _ _ _).2.1
theorem bytesWorld_output (w : World) (e : TypeId) (s : ByteArray) : (Lib.bytesWorld w e s).output = w.output := (freeze_same _ _ _).2.2
theorem run_neqstr_false {P : Program} {o : Oper} {a : Act} (t t2 : TypeId) (x y : Operand) (ho : o.op = .binOp .neq t x y t2) (l l' : List UInt8) (h : l = l') (hx : a.eval x = .string (strB l)) (hy : a.eval y = .string (strB l')) (W : World) : (execOp a.eval o).run P W = .ok (.value (.bool false)) W := by
  have e : ((strB l).toList == (strB l').toList) = true := by rw [strB_beq]; simpa using h
  unfold execOp
  simp only [ho, hx, hy, Sem.run_bind, Sem.run_pure]
  go_simp
/-- '[]byte(s)' of a string. -/
theorem bytes_wp {P : Program} {o : Oper} {a : Act} {Q : Exit → Act → World → Prop} {W : World} {K : Act → World → Prop} (src dst e : TypeId) (x : Operand) (ho : o.op = .convert src dst x) {u : TypeDesc} (hs : P.underlying src = some u) (hd : P.underlying dst = some (.slice e)) (he : P.underlying e = some (.int .u8))
    (l : List UInt8) (hx : a.eval x = .string (strB l))
    (h : ∀ w' c, RdB w' (some ⟨W.heap.size, 0, none⟩) l → l.length ≤ c → Below W.heap.size W w' → w'.heap.size = W.heap.size + 1 → K (a.put o.dst (.slice (some ⟨W.heap.size, 0, none⟩) l.length c)) w') : o.wp P a W K Q := by
  have hrun := Lib.run_convert_string_bytes (P := P) W src dst e (strB l) hs hd he
  unfold Oper.wp execOp
  simp only [ho, hx, Sem.run_bind, Sem.run_pure, hrun, Result.andThen_ok]
  have hsz : (strB l).size = l.length := strB_size l
  rw [hsz]
  refine h _ _ (fun j hj => ⟨W.heap.size, 0, rfl, ?_⟩) (grownCap_ge _ _ _ _) ⟨?_, ?_, ?_, ?_, ?_⟩ (Lib.bytesWorld_size _ _ _)
  · rw [Nat.zero_add, Lib.bytesWorld_cell W e (strB l) j (by rw [hsz]; exact hj)]
    simp [strB, List.getD_eq_getElem?_getD, hj]
  · exact bytesWorld_os _ _ _
  · exact bytesWorld_tape _ _ _
  · exact bytesWorld_output _ _ _
  · rw [Lib.bytesWorld_size]; omega
  · intro k hk
    exact Lib.bytesWorld_at_old W e (strB l) k hk
theorem bytes_list {P : Program} {ops : Array Oper} {rest : List Oper} {o : Oper} {a : Act} {Q : Exit → Act → World → Prop} {W : World} (hg : o.guard = none) (src dst e : TypeId) (x : Operand) (ho : o.op = .convert src dst x) {u : TypeDesc} (hs : P.underlying src = some u) (hd : P.underlying dst = some (.slice e)) (he : P.underlying e = some (.int .u8))
    (l : List UInt8) (hx : a.eval x = .string (strB l))
    (h : ∀ w' c, RdB w' (some ⟨W.heap.size, 0, none⟩) l → l.length ≤ c → Below W.heap.size W w' → w'.heap.size = W.heap.size + 1 → wpList P ops Q rest (a.put o.dst (.slice (some ⟨W.heap.size, 0, none⟩) l.length c)) w') : wpList P ops Q (o :: rest) a W :=
  wpList_plain hg fun _ hK => bytes_wp src dst e x ho hs hd he l hx (fun w' c h1 h2 h3 h4 => hK _ _ (h w' c h1 h2 h3 h4))
end Go.Proofs.YtlocplkjokoknaaGreat

/- The map of sealed texts. No condition but those each theorem states. -/
namespace Go.Proofs.YtlocplkjokoknaaGreat
set_option linter.unusedVariables false
set_option linter.unusedSimpArgs false
open Go.RowKit Go.WideShapes Go.ChangeShapes Go.MapKept

/-- What was sealed, and by what. -/
structure Ent where
  key : List UInt8
  beside : List UInt8
  text : List UInt8
def EntL (k b : List UInt8) (A : Option Addr) (n c : Nat) : List Value := B8 k ++ [.string (strB b), .slice A n c]
def EntV (k b : List UInt8) (A : Option Addr) (n c : Nat) : Value := .agg (EntL k b A n c).toArray
/-- A block of bytes. -/
def OfB (W : World) (k : Nat) : Prop := ∃ cur fr, W.heap[k]? = some (.cells cur 5 fr)
theorem OfB.same {W W' : World} {k : Nat} (h : OfB W k) (e : W'.heap[k]? = W.heap[k]?) : OfB W' k := by
  obtain ⟨cur, fr, h1⟩ := h
  exact ⟨cur, fr, e.trans h1⟩
theorem OfB.grown {W W' : World} {k : Nat} {r : Option Nat} (h : OfB W k) (hg : W.grownBy W' r) (hr : some k ≠ r) : OfB W' k := by
  obtain ⟨cur, fr, h1⟩ := h
  exact ⟨cur, fr, grown_block hg hr h1⟩
theorem OwnB.ofB {W : World} {base n c : Nat} {A : Option Addr} {l : List UInt8} (h : OwnB W base (.slice A n c) l) : ∀ a, A = some a → OfB W a.block := by
  rintro a rfl
  rcases h.2 with ⟨hv, _⟩ | ⟨g, cap, cur, hv, _, hh, _⟩
  · cases hv
  · cases hv
    exact ⟨cur, _, hh⟩
def EntR (lo : Nat) (W : World) (x : MapEntry) (p : List UInt8 × Ent) : Prop :=
  x.key = .string (strB p.1) ∧ ∃ A c, x.val = EntV p.2.key p.2.beside A p.2.text.length c ∧ RdB W A p.2.text ∧ p.2.key.length = 32 ∧ p.2.text.length ≤ c ∧ ∀ a, A = some a → a.block < W.heap.size ∧ lo ≤ a.block ∧ OfB W a.block
structure MapB (lo b : Nat) (m : List (List UInt8 × Ent)) (W : World) : Prop where
  has : ∃ es clock, W.heap[b]? = some (.map es clock) ∧ Go.MapKept.Stamped es clock ∧ All2 (EntR lo W) es.toList m
  small : ∀ p ∈ m, p.1.length ≤ 100000
  low : b < lo
theorem sLaw : Go.WideMaps.KeyLaw Tryz.prog 9 := Go.WideMaps.string_law Tryz.underlying9
theorem EntR.keep {lo : Nat} {W W' : World} {x : MapEntry} {p : List UInt8 × Ent} (h : EntR lo W x p) (hb : Below W.heap.size W W') : EntR lo W' x p := by
  obtain ⟨h1, A, c, h2, h3, h4, h5, h6⟩ := h
  exact ⟨h1, A, c, h2, h3.keep hb, h4, h5, fun a e => ⟨Nat.lt_of_lt_of_le (h6 a e).1 hb.size, (h6 a e).2.1, (h6 a e).2.2.same (hb.block _ (h6 a e).1)⟩⟩
theorem MapB.keep {lo b : Nat} {m : List (List UInt8 × Ent)} {W W' : World} (h : MapB lo b m W) (hb : Below W.heap.size W W') : MapB lo b m W' := by
  obtain ⟨es, clock, h1, h2, h3⟩ := h.has
  have hlt : b < W.heap.size := by
    rcases Nat.lt_or_ge b W.heap.size with h | h
    · exact h
    · rw [Array.getElem?_eq_none h] at h1; cases h1
  exact ⟨⟨es, clock, below_block hb hlt h1, h2, h3.mono fun a b h => h.keep hb⟩, h.small, h.low⟩
theorem MapB.lt {lo b : Nat} {m : List (List UInt8 × Ent)} {W : World} (h : MapB lo b m W) : b < W.heap.size := by
  obtain ⟨es, clock, h1, _, _⟩ := h.has
  rcases Nat.lt_or_ge b W.heap.size with h | h
  · exact h
  · rw [Array.getElem?_eq_none h] at h1; cases h1
theorem key_ok (s : List UInt8) (hs : s.length ≤ 100000) : ∃ l, keyOf Tryz.prog 9 (.string (strB s)) = some l :=
  ⟨_, Go.WideMaps.keyOf_string_mk Tryz.underlying9 (by rw [strB_size]; exact Nat.le_trans hs (Nat.le_of_ble_eq_true (by kernel_rfl)))⟩
theorem All2.at {α β : Type} {R : α → β → Prop} {xs : List α} {ys : List β} (h : All2 R xs ys) (j : Nat) (a : α) (ha : xs[j]? = some a) : ∃ b, ys[j]? = some b ∧ R a b := by
  induction h generalizing j with
  | nil => simp at ha
  | cons h1 _ ih =>
    cases j with
    | zero => simp at ha; subst ha; exact ⟨_, rfl, h1⟩
    | succ j => simp at ha ⊢; exact ih j ha
theorem All2.mem {α β : Type} {R : α → β → Prop} {xs : List α} {ys : List β} (h : All2 R xs ys) (a : α) (ha : a ∈ xs) : ∃ b, b ∈ ys ∧ R a b := by
  obtain ⟨j, hj, rfl⟩ := List.getElem_of_mem ha
  obtain ⟨b, hb, hr⟩ := h.at j _ (List.getElem?_eq_getElem hj)
  exact ⟨b, List.mem_of_getElem? hb, hr⟩
theorem All2.mem' {α β : Type} {R : α → β → Prop} {xs : List α} {ys : List β} (h : All2 R xs ys) (b : β) (hb : b ∈ ys) : ∃ a, a ∈ xs ∧ R a b := by
  obtain ⟨j, hj, rfl⟩ := List.getElem_of_mem hb
  obtain ⟨a, ha, hr⟩ := h.get j _ (List.getElem?_eq_getElem hj)
  exact ⟨a, List.mem_of_getElem? ha, hr⟩
def EntZ : Value := EntV (List.replicate 32 0) [] none 0 0
theorem zero_ent (W : World) : (zeroValue 132).run Tryz.prog W = .ok EntZ W := by kernel_rfl
theorem key_one {es : Array MapEntry} {clock : Nat} (hst : Stamped es clock) {i j : Nat} {x y : MapEntry} (hi : es.toList[i]? = some x) (hj : es.toList[j]? = some y) (h : x.key = y.key) : x = y := by
  have hn := hst.2.2
  obtain ⟨hi1, hi2⟩ := List.getElem?_eq_some_iff.mp hi
  obtain ⟨hj1, hj2⟩ := List.getElem?_eq_some_iff.mp hj
  have e : i = j := by
    have hp := List.pairwise_iff_getElem.mp hn
    have hx : (es.toList.map (·.key))[i]'(by rw [List.length_map]; exact hi1) = (es.toList.map (·.key))[j]'(by rw [List.length_map]; exact hj1) := by rw [List.getElem_map, List.getElem_map, hi2, hj2, h]
    rcases Nat.lt_trichotomy i j with h1 | h1 | h1
    · exact absurd hx (hp i j _ _ h1)
    · exact h1
    · exact absurd hx.symm (hp j i _ _ h1)
  subst e
  rw [hi] at hj
  exact Option.some.inj hj
set_option maxRecDepth 100000 in
/-- Looked up, in whatever world that has the same map. -/
theorem mapB_lookup {lo b : Nat} {m : List (List UInt8 × Ent)} {W : World} (h : MapB lo b m W) (s : List UInt8) (hs : s.length ≤ 100000) :
    ((∀ p ∈ m, p.1 ≠ s) ∧ ∀ W' : World, W'.heap[b]? = W.heap[b]? → (Instr.lookup 78 (.map (some b)) (.string (strB s)) true).run Tryz.prog W' = .ok (.tuple #[EntZ, .bool false]) W') ∨
    ∃ (j : Nat) (e : Ent) (A : Option Addr) (c : Nat), m[j]? = some (s, e) ∧ (∀ W' : World, W'.heap[b]? = W.heap[b]? → (Instr.lookup 78 (.map (some b)) (.string (strB s)) true).run Tryz.prog W' = .ok (.tuple #[EntV e.key e.beside A e.text.length c, .bool true]) W') ∧
      RdB W A e.text ∧ e.key.length = 32 ∧ e.text.length ≤ c ∧ ∀ a, A = some a → a.block < W.heap.size ∧ lo ≤ a.block ∧ OfB W a.block := by
  obtain ⟨es, clock, hb, hst, hall⟩ := h.has
  obtain ⟨l, hl⟩ := key_ok s hs
  have hkeys : ∀ e ∈ es.toList, ∃ l, keyOf Tryz.prog 9 e.key = some l := by
    intro e he
    obtain ⟨p, hp, hr⟩ := hall.mem e he
    rw [hr.1]
    exact key_ok p.1 (h.small p hp)
  rcases sLaw.find W hl es.toList hkeys with ⟨_, h2⟩ | ⟨j, e0, _, h2, h3⟩
  · left
    refine ⟨fun p hp e => ?_, fun W' hw => ?_⟩
    · obtain ⟨x, hx, hr⟩ := hall.mem' p hp
      exact h2 x hx (by rw [hr.1, e])
    · rw [hb] at hw
      rcases sLaw.find W' hl es.toList hkeys with ⟨h1, _⟩ | ⟨j, e0, _, h4, h5⟩
      · simp [Instr.lookup, run_underlying Tryz.underlying78, Go.MapKept.run_getObj_map hw, sLaw.check W' _ hl, h1, zero_ent W', Result.andThen]
      · exact absurd h5 (h2 e0 (List.mem_of_getElem? h4))
  · right
    obtain ⟨p, hp, hk, A, c, hv, hR, h32, hlc, hlt⟩ := hall.at j e0 h2
    have e1 : p.1 = s := by
      rw [h3] at hk
      injection hk with hk
      exact (strB_inj.mp hk).symm
    obtain ⟨ps, pe⟩ := p
    simp only at e1 hv hR h32 hlc
    subst e1
    refine ⟨j, pe, A, c, hp, fun W' hw => ?_, hR, h32, hlc, hlt⟩
    rw [hb] at hw
    rcases sLaw.find W' hl es.toList hkeys with ⟨_, h4⟩ | ⟨j', e0', h1, h4, h5⟩
    · exact absurd h3 (h4 e0 (List.mem_of_getElem? h2))
    · obtain rfl := key_one hst h2 h4 (by rw [h3, h5])
      simp [Instr.lookup, run_underlying Tryz.underlying78, Go.MapKept.run_getObj_map hw, sLaw.check W' _ hl, h1, hv, Result.andThen]
theorem grown_setBlock (W : World) (b : Nat) (o : Obj) : W.grownBy (Go.ChangeMaps.setBlock W b o) (some b) :=
  ⟨rfl, rfl, rfl, by simp [Go.ChangeMaps.setBlock], fun k hk hne => by
    simp only [Go.ChangeMaps.setBlock]
    rw [Array.getElem?_setIfInBounds_ne (by intro e; exact hne (by rw [e]))]⟩
theorem setBlock_get (W : World) (b : Nat) (o : Obj) (h : b < W.heap.size) : (Go.ChangeMaps.setBlock W b o).heap[b]? = some o := by
  simp [Go.ChangeMaps.setBlock, h]
theorem EntR.far {W W' : World} {lo : Nat} {x : MapEntry} {p : List UInt8 × Ent} {r : Option Nat} (h : EntR lo W x p) (hg : W.grownBy W' r) (hr : ∀ g, r = some g → g < lo) : EntR lo W' x p := by
  obtain ⟨h1, A, c, h2, h3, h4, h5, h6⟩ := h
  exact ⟨h1, A, c, h2, h3.grown hg (fun g e a ha => by have := hr g e; have := (h6 a ha).2.1; omega), h4, h5, fun a e => ⟨Nat.lt_of_lt_of_le (h6 a e).1 hg.size, (h6 a e).2.1, (h6 a e).2.2.grown hg (fun e2 => by have := hr _ e2.symm; have := (h6 a e).2.1; omega)⟩⟩
/-- .. left alone by what grows another block that no text lies in. -/
theorem MapB.far {W W' : World} {lo b : Nat} {m : List (List UInt8 × Ent)} {r : Option Nat} (h : MapB lo b m W) (hg : W.grownBy W' r) (hr : ∀ g, r = some g → g < lo ∧ g ≠ b) : MapB lo b m W' := by
  obtain ⟨es, clock, h1, h2, h3⟩ := h.has
  exact ⟨⟨es, clock, grown_block hg (fun e => (hr b e.symm).2 rfl) h1, h2, h3.mono fun x y hx => hx.far hg fun g e => (hr g e).1⟩, h.small, h.low⟩
theorem All2.set {α β : Type} {R : α → β → Prop} {xs : List α} {ys : List β} (h : All2 R xs ys) (j : Nat) (a : α) (b : β) (hab : R a b) : All2 R (xs.set j a) (ys.set j b) := by
  induction h generalizing j with
  | nil => simpa using All2.nil
  | cons h1 h2 ih =>
    cases j with
    | zero => exact .cons hab h2
    | succ j => exact .cons h1 (ih j)
set_option maxRecDepth 100000 in
/-- Put in. -/
theorem mapB_put {lo b : Nat} {m : List (List UInt8 × Ent)} {W : World} (h : MapB lo b m W) (s : List UInt8) (hs : s.length ≤ 100000) (e : Ent) (A : Option Addr) (c : Nat) (hm : m.length ≤ 100000)
    (hR : RdB W A e.text) (hk : e.key.length = 32) (hc : e.text.length ≤ c) (hA : ∀ a, A = some a → a.block < W.heap.size ∧ lo ≤ a.block ∧ OfB W a.block) :
    ∃ W', (Instr.mapUpdate 78 (.map (some b)) (.string (strB s)) (EntV e.key e.beside A e.text.length c)).run Tryz.prog W = .ok () W' ∧ W.grownBy W' (some b) ∧
      (((∀ p ∈ m, p.1 ≠ s) ∧ MapB lo b (m ++ [(s, e)]) W') ∨ ∃ (j : Nat) (e0 : Ent), m[j]? = some (s, e0) ∧ MapB lo b (m.set j (s, e)) W') := by
  obtain ⟨es, clock, hb, hst, hall⟩ := h.has
  obtain ⟨l, hl⟩ := key_ok s hs
  have hkeys : ∀ e ∈ es.toList, ∃ l, keyOf Tryz.prog 9 e.key = some l := by
    intro e he
    obtain ⟨p, hp, hr⟩ := hall.mem e he
    rw [hr.1]
    exact key_ok p.1 (h.small p hp)
  rcases sLaw.find W hl es.toList hkeys with ⟨h1, h2⟩ | ⟨j, e0, h1, h2, h3⟩
  · refine ⟨Go.ChangeMaps.setBlock W b (.map (es.push ⟨.string (strB s), EntV e.key e.beside A e.text.length c, clock⟩) (clock + 1)), ?_, grown_setBlock _ _ _, .inl ⟨?_, ⟨⟨_, _, setBlock_get _ _ _ h.lt, stamped_push hst h2, ?_⟩, ?_, ?_⟩⟩⟩
    · simp [Instr.mapUpdate, run_underlying Tryz.underlying78, Go.MapKept.run_getObj_map hb, sLaw.check W false hl, h1, Go.MapKept.run_setObj_map _ hb, Result.andThen, Go.ChangeMaps.setBlock]
    · intro p hp e1
      obtain ⟨x, hx, hr⟩ := hall.mem' p hp
      exact h2 x hx (by rw [hr.1, e1])
    · rw [Array.toList_push]
      refine (hall.mono fun x y hr => hr.far (grown_setBlock W b _) (by rintro g ⟨⟩; exact h.low)).snoc ⟨rfl, A, c, rfl, hR.grown (grown_setBlock _ _ _) (fun g ee a ha => by cases ee; have := (hA a ha).2.1; have := h.low; omega), hk, hc, fun a ea => ⟨Nat.lt_of_lt_of_le (hA a ea).1 (grown_setBlock W b _).size, (hA a ea).2.1, (hA a ea).2.2.grown (grown_setBlock W b _) (fun e2 => by have := Option.some.inj e2; have := (hA a ea).2.1; have := h.low; omega)⟩⟩
    · intro p hp
      rcases List.mem_append.mp hp with h3 | h3
      · exact h.small p h3
      · simp at h3; rw [h3]; exact hs
    · exact h.low
  · obtain ⟨p, hp, hr⟩ := hall.at j e0 h2
    have e1 : p.1 = s := by
      have hk := hr.1
      rw [h3] at hk
      injection hk with hk
      exact (strB_inj.mp hk).symm
    obtain ⟨ps, pe⟩ := p
    simp only at e1
    subst e1
    have hj : es[j]? = some e0 := by simpa using h2
    have hkeyf : ∀ e', es[j]? = some e' → ({ e' with key := .string (strB ps), val := EntV e.key e.beside A e.text.length c } : MapEntry).key = e'.key := fun e' he' => by rw [hj] at he'; cases he'; exact h3.symm
    refine ⟨Go.ChangeMaps.setBlock W b (.map (es.modify j (fun e' => { e' with key := .string (strB ps), val := EntV e.key e.beside A e.text.length c })) clock), ?_, grown_setBlock _ _ _, .inr ⟨j, pe, hp, ⟨⟨_, _, setBlock_get _ _ _ h.lt, stamped_modify hst _ _ (fun _ _ => rfl) (fun e' _ he' => hkeyf e' he'), ?_⟩, ?_, ?_⟩⟩⟩
    · simp [Instr.mapUpdate, run_underlying Tryz.underlying78, Go.MapKept.run_getObj_map hb, sLaw.check W false hl, h1, hj, h3, sLaw.stays W hl, Go.MapKept.run_setObj_map _ hb, Result.andThen, Go.ChangeMaps.setBlock]
    · rw [Array.toList_modify, Go.ChangeMaps.modify_eq_set _ _ _ _ h2]
      exact (hall.mono fun x y hr => hr.far (grown_setBlock W b _) (by rintro g ⟨⟩; exact h.low)).set j _ _ ⟨rfl, A, c, rfl, hR.grown (grown_setBlock _ _ _) (fun g ee a ha => by cases ee; have := (hA a ha).2.1; have := h.low; omega), hk, hc, fun a ea => ⟨Nat.lt_of_lt_of_le (hA a ea).1 (grown_setBlock W b _).size, (hA a ea).2.1, (hA a ea).2.2.grown (grown_setBlock W b _) (fun e2 => by have := Option.some.inj e2; have := (hA a ea).2.1; have := h.low; omega)⟩⟩
    · intro p hp2
      rcases List.mem_or_eq_of_mem_set hp2 with h3 | h3
      · exact h.small p h3
      · rw [h3]; exact hs
    · exact h.low
end Go.Proofs.YtlocplkjokoknaaGreat

/- slices.Concat at bytes: a row of the call's own with the texts' bytes, one behind the other. No condition but those each theorem states. -/
namespace Go.Proofs.YtlocplkjokoknaaGreat
set_option linter.unusedVariables false
set_option linter.unusedSimpArgs false
open Go.RowKit
attribute [local go_sem ↓] Go.wp_at_zero Go.wp_at_succ

set_option maxRecDepth 100000 in
set_option maxHeartbeats 1000000 in
theorem grow_any (w : World) (n : Nat) (hb : n ≤ 140737488355328) :
    Calls Tryz.prog 46 #[.slice none 0 0, .int .i64 (n : Int)] w fun e w' => ∃ v, e = .returned v ∧ OwnB w' w.heap.size v [] ∧ Below w.heap.size w w' := by
  obtain ⟨i0, hi, hz0, hz1, hz2⟩ := info_parts (show (Tryz.prog.info? 5).map (fun i => (i.zero, i.size, i.bytes)) = some (some (.int .u8 0), 1, 1) by kernel_rfl)
  have nb : (n : Int) ≤ 140737488355328 := by omega
  by_cases h0 : n = 0
  · subst h0
    go_enter Tryz.func46, Tryz.ntmps46
    go_wp2_with fail
    go_ret
    exact ⟨_, rfl, OwnB.nil _ _, Below.refl _ _⟩
  · have hD : decide ((0 : Int) < (n : Int)) = true := by simp; omega
    have n0 : (0 : Int) < (n : Int) := by omega
    have G := Lib.hid (show n ≤ grownCap w n 0 5 ∧ grownCap w n 0 5 ≤ maxLen from ⟨grownCap_ge _ _ _ _, grownCap_le_maxLen _ _ _ _ (by unfold maxLen; omega)⟩)
    have HRZ := Lib.hid (fun ty => Lib.run_append_nil_zeros (P := Tryz.prog) w 22 3 ty 5 i0 _ .i64 .i64 Tryz.underlying22 Tryz.underlying3 hi hz0 n (by omega) (by omega) (by omega) (by rw [hz2]; omega))
    have S0 := Lib.hid (show (Builtin.zeroCells (Value.int .u8 0).cells n ++ Builtin.zeroCells (Value.int .u8 0).cells (grownCap w n 0 5 - n)).size = grownCap w n 0 5 * 1 by
      rw [Array.size_append, size_zeroCells, size_zeroCells]
      have := G.out
      have e : (Value.int .u8 0).cells.size = 1 := rfl
      rw [e]
      omega)
    generalize Builtin.zeroCells (Value.int .u8 0).cells n ++ Builtin.zeroCells (Value.int .u8 0).cells (grownCap w n 0 5 - n) = cs at *
    generalize grownCap w n 0 5 = cap at *
    clear h0 hb hi hz0 hz1 hz2
    go_enter Tryz.func46, Tryz.ntmps46
    go_wp2_with (refine Lib.wpList_append_run _ rfl (.tmp 20) (.tmp 21) 22 3 rfl _ _ rfl rfl _ _ (HRZ.out _) ?_)
    go_ret
    exact ⟨_, rfl, World.ownsRow_made w.drew cs cap (Nat.le_refl _) G.out.2 S0.out, (Below.refl _ _).drew.alloc (Nat.le_refl _) _⟩
theorem flat_take_le' (ls : List (List UInt8)) (j : Nat) : (ls.take j).flatten.length ≤ ls.flatten.length := by
  conv => rhs; rw [← List.take_append_drop j ls]
  rw [List.flatten_append, List.length_append]
  omega
set_option maxRecDepth 100000 in
set_option maxHeartbeats 2000000 in
theorem concat_any (w : World) (A : Option Addr) (n c : Nat) (vs : List Value) (ls : List (List UInt8)) (hn : vs.length = n) (hR : RdV w A vs) (hall : All2 (SlB w) vs ls) (hfl : ls.flatten.length ≤ 1000000) (hnb : n ≤ 1000000) :
    Calls Tryz.prog 23 #[.slice A n c] w fun e w' => ∃ v, e = .returned v ∧ OwnB w' w.heap.size v ls.flatten ∧ Below w.heap.size w w' := by
  have TB := Lib.hid (show ByteT Tryz.prog from ⟨Tryz.underlying22, by kernel_rfl⟩)
  have HR := Lib.hid hR
  have HA := Lib.hid hall
  have HF := Lib.hid hfl
  have NL := Lib.hid (show ls.length = n by rw [← hall.length, hn])
  have nb : (n : Int) ≤ 1000000 := by omega
  clear hn hR hall hnb hfl
  go_enter Tryz.func23, Tryz.ntmps23
  go_wp2_with fail
  go_loopw [3, 11] (fun u i wr => ∃ (j S : Nat), j ≤ n ∧ i = .int .i64 (j : Int) ∧ u = .int .i64 (S : Int) ∧ (ls.take j).flatten.length = S ∧ wr = w) (fun _ i _ => n - (intOf i).toNat)
  case atStart => exact ⟨0, 0, by omega, rfl, rfl, by simp, rfl⟩
  case round =>
    obtain ⟨j, S, hj, rfl, rfl, hsum, hw⟩ := hrel
    rw [hw]
    clear hw wr
    have J := Lib.hid hj
    have SM := Lib.hid hsum
    have sb : (S : Int) ≤ 1000000 := by have := flat_take_le' ls j; have := HF.out; omega
    clear hsum
    by_cases hlt : j < n
    · have hD : decide ((j : Int) < (n : Int)) = true := by simp; omega
      have jb : (j : Int) < (n : Int) := by omega
      obtain ⟨l, hl⟩ : ∃ l, ls[j]? = some l := ⟨_, List.getElem?_eq_getElem (by rw [NL.out]; exact hlt)⟩
      obtain ⟨v, hv, A', c', rfl, hc', hR'⟩ := HA.out.get j l hl
      obtain ⟨b, o, rfl, hcell⟩ := HR.out j _ hv
      have TL := Lib.hid (show (ls.take (j + 1)).flatten.length = (ls.take j).flatten.length + l.length by rw [List.take_add_one, hl]; simp)
      obtain ⟨m, hm⟩ : ∃ m, m = l.length := ⟨_, rfl⟩
      rw [← hm] at hcell TL
      have mb : (m : Int) ≤ 1000000 := by have := flat_take_le' ls (j + 1); have := HF.out; have := TL.out; omega
      obtain ⟨T, hT⟩ : ∃ T, T = S + m := ⟨_, rfl⟩
      have e1 : (S : Int) + (m : Int) = (T : Int) := by omega
      have T0 : ¬ ((T : Int) < 0) := by omega
      have hE : decide ((T : Int) < 0) = false := by simp
      have TT := Lib.hid (show (ls.take (j + 1)).flatten.length = T by have := TL.out; have := SM.out; omega)
      clear hl hv hc' hR' hm hT
      go_wp2_with fail
      go_roundw
      case rel => exact ⟨j + 1, T, by omega, by go_num, rfl, TT.out, trivial⟩
      case measure => simp [intOf]; omega
    · have hD : decide ((j : Int) < (n : Int)) = false := by simp; omega
      have SN := Lib.hid (show S = ls.flatten.length by have := SM.out; rw [List.take_of_length_le (by rw [NL.out]; omega)] at this; omega)
      go_wp2_with fail
      refine (grow_any w S (by have := SN.out; have := HF.out; omega)).mono ?_
      rintro e w1 ⟨v0, rfl, ho, hb⟩
      have O0 := Lib.hid ho
      have S0 := Lib.hid hb
      clear ho hb hD sb
      go_wp2_with fail
      go_loopw [6, 27] (fun u i wr => ∃ j : Nat, j ≤ n ∧ i = .int .i64 (j : Int) ∧ OwnB wr w.heap.size u (ls.take j).flatten ∧ Below w.heap.size w wr) (fun _ i _ => n - (intOf i).toNat)
      case atStart => exact ⟨0, by omega, rfl, O0.out, S0.out⟩
      case round =>
        obtain ⟨j, hj, rfl, ho, hbel⟩ := hrel
        have J := Lib.hid hj
        have O := Lib.hid ho
        have S := Lib.hid hbel
        clear ho hbel
        by_cases hlt : j < n
        · have hD : decide ((j : Int) < (n : Int)) = true := by simp; omega
          have jb : (j : Int) < (n : Int) := by omega
          obtain ⟨l, hl⟩ : ∃ l, ls[j]? = some l := ⟨_, List.getElem?_eq_getElem (by rw [NL.out]; exact hlt)⟩
          obtain ⟨v, hv, A', c', rfl, hc', hR'⟩ := HA.out.get j l hl
          obtain ⟨b, o, rfl, hcell⟩ := (HR.out.keep S.out) j _ hv
          have TL := Lib.hid (show (ls.take (j + 1)).flatten = (ls.take j).flatten ++ l by rw [List.take_add_one, hl]; simp)
          have TN := Lib.hid (show (ls.take j).flatten.length + l.length ≤ 1000000 by have := flat_take_le' ls (j + 1); have := HF.out; have := congrArg List.length TL.out; rw [List.length_append] at this; omega)
          obtain ⟨m, hm⟩ : ∃ m, m = l.length := ⟨_, rfl⟩
          rw [← hm] at hcell TN
          have ME := Lib.hid hm.symm
          have RY := Lib.hid (hR'.keep S.out)
          clear hl hv hc' hR' hm
          go_wp2_with (refine app_list rfl TB.out (.tmp 31) (.tmp 32) rfl w.heap.size u6 (ls.take j).flatten l A' m c' rfl rfl ME.out O.out RY.out S.out.size (by have := TN.out; omega) ?_)
          intro v1 w2 ho hg _
          have S := Lib.hid (S.out.trans (grown_below hg S.out.size (fun k e => (O.out.lt k e).1)))
          have O := Lib.hid (show OwnB w2 w.heap.size v1 (ls.take (j + 1)).flatten by rw [TL.out]; exact ho)
          clear ho hg hcell
          go_wp2_with fail
          go_roundw
          case rel => exact ⟨j + 1, by omega, by go_num, O.out, S.out⟩
          case measure => simp [intOf]; omega
        · have hD : decide ((j : Int) < (n : Int)) = false := by simp; omega
          have LE := Lib.hid (show ls.take j = ls by rw [List.take_of_length_le (by rw [NL.out]; omega)])
          go_wp2_with fail
          go_ret
          exact ⟨_, rfl, by have := O.out; rwa [LE.out] at this, S.out⟩
end Go.Proofs.YtlocplkjokoknaaGreat

/- A word is turned: what math/bits.RotateLeft32 tells, of a count that is not a multiple of 32. -/
namespace Go.Proofs.YtlocplkjokoknaaGreat
set_option linter.unusedVariables false
set_option linter.unusedSimpArgs false
open Go.RowKit

theorem rot_core (x : UInt32) (r : Nat) (hr : r < 32) (h0 : 0 < r) :
    bits .or .u32 ((x.toNat : Int) * 2 ^ r % 4294967296) ((x.toNat : Int) / 2 ^ (32 - r)) = ((rotl x r).toNat : Int) := by
  have h1 : (x.toNat : Int) * 2 ^ r % 4294967296 = ((x.toNat * 2 ^ r % 4294967296 : Nat) : Int) := by
    rw [Int.natCast_emod, Int.natCast_mul, Int.natCast_pow]; rfl
  have h2 : (x.toNat : Int) / 2 ^ (32 - r) = ((x.toNat / 2 ^ (32 - r) : Nat) : Int) := by
    rw [Int.natCast_ediv, Int.natCast_pow]; rfl
  rw [h1, h2, u32_or_nat]
  · have e1 : (UInt32.ofNat r).toNat = r := by simp; omega
    have e2 : (UInt32.ofNat (32 - r)).toNat = 32 - r := by simp; omega
    congr 1
    rw [rotl, UInt32.toNat_or, UInt32.toNat_shiftLeft, UInt32.toNat_shiftRight, e1, e2, Nat.mod_eq_of_lt hr, Nat.mod_eq_of_lt (show 32 - r < 32 by omega), Nat.shiftLeft_eq, Nat.shiftRight_eq_div_pow]
  · omega
  · have := x.toNat_lt
    exact Nat.lt_of_le_of_lt (Nat.div_le_self _ _) this

set_option maxRecDepth 100000 in
theorem rot_any (x : UInt32) (k : Int) (w : World) (r : Nat) (hr : (r : Int) < 32) (h0 : (0 : Int) < (r : Int)) (hk : bits .and .u64 (IntKind.u64.wrap k) 31 = (r : Int)) :
    Calls Tryz.prog 137 #[.int .u32 (x.toNat : Int), .int .i64 k] w fun e w' => e = .returned (.int .u32 ((rotl x r).toNat : Int)) ∧ w' = w := by
  have hc := rot_core x r (by omega) (by omega)
  go_enter Tryz.func137, Tryz.ntmps137
  go_wp2
  go_ret
  exact ⟨rfl, rfl⟩
end Go.Proofs.YtlocplkjokoknaaGreat

/- Words turned to the right; the beginning, the constants. -/
namespace Go.Proofs.YtlocplkjokoknaaGreat
set_option linter.unusedVariables false
set_option linter.unusedSimpArgs false
open Go.RowKit

/-- A word turned to the right. -/
def rotr (x : UInt32) (n : Nat) : UInt32 := rotl x (32 - n)
set_option maxRecDepth 100000 in
theorem sturned_any (x : UInt32) (n : Nat) (w : World) (hn : (n : Int) < 32) (h0 : (0 : Int) < (n : Int)) (hk : bits .and .u64 (IntKind.u64.wrap (-(n : Int))) 31 = ((32 - n : Nat) : Int)) :
    Calls Tryz.prog 128 #[.int .u32 (x.toNat : Int), .int .i64 (n : Int)] w fun e w' => e = .returned (.int .u32 ((rotr x n).toNat : Int)) ∧ w' = w := by
  have K := Lib.hid hk
  clear hk
  go_enter Tryz.func128, Tryz.ntmps128
  go_wp2_with fail
  refine (rot_any x (-(n : Int)) w (32 - n) (by omega) (by omega) K.out).mono ?_
  rintro e w1 ⟨rfl, rfl⟩
  go_wp2_with fail
  go_ret
  exact ⟨rfl, rfl⟩

def beginL : List UInt32 := [0x6a09e667, 0xbb67ae85, 0x3c6ef372, 0xa54ff53a, 0x510e527f, 0x9b05688c, 0x1f83d9ab, 0x5be0cd19]
def constL : List UInt32 := [
  0x428a2f98, 0x71374491, 0xb5c0fbcf, 0xe9b5dba5, 0x3956c25b, 0x59f111f1, 0x923f82a4, 0xab1c5ed5,
  0xd807aa98, 0x12835b01, 0x243185be, 0x550c7dc3, 0x72be5d74, 0x80deb1fe, 0x9bdc06a7, 0xc19bf174,
  0xe49b69c1, 0xefbe4786, 0x0fc19dc6, 0x240ca1cc, 0x2de92c6f, 0x4a7484aa, 0x5cb0a9dc, 0x76f988da,
  0x983e5152, 0xa831c66d, 0xb00327c8, 0xbf597fc7, 0xc6e00bf3, 0xd5a79147, 0x06ca6351, 0x14292967,
  0x27b70a85, 0x2e1b2138, 0x4d2c6dfc, 0x53380d13, 0x650a7354, 0x766a0abb, 0x81c2c92e, 0x92722c85,
  0xa2bfe8a1, 0xa81a664b, 0xc24b8b70, 0xc76c51a3, 0xd192e819, 0xd6990624, 0xf40e3585, 0x106aa070,
  0x19a4c116, 0x1e376c08, 0x2748774c, 0x34b0bcb5, 0x391c0cb3, 0x4ed8aa4a, 0x5b9cca4f, 0x682e6ff3,
  0x748f82ee, 0x78a5636f, 0x84c87814, 0x8cc70208, 0x90befffa, 0xa4506ceb, 0xbef9a3f7, 0xc67178f2]
theorem beginL_length : beginL.length = 8 := rfl
theorem constL_length : constL.length = 64 := rfl
set_option maxRecDepth 100000 in
set_option maxHeartbeats 1000000 in
theorem begin_any (w : World) : Calls Tryz.prog 106 #[] w fun e w' => e = .returned (.agg (W32 beginL)) ∧ Below w.heap.size w w' := by
  have Z := Lib.hid (show (Tryz.prog.info? 198).map (·.size) = some (W32 beginL).size by kernel_rfl)
  go_enter Tryz.func106, Tryz.ntmps106
  go_wp2_with (refine wpList_store_new rfl rfl 198 (.tmp 0) (.tmp 1) rfl (W32 beginL) rfl rfl Z.out ?c1 (W32_one _) ?_)
  case c1 => rfl
  go_wp2_with fail
  refine bodyPost_ret (results_cell_row rfl _ _ w.heap.size 198 (W32 beginL) (0, 0) _ rfl (ha_new _ _ _ rfl) Tryz.underlying198 rfl Z.out) rfl ?_
  exact ⟨rfl, (Below.refl _ _).alloc (Nat.le_refl _) _⟩
end Go.Proofs.YtlocplkjokoknaaGreat

/- The words of a block's rounds. -/
namespace Go.Proofs.YtlocplkjokoknaaGreat
set_option linter.unusedVariables false
set_option linter.unusedSimpArgs false
open Go.RowKit
attribute [local go_sem ↓] Go.wp_at_zero Go.wp_at_succ

set_option maxRecDepth 100000 in
set_option maxHeartbeats 1000000 in
theorem constants_any (w : World) : Calls Tryz.prog 127 #[] w fun e w' => e = .returned (.agg (W32 constL)) ∧ Below w.heap.size w w' := by
  have Z := Lib.hid (show (Tryz.prog.info? 205).map (·.size) = some (W32 constL).size by kernel_rfl)
  go_enter Tryz.func127, Tryz.ntmps127
  go_wp2_with (refine wpList_store_new rfl rfl 205 (.tmp 0) (.tmp 1) rfl (W32 constL) rfl rfl Z.out ?c1 (W32_one _) ?_)
  case c1 => rfl
  refine bodyPost_ret (results_cell_row rfl _ _ w.heap.size 205 (W32 constL) (0, 0) _ rfl (ha_new _ _ _ rfl) Tryz.underlying205 rfl Z.out) rfl ?_
  exact ⟨rfl, (Below.refl _ _).alloc (Nat.le_refl _) _⟩

def word4 (b : List UInt8) (t : Nat) : Nat → UInt32
  | 0 => 0
  | j + 1 => word4 b t j <<< 8 ||| (b.getD (4 * t + j) 0).toUInt32
def lowL (x : UInt32) : UInt32 := rotr x 7 ^^^ rotr x 18 ^^^ x >>> 3
def highL (y : UInt32) : UInt32 := rotr y 17 ^^^ rotr y 19 ^^^ y >>> 10
def nextL (l : List UInt32) (t : Nat) : UInt32 := l.getD (t - 16) 0 + lowL (l.getD (t - 15) 0) + l.getD (t - 7) 0 + highL (l.getD (t - 2) 0)
def schedK (b : List UInt8) : Nat → List UInt32
  | 0 => List.replicate 64 0
  | t + 1 => (schedK b t).set t (if t < 16 then word4 b t 4 else nextL (schedK b t) t)
theorem schedK_length (b : List UInt8) (t : Nat) : (schedK b t).length = 64 := by
  induction t with
  | zero => simp [schedK]
  | succ t ih => simp [schedK, ih]
theorem schedK_get (b : List UInt8) : ∀ (t i : Nat), t ≤ i → (schedK b t).getD i 0 = 0
  | 0, i, _ => by
    unfold schedK
    rw [List.getD_eq_getElem?_getD]
    by_cases h : i < 64
    · rw [List.getElem?_eq_getElem (by simpa using h), List.getElem_replicate]; rfl
    · rw [List.getElem?_eq_none (by simp; omega)]; rfl
  | t + 1, i, h => by
    rw [schedK, List.getD_eq_getElem?_getD, List.getElem?_set_ne (by omega), ← List.getD_eq_getElem?_getD]
    exact schedK_get b t i (by omega)
theorem step4 (x : UInt32) (y : UInt8) : bits .or .u32 ((x.toNat : Int) * 256 % 4294967296) (y.toNat : Int) = ((x <<< 8 ||| y.toUInt32).toNat : Int) := by
  have h1 : (x.toNat : Int) * 256 % 4294967296 = ((x.toNat * 256 % 4294967296 : Nat) : Int) := by
    rw [Int.natCast_emod, Int.natCast_mul]; rfl
  have e1 : (8 : UInt32).toNat % 32 = 8 := rfl
  rw [h1, u32_or_nat _ _ (by omega) (by have := y.toNat_lt; omega), UInt32.toNat_or, UInt32.toNat_shiftLeft, e1, Nat.shiftLeft_eq, UInt8.toNat_toUInt32]

theorem shr_low (x : UInt32) (k : Nat) (hk : k < 32) : (x.toNat : Int) / ((2 ^ k : Nat) : Int) = ((x >>> (UInt32.ofNat k)).toNat : Int) := by
  have e1 : (UInt32.ofNat k).toNat = k := by simp; omega
  rw [UInt32.toNat_shiftRight, e1, Nat.mod_eq_of_lt hk, Nat.shiftRight_eq_div_pow, Int.natCast_ediv]
theorem low_ex (x : UInt32) : ∃ z : UInt32, Hid (z = lowL x) ∧ bits .xor .u32 (bits .xor .u32 ((rotr x 7).toNat : Int) ((rotr x 18).toNat : Int)) ((x.toNat : Int) / 8) = (z.toNat : Int) := by
  refine ⟨_, rfl, ?_⟩
  have h := shr_low x 3 (by omega)
  rw [show ((2 ^ 3 : Nat) : Int) = 8 from rfl, show UInt32.ofNat 3 = 3 from rfl] at h
  rw [h, u32_xor', u32_xor']
  rfl
theorem high_ex (x : UInt32) : ∃ z : UInt32, Hid (z = highL x) ∧ bits .xor .u32 (bits .xor .u32 ((rotr x 17).toNat : Int) ((rotr x 19).toNat : Int)) ((x.toNat : Int) / 1024) = (z.toNat : Int) := by
  refine ⟨_, rfl, ?_⟩
  have h := shr_low x 10 (by omega)
  rw [show ((2 ^ 10 : Nat) : Int) = 1024 from rfl, show UInt32.ofNat 10 = 10 from rfl] at h
  rw [h, u32_xor', u32_xor']
  rfl
/-- The call's own: the answer's variable, and the words so far. -/
structure ScW (w : World) (l : List UInt32) (W : World) : Prop where
  bz : W.heap[w.heap.size]? = some (.cells (W32 (List.replicate 64 0)) 205 (0, 0))
  bs : W.heap[w.heap.size + 1]? = some (.cells (W32 l) 205 (0, 0))
  bel : Below w.heap.size w W
theorem ScW.set {w W : World} {l : List UInt32} (h : ScW w l W) (i : Nat) (x : UInt32) : ScW w (l.set i x) (W.setCell ⟨w.heap.size + 1, i, none⟩ (.int .u32 (x.toNat : Int))) where
  bz := grown_block (grown_set (World.grownBy.refl _ _) _ _) (by simp) h.bz
  bs := by rw [heap_setCell_same _ _ _ _ _ _ h.bs, W32_set]
  bel := h.bel.trans (grown_below (grown_set (World.grownBy.refl W (some (w.heap.size + 1))) _ _) (Nat.le_of_lt (row_lt h.bz)) (by rintro g ⟨⟩; omega))
theorem ScW.keep {w W W' : World} {l : List UInt32} (h : ScW w l W) (h' : Below W.heap.size W W') : ScW w l W' where
  bz := below_block h' (row_lt h.bz) h.bz
  bs := below_block h' (row_lt h.bs) h.bs
  bel := h.bel.trans (h'.mono (Nat.le_of_lt (row_lt h.bz)))

set_option maxRecDepth 100000 in
set_option maxHeartbeats 2000000 in
theorem schedule_any (b : List UInt8) (hb : b.length = 64) (w : World) (g o : Nat) (hR : RdB w (some ⟨g, o, none⟩) b) (hg : g < w.heap.size) :
    Calls Tryz.prog 126 #[.pointer (some ⟨g, o, none⟩)] w fun e w' => e = .returned (.agg (W32 (schedK b 64))) ∧ Below w.heap.size w w' := by
  have HB := Lib.hid hb
  have HR := Lib.hid hR
  have HG := Lib.hid hg
  clear hb hR hg
  obtain ⟨i0, hi, hz0, hz1, hz2⟩ := info_parts (show (Tryz.prog.info? 5).map (fun i => (i.zero, i.size, i.bytes)) = some (some (.int .u8 0), 1, 1) by kernel_rfl)
  have I0 := Lib.hid hi
  have I2 := Lib.hid hz1
  clear hi hz0 hz1 hz2
  go_enter Tryz.func126, Tryz.ntmps126
  go_wp2_with fail
  refine wp_abs (fun W => ScW w (schedK b 0) W) ⟨ha_old _ _ _ (by simp) (ha_new _ _ _ rfl), ha_new _ _ _ (by simp), ((Below.refl _ _).alloc (Nat.le_refl _) _).alloc (by simp) _⟩ ?_
  intro w1 h1
  have H1 := Lib.hid h1
  clear h1
  go_loopw [11] (fun i wr => ∃ t : Nat, t ≤ 64 ∧ i = .int .i64 (t : Int) ∧ ScW w (schedK b t) wr) (fun i _ => 64 - (intOf i).toNat)
  case atStart => exact ⟨0, by omega, rfl, H1.out⟩
  case round =>
    obtain ⟨t, ht, rfl, h2⟩ := hrel
    have H2 := Lib.hid h2
    clear h2 H1 w1
    by_cases hlt : t < 64
    · have hD : decide ((t : Int) < 64) = true := by simp; omega
      by_cases h16 : t < 16
      · have hE : decide ((t : Int) < 16) = true := by simp; omega
        have hX : ∀ W : World, (Instr.sliceAt 179 (.pointer (some ⟨g, o, none⟩)) (some (.int .i64 (4 * (t : Int)))) (some (.int .i64 (4 * (t : Int) + 4))) none).run Tryz.prog W = .ok (.slice (some ⟨g, o + 4 * t, none⟩) 4 (64 - 4 * t)) W := fun W => by
          have := slice_ptr (P := Tryz.prog) 179 5 64 Tryz.underlying179 I0.out I2.out g o (4 * t) (4 * t + 4) (by omega) (by omega) (by omega) W
          rw [show 4 * t + 4 - 4 * t = 4 by omega] at this
          exact this
        go_wp2_with fail
        clear hX
        go_loopw [25] (fun i wq => ∃ j : Nat, j ≤ 4 ∧ i = .int .i64 (j : Int) ∧ ScW w ((schedK b t).set t (word4 b t j)) wq) (fun i _ => 4 - (intOf i).toNat)
        case atStart =>
          refine ⟨0, by omega, rfl, ?_⟩
          have e : (schedK b t).set t (word4 b t 0) = schedK b t := by
            apply List.ext_getElem?
            intro i
            by_cases h : i = t
            · subst h
              rw [List.getElem?_set_self (by rw [schedK_length]; exact hlt)]
              have := schedK_get b i i (Nat.le_refl _)
              rw [List.getD_eq_getElem?_getD, List.getElem?_eq_getElem (by rw [schedK_length]; exact hlt)] at this
              rw [List.getElem?_eq_getElem (by rw [schedK_length]; exact hlt)]
              simp at this
              rw [this]; rfl
            · rw [List.getElem?_set_ne (by omega)]
          rw [e]
          exact H2.out
        case round =>
          obtain ⟨j, hj, rfl, h3⟩ := hrel
          have H3 := Lib.hid h3
          clear h3
          have L3 := Lib.hid (show ((schedK b t).set t (word4 b t j)).length = 64 by rw [List.length_set, schedK_length])
          by_cases hj4 : j < 4
          · have hF : decide ((j : Int) < 4) = true := by simp; omega
            obtain ⟨x, hx⟩ : ∃ x, x = word4 b t j := ⟨_, rfl⟩
            obtain ⟨y, hy⟩ : ∃ y, y = b.getD (4 * t + j) 0 := ⟨_, rfl⟩
            have a1 := row_cell H3.out.bs t (W32_get _ t (by rw [L3.out]; exact hlt))
            rw [show ((schedK b t).set t (word4 b t j)).getD t 0 = x by rw [hx, List.getD_eq_getElem?_getD, List.getElem?_set_self (by rw [schedK_length]; exact hlt)]; rfl] at a1
            have a2 := row_free H3.out.bs t
            obtain ⟨b', o', e', a3⟩ := (HR.out.below H3.out.bel (fun a e => by cases e; exact HG.out)) (4 * t + j) (by rw [HB.out]; omega)
            cases e'
            rw [← hy, ← Nat.add_assoc] at a3
            have X := Lib.hid hx
            have Y := Lib.hid hy
            clear hx hy
            go_wp2_with fail
            go_roundw
            case rel =>
              refine ⟨j + 1, by omega, by go_num, ?_⟩
              rw [show ((y.toNat : Int) % 4294967296) = (y.toNat : Int) by have := y.toNat_lt; omega, step4 x y]
              have := H3.out.set t (x <<< 8 ||| y.toUInt32)
              rw [List.set_set] at this
              rw [word4, ← X.out, ← Y.out]
              exact this
            case measure => simp [intOf]; omega
          · have hj4' : Hid (j = 4) := show j = 4 by omega
            have hF : decide ((j : Int) < 4) = false := by simp; omega
            go_wp2_with fail
            go_roundw
            case rel =>
              refine ⟨t + 1, by omega, by go_num, ?_⟩
              rw [schedK, if_pos h16, ← hj4'.out]
              exact H3.out
            case measure => simp [intOf]; omega
      · have hE : decide ((t : Int) < 16) = false := by simp; omega
        obtain ⟨xa, hxa⟩ : ∃ x, x = (schedK b t).getD (t - 15) 0 := ⟨_, rfl⟩
        obtain ⟨xb, hxb⟩ : ∃ x, x = (schedK b t).getD (t - 2) 0 := ⟨_, rfl⟩
        obtain ⟨xc, hxc⟩ : ∃ x, x = (schedK b t).getD (t - 16) 0 := ⟨_, rfl⟩
        obtain ⟨xd, hxd⟩ : ∃ x, x = (schedK b t).getD (t - 7) 0 := ⟨_, rfl⟩
        have SL := Lib.hid (show (schedK b t).length = 64 from schedK_length b t)
        have a1 := row_cell H2.out.bs (t - 15) (W32_get _ (t - 15) (by rw [SL.out]; omega))
        have a2 := row_cell H2.out.bs (t - 2) (W32_get _ (t - 2) (by rw [SL.out]; omega))
        rw [← hxa] at a1
        rw [← hxb] at a2
        have XA := Lib.hid hxa
        have XB := Lib.hid hxb
        have XC := Lib.hid hxc
        have XD := Lib.hid hxd
        clear hxa hxb hxc hxd
        go_wp2_with fail
        go_region
        obtain ⟨lo, hlo, e1⟩ := low_ex xa
        obtain ⟨hi, hhi, e2⟩ := high_ex xb
        have W1 := Lib.hid (show ScW w (schedK b t) wr.drew from H2.out.keep (Below.refl _ _).drew)
        clear a1 a2
        obtain ⟨w1, hw1⟩ : ∃ w1, w1 = wr.drew := ⟨_, rfl⟩
        have E1 := Lib.hid e1
        have E2 := Lib.hid e2
        clear e1 e2
        go_wp2_with fail
        refine (sturned_any xa 7 _ (by omega) (by omega) (by decide)).mono ?_
        rintro e w' ⟨rfl, rfl⟩
        go_wp2_with fail
        refine (sturned_any xa 18 _ (by omega) (by omega) (by decide)).mono ?_
        rintro e w' ⟨rfl, rfl⟩
        have e1 := E1.out
        go_wp2_with fail
        clear e1
        refine (sturned_any xb 17 _ (by omega) (by omega) (by decide)).mono ?_
        rintro e w' ⟨rfl, rfl⟩
        go_wp2_with fail
        refine (sturned_any xb 19 _ (by omega) (by omega) (by decide)).mono ?_
        rintro e w' ⟨rfl, rfl⟩
        have e2 := E2.out
        go_wp2_with fail
        clear e2 E1 E2 hw1
        obtain ⟨w1, hw1⟩ : ∃ w1, w1 = wr.drew := ⟨_, rfl⟩
        rw [← hw1] at W1 ⊢
        have a1 := row_cell W1.out.bs (t - 16) (W32_get _ (t - 16) (by rw [SL.out]; omega))
        have a2 := row_cell W1.out.bs (t - 7) (W32_get _ (t - 7) (by rw [SL.out]; omega))
        rw [← XC.out] at a1
        rw [← XD.out] at a2
        have a3 := row_free W1.out.bs t
        have a4 := row_cell W1.out.bs t (W32_get _ t (by rw [SL.out]; omega))
        clear hw1
        go_region
        clear a1 a2 a3 a4
        go_wp2_with fail
        go_roundw
        case rel =>
          refine ⟨t + 1, by omega, by go_num, ?_⟩
          rw [schedK, if_neg h16, nextL, ← XA.out, ← XB.out, ← XC.out, ← XD.out, ← hlo.out, ← hhi.out]
          have := (W1.out.set t (xc + lo + xd + hi)).keep (Below.refl _ _).drew
          rw [← u32_add, ← u32_add, ← u32_add] at this
          rw [show ((xc.toNat : Int) + (lo.toNat : Int) + (xd.toNat : Int) + (hi.toNat : Int)) % 4294967296 = ((((xc.toNat : Int) + (lo.toNat : Int)) % 4294967296 + (xd.toNat : Int)) % 4294967296 + (hi.toNat : Int)) % 4294967296 by omega]
          exact this
        case measure => simp [intOf]; omega
    · have ht64 : Hid (t = 64) := show t = 64 by omega
      have hD : decide ((t : Int) < 64) = false := by simp; omega
      have SL := Lib.hid (show (schedK b t).length = 64 from schedK_length b t)
      obtain ⟨l, hl⟩ : ∃ l, l = schedK b t := ⟨_, rfl⟩
      rw [← hl] at H2 SL
      have EL := Lib.hid hl
      clear hl
      have Z := Lib.hid (show (Tryz.prog.info? 205).map (·.size) = some (W32 l).size by rw [W32_size, SL.out]; kernel_rfl)
      clear hlt ht
      go_wp2_with (first
        | (refine wpList_load_row rfl 205 (.tmp 3) rfl (w.heap.size + 1) rfl 205 (W32 l) (0, 0) _ H2.out.bs Tryz.underlying205 rfl Z.out ?_)
        | (refine wpList_store_whole rfl rfl 205 (.tmp 2) (.tmp 79) rfl w.heap.size (W32 l) rfl rfl 205 _ H2.out.bz Z.out (by rw [W32_size, W32_size, SL.out]; simp) (W32_one _) ?_; intro w8 hz8 hg8 _))
      refine bodyPost_ret (results_cell_row rfl _ _ w.heap.size 205 (W32 l) (0, 0) _ rfl hz8 Tryz.underlying205 rfl Z.out) rfl ⟨?_, ?_⟩
      · rw [EL.out, ht64.out]
      · exact H2.out.bel.trans (grown_below hg8 (Nat.le_of_lt (row_lt H2.out.bz)) (by rintro g ⟨⟩; omega))
end Go.Proofs.YtlocplkjokoknaaGreat

/- A sum in the making, as it lies in memory: whether it was made, eight words, 64 bytes, how many bytes. And what taking in a block does to the words. No program. -/
namespace Go.Proofs.YtlocplkjokoknaaGreat
set_option linter.unusedVariables false
set_option linter.unusedSimpArgs false
open Go.RowKit

def HBl (made : Bool) (s : List UInt32) (rest : List UInt8) (n : Nat) : List Value := Value.bool made :: ((s.map fun x => Value.int .u32 (x.toNat : Int)) ++ ((rest.map fun x => Value.int .u8 (x.toNat : Int)) ++ [Value.int .u64 (n : Int)]))
def HB (made : Bool) (s : List UInt32) (rest : List UInt8) (n : Nat) : Array Value := (HBl made s rest n).toArray
theorem HB_size (made : Bool) (s : List UInt32) (rest : List UInt8) (n : Nat) (hs : s.length = 8) (hr : rest.length = 64) : (HB made s rest n).size = 74 := by simp [HB, HBl, hs, hr]
theorem HB_made (made : Bool) (s : List UInt32) (rest : List UInt8) (n : Nat) : (HB made s rest n)[0]? = some (.bool made) := by simp [HB, HBl]
theorem HB_s (made : Bool) (s : List UInt32) (rest : List UInt8) (n : Nat) (i : Nat) (hi : i < s.length) : (HB made s rest n)[1 + i]? = some (.int .u32 ((s.getD i 0).toNat : Int)) := by
  simp only [HB, HBl, List.getElem?_toArray, Nat.add_comm 1, List.getElem?_cons_succ]
  rw [List.getElem?_append_left (by simpa using hi)]
  simp [hi]
theorem HB_rest (made : Bool) (s : List UInt32) (rest : List UInt8) (n : Nat) (hs : s.length = 8) (i : Nat) (hi : i < rest.length) : (HB made s rest n)[9 + i]? = some (.int .u8 ((rest.getD i 0).toNat : Int)) := by
  simp only [HB, HBl, List.getElem?_toArray, show 9 + i = (8 + i) + 1 by omega, List.getElem?_cons_succ]
  rw [List.getElem?_append_right (by simp [hs]), List.length_map, hs, show 8 + i - 8 = i by omega, List.getElem?_append_left (by simpa using hi)]
  simp [hi]
theorem HB_n (made : Bool) (s : List UInt32) (rest : List UInt8) (n : Nat) (hs : s.length = 8) (hr : rest.length = 64) : (HB made s rest n)[73]? = some (.int .u64 (n : Int)) := by
  simp only [HB, HBl, List.getElem?_toArray, List.getElem?_cons_succ]
  rw [List.getElem?_append_right (by simp [hs]), List.getElem?_append_right (by simp [hs, hr])]
  simp [hs, hr]
theorem HB_set_made (made m2 : Bool) (s : List UInt32) (rest : List UInt8) (n : Nat) : (HB made s rest n).setIfInBounds 0 (.bool m2) = HB m2 s rest n := by simp [HB, HBl]
theorem HB_set_s (made : Bool) (s : List UInt32) (rest : List UInt8) (n : Nat) (i : Nat) (hi : i < s.length) (x : UInt32) : (HB made s rest n).setIfInBounds (1 + i) (.int .u32 (x.toNat : Int)) = HB made (s.set i x) rest n := by
  simp only [HB, HBl, List.setIfInBounds_toArray, Nat.add_comm 1, List.set_cons_succ]
  rw [List.set_append_left _ _ (by simpa using hi), List.map_set]
theorem HB_set_rest (made : Bool) (s : List UInt32) (rest : List UInt8) (n : Nat) (hs : s.length = 8) (i : Nat) (hi : i < rest.length) (x : UInt8) : (HB made s rest n).setIfInBounds (9 + i) (.int .u8 (x.toNat : Int)) = HB made s (rest.set i x) n := by
  simp only [HB, HBl, List.setIfInBounds_toArray, show 9 + i = (8 + i) + 1 by omega, List.set_cons_succ]
  rw [List.set_append_right _ _ (by simp [hs]), List.length_map, hs, show 8 + i - 8 = i by omega, List.set_append_left _ _ (by simpa using hi), List.map_set]
theorem HB_set_n (made : Bool) (s : List UInt32) (rest : List UInt8) (n m : Nat) (hs : s.length = 8) (hr : rest.length = 64) : (HB made s rest n).setIfInBounds 73 (.int .u64 (m : Int)) = HB made s rest m := by
  simp only [HB, HBl, List.setIfInBounds_toArray, List.set_cons_succ]
  rw [List.set_append_right _ _ (by simp [hs]), List.set_append_right _ _ (by simp [hs, hr])]
  simp [hs, hr]

/-- A round. -/
def chL (v : List UInt32) : UInt32 := v.getD 6 0 ^^^ (v.getD 4 0 &&& (v.getD 5 0 ^^^ v.getD 6 0))
def mjL (v : List UInt32) : UInt32 := (v.getD 0 0 &&& v.getD 1 0) ||| (v.getD 2 0 &&& (v.getD 0 0 ||| v.getD 1 0))
def xL (k w : UInt32) (v : List UInt32) : UInt32 := v.getD 7 0 + (rotr (v.getD 4 0) 6 ^^^ rotr (v.getD 4 0) 11 ^^^ rotr (v.getD 4 0) 25) + chL v + k + w
def yL (v : List UInt32) : UInt32 := (rotr (v.getD 0 0) 2 ^^^ rotr (v.getD 0 0) 13 ^^^ rotr (v.getD 0 0) 22) + mjL v
def roundL (k w : UInt32) (v : List UInt32) : List UInt32 := [xL k w v + yL v, v.getD 0 0, v.getD 1 0, v.getD 2 0, v.getD 3 0 + xL k w v, v.getD 4 0, v.getD 5 0, v.getD 6 0]
def roundsL (ks ws : List UInt32) (v : List UInt32) : Nat → List UInt32
  | 0 => v
  | t + 1 => roundL (ks.getD t 0) (ws.getD t 0) (roundsL ks ws v t)
theorem roundsL_length (ks ws : List UInt32) (v : List UInt32) (hv : v.length = 8) (t : Nat) : (roundsL ks ws v t).length = 8 := by
  cases t with
  | zero => exact hv
  | succ t => rfl
def sumK (s v : List UInt32) : Nat → List UInt32
  | 0 => s
  | i + 1 => (sumK s v i).set i ((sumK s v i).getD i 0 + v.getD i 0)
theorem sumK_length (s v : List UInt32) (i : Nat) : (sumK s v i).length = s.length := by
  induction i with
  | zero => rfl
  | succ i ih => simp [sumK, ih]
/-- The words behind a block. -/
def takeL (s : List UInt32) (b : List UInt8) : List UInt32 := sumK s (roundsL constL (schedK b 64) s 64) 8
theorem takeL_length (s : List UInt32) (b : List UInt8) : (takeL s b).length = s.length := sumK_length _ _ _
end Go.Proofs.YtlocplkjokoknaaGreat

/- What has been taken in: the bytes, one by one. No condition. -/
namespace Go.Proofs.YtlocplkjokoknaaGreat
set_option linter.unusedVariables false
set_option linter.unusedSimpArgs false
open Go.RowKit

/-- What a Hash holds. -/
structure HSt where
  s : List UInt32
  rest : List UInt8
  n : Nat
structure HSt.ok (h : HSt) : Prop where
  hs : h.s.length = 8
  hr : h.rest.length = 64
/-- Nothing was taken in. -/
def startH : HSt := ⟨beginL, List.replicate 64 0, 0⟩
theorem startH_ok : startH.ok := ⟨rfl, by simp [startH]⟩
/-- Some bytes that fit into what is left of the block, laid at once. -/
def layL (rest : List UInt8) (p : Nat) (l : List UInt8) : List UInt8 := rest.take p ++ (l ++ rest.drop (p + l.length))
theorem layL_length (rest : List UInt8) (p : Nat) (l : List UInt8) (h : p + l.length ≤ rest.length) : (layL rest p l).length = rest.length := by
  simp [layL]; omega
theorem layL_full (rest : List UInt8) (l : List UInt8) (h : l.length = rest.length) : layL rest 0 l = l := by
  simp [layL, h]
/-- Some bytes that fit. -/
def stepW (h : HSt) (l : List UInt8) : HSt :=
  if (h.n + l.length) % 64 = 0 then ⟨takeL h.s (layL h.rest (h.n % 64) l), layL h.rest (h.n % 64) l, h.n + l.length⟩ else ⟨h.s, layL h.rest (h.n % 64) l, h.n + l.length⟩
/-- A byte. -/
def putB (h : HSt) (c : UInt8) : HSt := stepW h [c]
theorem stepW_ok {h : HSt} (k : h.ok) (l : List UInt8) (hl : h.n % 64 + l.length ≤ 64) : (stepW h l).ok := by
  have e : (layL h.rest (h.n % 64) l).length = 64 := by rw [layL_length _ _ _ (by rw [k.hr]; exact hl), k.hr]
  unfold stepW
  split
  · exact ⟨by simp [takeL_length, k.hs], e⟩
  · exact ⟨k.hs, e⟩
theorem putB_ok {h : HSt} (k : h.ok) (c : UInt8) : (putB h c).ok := stepW_ok k [c] (by simp; omega)
/-- Bytes. -/
def putsB (h : HSt) (l : List UInt8) : HSt := l.foldl putB h
theorem putsB_ok {h : HSt} (k : h.ok) : ∀ (l : List UInt8), (putsB h l).ok := by
  intro l
  induction l generalizing h with
  | nil => exact k
  | cons c l ih => exact ih (putB_ok k c)
theorem putsB_append (h : HSt) (l l' : List UInt8) : putsB h (l ++ l') = putsB (putsB h l) l' := by simp [putsB]
theorem putsB_nil (h : HSt) : putsB h [] = h := rfl
theorem stepW_n (h : HSt) (l : List UInt8) : (stepW h l).n = h.n + l.length := by unfold stepW; split <;> rfl
theorem putB_n (h : HSt) (c : UInt8) : (putB h c).n = h.n + 1 := stepW_n h [c]
theorem putsB_n (h : HSt) : ∀ (l : List UInt8), (putsB h l).n = h.n + l.length := by
  intro l
  induction l generalizing h with
  | nil => rfl
  | cons c l ih =>
    show (putsB (putB h c) l).n = _
    rw [ih, putB_n, List.length_cons]
    omega
theorem layL_cons (rest : List UInt8) (p : Nat) (c : UInt8) (l : List UInt8) (h : p < rest.length) : layL (layL rest p [c]) (p + 1) l = layL rest p (c :: l) := by
  have e1 : (layL rest p [c]).take (p + 1) = rest.take p ++ [c] := by
    have : (rest.take p ++ [c]).length = p + 1 := by simp; omega
    unfold layL
    rw [← List.append_assoc, List.take_append_of_le_length (by omega), List.take_of_length_le (by omega)]
  have e2 : (layL rest p [c]).drop (p + 1 + l.length) = rest.drop (p + 1 + l.length) := by
    have : (rest.take p ++ [c]).length = p + 1 := by simp; omega
    unfold layL
    rw [← List.append_assoc, List.drop_append, List.drop_of_length_le (by omega), this, List.drop_drop]
    simp
  rw [layL, e1, e2, layL]
  simp [Nat.add_assoc, Nat.add_comm 1]
/-- Fewer bytes than fill the block, or just so many, at once. -/
theorem putsB_some (h : HSt) (k : h.ok) : ∀ (l : List UInt8), l ≠ [] → h.n % 64 + l.length ≤ 64 → putsB h l = stepW h l := by
  intro l
  induction l generalizing h with
  | nil => intro h0; exact absurd rfl h0
  | cons c l ih =>
    intro _ hl
    simp only [List.length_cons] at hl
    by_cases h0 : l = []
    · subst h0; rfl
    · have hlen : 0 < l.length := List.length_pos_iff.2 h0
      show putsB (putB h c) l = _
      rw [ih _ (putB_ok k c) h0 (by rw [putB_n]; omega)]
      have e : putB h c = ⟨h.s, layL h.rest (h.n % 64) [c], h.n + 1⟩ := by
        unfold putB stepW
        rw [if_neg (by simp; omega)]
        rfl
      have em : (h.n + 1) % 64 = h.n % 64 + 1 := by omega
      rw [e]
      unfold stepW
      simp only [em, List.length_cons]
      rw [layL_cons _ _ _ _ (by rw [k.hr]; omega), show h.n + 1 + l.length = h.n + (l.length + 1) by omega]
/-- A whole block. -/
theorem putsB_block (h : HSt) (k : h.ok) (l : List UInt8) (h0 : h.n % 64 = 0) (hl : l.length = 64) : putsB h l = ⟨takeL h.s l, l, h.n + 64⟩ := by
  rw [putsB_some h k l (by intro e; rw [e] at hl; cases hl) (by omega)]
  unfold stepW
  rw [h0, layL_full _ _ (by rw [k.hr, hl]), hl, if_pos (by omega)]
/-- What stands behind a text. -/
def beLs : Nat → Nat → List UInt8
  | 0, _ => []
  | k + 1, x => UInt8.ofNat (x / 2 ^ (8 * k)) :: beLs k x
theorem beLs_length (k x : Nat) : (beLs k x).length = k := by
  induction k with
  | zero => rfl
  | succ k ih => simp [beLs, ih]
def zerosN (n : Nat) : Nat := (55 + 64 - n % 64) % 64
def tailL (n : Nat) : List UInt8 := 0x80 :: (List.replicate (zerosN n) 0 ++ beLs 8 (n * 8 % 18446744073709551616))
/-- The sum's bytes. -/
def outL (s : List UInt32) : List UInt8 := (List.range 32).map fun i => (s.getD (i / 4) 0 >>> UInt32.ofNat (8 * (3 - i % 4))).toUInt8
theorem outL_length (s : List UInt32) : (outL s).length = 32 := by simp [outL]
def sumH (h : HSt) : List UInt8 := outL (putsB h (tailL h.n)).s
theorem sumH_length (h : HSt) : (sumH h).length = 32 := outL_length _
/-- The sum of bytes. -/
def hashL (l : List UInt8) : List UInt8 := sumH (putsB startH l)
theorem hashL_length (l : List UInt8) : (hashL l).length = 32 := outL_length _
end Go.Proofs.YtlocplkjokoknaaGreat

/- A block is taken in. -/
namespace Go.Proofs.YtlocplkjokoknaaGreat
set_option linter.unusedVariables false
set_option linter.unusedSimpArgs false
open Go.RowKit
attribute [local go_sem ↓] Go.wp_at_zero Go.wp_at_succ

theorem HB_range (made : Bool) (s : List UInt32) (rest : List UInt8) (n : Nat) (w : World) (g : Nat) (t : TypeId) (h : w.heap[g]? = some (.cells (HB made s rest n) t (0, 0))) : w.rangeAt g 1 (s.map fun x => Value.int .u32 (x.toNat : Int)) := by
  intro j v hj
  have hjl : j < s.length := by have := (List.getElem?_eq_some_iff.1 hj).1; simpa using this
  have h2 := HB_s made s rest n j hjl
  rw [List.getElem?_map, List.getElem?_eq_getElem hjl] at hj
  cases hj
  refine row_cell h (1 + j) ?_
  rw [h2]
  simp [List.getD_eq_getElem?_getD, hjl]
theorem HB_RdB (made : Bool) (s : List UInt32) (rest : List UInt8) (n : Nat) (hs : s.length = 8) (w : World) (g : Nat) (t : TypeId) (h : w.heap[g]? = some (.cells (HB made s rest n) t (0, 0))) : RdB w (some ⟨g, 9, none⟩) rest := fun j hj =>
  ⟨g, 9, rfl, row_cell h (9 + j) (HB_rest made s rest n hs j hj)⟩
theorem list8 : ∀ (v : List UInt32), v.length = 8 → v = [v.getD 0 0, v.getD 1 0, v.getD 2 0, v.getD 3 0, v.getD 4 0, v.getD 5 0, v.getD 6 0, v.getD 7 0]
  | [_, _, _, _, _, _, _, _], _ => rfl
theorem sumW_ex (x y : UInt32) : ∃ z : UInt32, Hid (z = x + y) ∧ IntKind.u32.wrap ((x.toNat : Int) + (y.toNat : Int)) = (z.toNat : Int) := ⟨_, rfl, by rw [IntKind.wrap_u32, u32_add]⟩
theorem xor3_ex (a b c : UInt32) : ∃ z : UInt32, Hid (z = a ^^^ b ^^^ c) ∧ bits .xor .u32 (bits .xor .u32 (a.toNat : Int) (b.toNat : Int)) (c.toNat : Int) = (z.toNat : Int) := ⟨_, rfl, by rw [u32_xor', u32_xor']⟩
/-- copy(dst, src) between places of rows that are known whole, at an operation: elements of one cell. -/
theorem copy_wp {P : Program} {o : Oper} {a : Act} {w : World} {K : Act → World → Prop} {Q : Exit → Act → World → Prop} (d s : Operand) (dT sT : TypeId) (ho : o.op = .call { callee := .builtin .copy, args := #[d, s], argTypes := #[dT, sT] }) (elem : TypeId) (hu : P.underlying dT = some (.slice elem)) (hsz : (P.info? elem).map (·.size) = some 1)
    (g off dLen dCap : Nat) (ad : Addr) (sLen sCap : Nat) (hd : a.eval d = .slice (some ⟨g, off, none⟩) dLen dCap) (hs : a.eval s = .slice (some ad) sLen sCap)
    (cur : Array Value) (t : TypeId) (hg : w.heap[g]? = some (.cells cur t (0, 0))) (cs : List Value) (hn : cs.length = Nat.min sLen dLen)
    (hsrc : ∀ j v, cs[j]? = some v → w.cell? (ad.add j) = some v) (hfit : off + cs.length ≤ cur.size) (h1 : ∀ v ∈ cs, v.oneCell' = true)
    (h : K (a.put o.dst (goInt cs.length)) (w.setRow g (cur.toList.take off ++ cs ++ cur.toList.drop (off + cs.length)).toArray)) : o.wp P a w K Q := by
  have hrun := run_copy_row (P := P) w dT sT o.type elem g off dLen dCap ad sLen sCap cur t cs hu hsz hg hn hsrc hfit h1
  unfold Oper.wp execOp
  simp only [ho, resolve, invoke, builtin, Sem.run_bind, Sem.run_pure, Result.andThen_ok, List.map_toArray, List.map_cons, List.map_nil, hd, hs, hrun]
  exact h
theorem shift8 (v0 v1 v2 v3 v4 v5 v6 v7 : UInt32) : ((W32 [v0, v1, v2, v3, v4, v5, v6, v7]).toList.take 1 ++ ([v0, v1, v2, v3, v4, v5, v6].map fun x => Value.int .u32 (x.toNat : Int)) ++ (W32 [v0, v1, v2, v3, v4, v5, v6, v7]).toList.drop (1 + ([v0, v1, v2, v3, v4, v5, v6].map fun x => Value.int .u32 (x.toNat : Int)).length)).toArray = W32 [v0, v0, v1, v2, v3, v4, v5, v6] := by simp [W32]
def zero64L : List UInt32 := List.replicate 64 0
def zero8L : List UInt32 := List.replicate 8 0
/-- What is known while a block is taken in. -/
structure TkW (w : World) (g : Nat) (made : Bool) (s : List UInt32) (rest : List UInt8) (n : Nat) (A : Nat) (v : List UInt32) (W : World) : Prop where
  hb : W.heap[g]? = some (.cells (HB made s rest n) 201 (0, 0))
  bw : W.heap[A]? = some (.cells (W32 (schedK rest 64)) 205 (0, 0))
  bk : W.heap[A + 1]? = some (.cells (W32 constL) 205 (0, 0))
  bv : W.heap[A + 2]? = some (.cells (W32 v) 198 (0, 0))
  gr : w.grownBy W (some g)
theorem TkW.step {w W W' : World} {g A : Nat} {made : Bool} {s v v' : List UInt32} {rest : List UInt8} {n : Nat} (h : TkW w g made s rest n A v W) (hgr : W.grownBy W' (some (A + 2))) (GA : g < A) (WA : w.heap.size ≤ A) (hv : W'.heap[A + 2]? = some (.cells (W32 v') 198 (0, 0))) : TkW w g made s rest n A v' W' where
  hb := grown_block hgr (by simp; omega) h.hb
  bw := grown_block hgr (by simp) h.bw
  bk := grown_block hgr (by simp) h.bk
  bv := hv
  gr := ⟨hgr.os.trans h.gr.os, hgr.tape.trans h.gr.tape, hgr.output.trans h.gr.output, Nat.le_trans h.gr.size hgr.size, fun k hk hne => (hgr.block k (Nat.lt_of_lt_of_le hk h.gr.size) (by simp; omega)).trans (h.gr.block k hk hne)⟩
set_option maxRecDepth 100000 in
set_option maxHeartbeats 4000000 in
theorem take_any (g : Nat) (made : Bool) (s : List UInt32) (rest : List UInt8) (n : Nat) (hs : s.length = 8) (hr : rest.length = 64) (w : World) (h : w.heap[g]? = some (.cells (HB made s rest n) 201 (0, 0))) :
    Calls Tryz.prog 107 #[.pointer (some ⟨g, 1, none⟩), .pointer (some ⟨g, 9, none⟩)] w fun e w' => e = .returned (.tuple #[]) ∧ w'.heap[g]? = some (.cells (HB made (takeL s rest) rest n) 201 (0, 0)) ∧ w.grownBy w' (some g) := by
  have HS := Lib.hid hs
  have HR := Lib.hid hr
  have H := Lib.hid h
  have LS := Lib.hid (schedK_length rest 64)
  have ZW := Lib.hid (show (Tryz.prog.info? 205).map (·.size) = some (W32 (schedK rest 64)).size by rw [W32_size, LS.out]; kernel_rfl)
  have ZC := Lib.hid (show (Tryz.prog.info? 205).map (·.size) = some (W32 constL).size by kernel_rfl)
  have ZS := Lib.hid (show (Tryz.prog.info? 198).map (·.size) = some (s.map fun x => Value.int .u32 (x.toNat : Int)).length by rw [List.length_map, HS.out]; kernel_rfl)
  have ZS2 := Lib.hid (show (Tryz.prog.info? 198).map (·.size) = some (W32 s).size by rw [W32_size, HS.out]; kernel_rfl)
  clear hs hr h
  go_enter Tryz.func107, Tryz.ntmps107
  go_wp2_with fail
  refine (schedule_any rest HR.out w g 9 (HB_RdB made s rest n HS.out w g _ H.out) (row_lt H.out)).mono ?_
  rintro e w1 ⟨rfl, hb1⟩
  obtain ⟨sw, hsw⟩ : ∃ sw, sw = schedK rest 64 := ⟨_, rfl⟩
  rw [← hsw] at LS ZW ⊢
  have SW := Lib.hid hsw
  clear hsw
  have B1 := Lib.hid hb1
  clear hb1
  go_wp2_with fail
  refine (constants_any w1).mono ?_
  rintro e w2 ⟨rfl, hb2⟩
  obtain ⟨kc, hkc⟩ : ∃ kc, kc = constL := ⟨_, rfl⟩
  rw [← hkc] at ZC ⊢
  have KC := Lib.hid hkc
  have LK := Lib.hid (show kc.length = 64 by rw [hkc]; rfl)
  have B2 := Lib.hid (B1.out.trans (hb2.mono B1.out.size))
  clear hkc hb2 B1
  obtain ⟨A, hA⟩ : ∃ A, A = w2.heap.size := ⟨_, rfl⟩
  have GA := Lib.hid (show g < A by have := row_lt H.out; have := B2.out.size; omega)
  have WA := Lib.hid (show w.heap.size ≤ A by have := B2.out.size; omega)
  have G2 := Lib.hid (below_block B2.out (row_lt H.out) H.out)
  go_upto_region 1 with (first
    | (refine wpList_store_whole rfl rfl 205 (.tmp 4) (.tmp 16) rfl w2.heap.size (W32 sw) rfl rfl 205 (W32 zero64L) (ha_old _ _ _ (by simp) (ha_new _ _ _ rfl)) ZW.out (by rw [W32_size, W32_size, LS.out]; rfl) (W32_one _) ?_; intro w3 hg3 hgr3 hs3)
    | (refine wpList_store_whole rfl rfl 205 (.tmp 5) (.tmp 17) rfl (w2.heap.size + 1) (W32 kc) rfl rfl 205 (W32 zero64L) (grown_block hgr3 (by simp) (ha_new _ _ _ (by simp))) ZC.out (by rw [W32_size, W32_size, LK.out]; rfl) (W32_one _) ?_; intro w4 hg4 hgr4 hs4))
  have F0 := Lib.hid (grown_block hgr4 (by simp) hg3)
  have F1 := Lib.hid hg4
  have S4 := Lib.hid (show w4.heap.size = A + 2 by rw [hs4, hs3, ha_size, ha_size, hA])
  have G4 := Lib.hid (show Below w.heap.size w w4 from
    ((B2.out.alloc B2.out.size _).alloc (by have := B2.out.size; simp; omega) _).trans ((grown_below hgr3 (by have := B2.out.size; simp; omega) (fun k e => by have := B2.out.size; cases e; omega)).trans (grown_below hgr4 (by rw [hs3]; have := B2.out.size; simp; omega) (fun k e => by have := B2.out.size; cases e; omega))))
  rw [← hA] at F0 F1 ⊢
  have H4 := Lib.hid (below_block G4.out (row_lt H.out) H.out)
  clear hg3 hgr3 hs3 hg4 hgr4 hs4 hA w3 B2 G2
  go_upto_region 2 with (first
    | (refine wpList_load_mid rfl 198 (.tmp 19) rfl g 1 rfl (s.map fun x => Value.int .u32 (x.toNat : Int)) _ (HB_range made s rest n w4 g _ H4.out) Tryz.underlying198 rfl ZS.out ?_)
    | (refine wpList_store_new rfl rfl 198 (.tmp 6) (.tmp 20) rfl (W32 s) rfl rfl ZS2.out (by rw [W32_size, HS.out]; rfl) (W32_one _) ?_))
  have T5 := Lib.hid (show TkW w g made s rest n A s (w4.alloc (.cells (W32 s) 198)) from
    ⟨ha_old _ _ _ (row_lt H4.out) H4.out, by rw [← SW.out]; exact ha_old _ _ _ (row_lt F0.out) F0.out, by rw [← KC.out]; exact ha_old _ _ _ (row_lt F1.out) F1.out, ha_new _ _ _ S4.out.symm,
      by have h1 := G4.out.alloc G4.out.size (.cells (W32 s) 198); exact ⟨h1.os, h1.tape, h1.output, h1.size, fun k hk _ => h1.block k hk⟩⟩)
  rw [S4.out]
  obtain ⟨w5, hw5⟩ : ∃ w5, w5 = w4.alloc (.cells (W32 s) 198) := ⟨_, rfl⟩
  rw [← hw5] at T5 ⊢
  clear hw5 H4 G4 S4 F0 F1 w4
  go_wp2_with fail
  go_loopw [21] (fun i wr => ∃ t : Nat, t ≤ 64 ∧ i = .int .i64 (t : Int) ∧ TkW w g made s rest n A (roundsL constL (schedK rest 64) s t) wr) (fun i _ => 64 - (intOf i).toNat)
  case atStart => exact ⟨0, by omega, rfl, T5.out⟩
  case round =>
    obtain ⟨t, ht, rfl, h6⟩ := hrel
    have T6 := Lib.hid h6
    clear h6 T5 w5
    by_cases hlt : t < 64
    · have hD : decide ((t : Int) < 64) = true := by simp; omega
      obtain ⟨v, hv⟩ : ∃ v, v = roundsL constL (schedK rest 64) s t := ⟨_, rfl⟩
      rw [← hv] at T6
      have VE := Lib.hid hv
      have VL := Lib.hid (show v.length = 8 by rw [hv]; exact roundsL_length _ _ _ HS.out _)
      clear hv
      obtain ⟨v0, d0⟩ : ∃ x, x = v.getD 0 0 := ⟨_, rfl⟩
      obtain ⟨v1, d1⟩ : ∃ x, x = v.getD 1 0 := ⟨_, rfl⟩
      obtain ⟨v2, d2⟩ : ∃ x, x = v.getD 2 0 := ⟨_, rfl⟩
      obtain ⟨v3, d3⟩ : ∃ x, x = v.getD 3 0 := ⟨_, rfl⟩
      obtain ⟨v4, d4⟩ : ∃ x, x = v.getD 4 0 := ⟨_, rfl⟩
      obtain ⟨v5, d5⟩ : ∃ x, x = v.getD 5 0 := ⟨_, rfl⟩
      obtain ⟨v6, d6⟩ : ∃ x, x = v.getD 6 0 := ⟨_, rfl⟩
      obtain ⟨v7, d7⟩ : ∃ x, x = v.getD 7 0 := ⟨_, rfl⟩
      have V : Hid (v = [v0, v1, v2, v3, v4, v5, v6, v7]) := by
        show v = _
        rw [d0, d1, d2, d3, d4, d5, d6, d7]
        exact list8 v VL.out
      have a0 := row_cell T6.out.bv 0 (W32_get v 0 (by rw [VL.out]; omega))
      have a4 := row_cell T6.out.bv 4 (W32_get v 4 (by rw [VL.out]; omega))
      rw [← d0] at a0
      rw [← d4] at a4
      have D0 := Lib.hid d0
      have D1 := Lib.hid d1
      have D2 := Lib.hid d2
      have D3 := Lib.hid d3
      have D4 := Lib.hid d4
      have D5 := Lib.hid d5
      have D6 := Lib.hid d6
      have D7 := Lib.hid d7
      clear d0 d1 d2 d3 d4 d5 d6 d7
      go_wp2_with fail
      go_region
      obtain ⟨w6, hw6⟩ : ∃ w6, w6 = wr.drew := ⟨_, rfl⟩
      have T7 := Lib.hid (show TkW w g made s rest n A v w6 by rw [hw6]; exact ⟨T6.out.hb, T6.out.bw, T6.out.bk, T6.out.bv, grown_drew T6.out.gr⟩)
      rw [← hw6]
      clear hw6 a0 a4 T6 wr
      have a1 := row_cell T7.out.bv 1 (W32_get v 1 (by rw [VL.out]; omega))
      have a2 := row_cell T7.out.bv 2 (W32_get v 2 (by rw [VL.out]; omega))
      have a5 := row_cell T7.out.bv 5 (W32_get v 5 (by rw [VL.out]; omega))
      have a6 := row_cell T7.out.bv 6 (W32_get v 6 (by rw [VL.out]; omega))
      rw [← D1.out] at a1
      rw [← D2.out] at a2
      rw [← D5.out] at a5
      rw [← D6.out] at a6
      obtain ⟨ch, hch, e1⟩ : ∃ z : UInt32, Hid (z = v6 ^^^ (v4 &&& (v5 ^^^ v6))) ∧ bits .xor .u32 (v6.toNat : Int) (bits .and .u32 (v4.toNat : Int) (bits .xor .u32 (v5.toNat : Int) (v6.toNat : Int))) = (z.toNat : Int) := ⟨_, rfl, by rw [u32_xor', u32_and', u32_xor']⟩
      obtain ⟨mj, hmj, e2⟩ : ∃ z : UInt32, Hid (z = (v0 &&& v1) ||| (v2 &&& (v0 ||| v1))) ∧ bits .or .u32 (bits .and .u32 (v0.toNat : Int) (v1.toNat : Int)) (bits .and .u32 (v2.toNat : Int) (bits .or .u32 (v0.toNat : Int) (v1.toNat : Int))) = (z.toNat : Int) := ⟨_, rfl, by rw [u32_or' v0 v1, u32_and', u32_and', u32_or']⟩
      go_wp2_with fail
      clear a1 a2 a5 a6 e1 e2
      have a7 := row_cell T7.out.bv 7 (W32_get v 7 (by rw [VL.out]; omega))
      rw [← D7.out] at a7
      obtain ⟨kt, hkt⟩ : ∃ x, x = constL.getD t 0 := ⟨_, rfl⟩
      obtain ⟨wt, hwt⟩ : ∃ x, x = (schedK rest 64).getD t 0 := ⟨_, rfl⟩
      have ak := row_cell T7.out.bk t (W32_get _ t (by rw [constL_length]; exact hlt))
      have aw := row_cell T7.out.bw t (W32_get _ t (by rw [schedK_length]; exact hlt))
      rw [← hkt] at ak
      rw [← hwt] at aw
      have KT := Lib.hid hkt
      have WT := Lib.hid hwt
      clear hkt hwt
      obtain ⟨z0, hz0, e0⟩ := xor3_ex (rotr v4 6) (rotr v4 11) (rotr v4 25)
      obtain ⟨z1, hz1, e1⟩ := sumW_ex v7 z0
      obtain ⟨z2, hz2, e2⟩ := sumW_ex z1 ch
      obtain ⟨z3, hz3, e3⟩ := sumW_ex z2 kt
      obtain ⟨x, hx, e4⟩ := sumW_ex z3 wt
      have b1 : (t : Int) < 64 := by omega
      go_still_tail 21, (by kernel_rfl)
      still_call (sturned_any _ 6 _ (by omega) (by omega) (by decide))
      repeat still_step
      still_call (sturned_any _ 11 _ (by omega) (by omega) (by decide))
      repeat still_step
      still_call (sturned_any _ 25 _ (by omega) (by omega) (by decide))
      repeat still_step
      refine wpStill_nil ?_
      change wpList _ _ _ _ _ w6.drew
      clear a7 ak aw e0 e1 e2 e3 e4
      obtain ⟨w7, hw7⟩ : ∃ w7, w7 = w6.drew := ⟨_, rfl⟩
      have T8 := Lib.hid (show TkW w g made s rest n A v w7 by rw [hw7]; exact ⟨T7.out.hb, T7.out.bw, T7.out.bk, T7.out.bv, grown_drew T7.out.gr⟩)
      rw [← hw7]
      clear hw7 T7 w6
      obtain ⟨y0, hy0, e0⟩ := xor3_ex (rotr v0 2) (rotr v0 13) (rotr v0 22)
      obtain ⟨y, hy, e1⟩ : ∃ z : UInt32, Hid (z = y0 + mj) ∧ ((y0.toNat : Int) + (mj.toNat : Int)) % 4294967296 = (z.toNat : Int) := ⟨_, rfl, u32_add _ _⟩
      have E0 := Lib.hid e0
      have E1 := Lib.hid e1
      clear e0 e1
      go_wp2_with fail
      refine (sturned_any v0 2 _ (by omega) (by omega) (by decide)).mono ?_
      rintro e w' ⟨rfl, rfl⟩
      go_wp2_with fail
      refine (sturned_any v0 13 _ (by omega) (by omega) (by decide)).mono ?_
      rintro e w' ⟨rfl, rfl⟩
      go_wp2_with fail
      refine (sturned_any v0 22 _ (by omega) (by omega) (by decide)).mono ?_
      rintro e w' ⟨rfl, rfl⟩
      have e0 := E0.out
      have e1 := E1.out
      go_wp2_with fail
      rw [E1.out]
      clear e0 e1 E0 E1
      obtain ⟨j0, hj0, hj1, hj2, _⟩ := info_parts (show (Tryz.prog.info? 153).map (fun i => (i.zero, i.size, i.bytes)) = some (some (.int .u32 0), 1, 4) by kernel_rfl)
      have J0 := Lib.hid hj0
      have J2 := Lib.hid hj2
      clear hj0 hj1 hj2
      refine wp_region_plan (fun _ => True) [0, 1] [2] (by kernel_rfl) (by kernel_rfl) (fun _ _ d _ _ h => by cases d <;> exact h) (trivial) ?_
      simp only [List.filterMap_cons, List.filterMap_nil, List.getElem?_toArray, List.getElem?_cons_zero, List.getElem?_cons_succ]
      refine planQ_cons (by rfl) (fun W hW => run_ptr_from 198 (.tmp 6) (.const (.int .i64 1)) rfl 8 153 Tryz.underlying198 J0.out J2.out .i64 (A + 2) 0 1 (by omega) rfl rfl W) ?_
      simp only [Act.put, List.setIfInBounds_toArray, List.set_cons_zero, List.set_cons_succ]
      refine planQ_cons (by rfl) (fun W hW => run_arr_to 198 (.tmp 6) (.const (.int .i64 7)) rfl 8 153 Tryz.underlying198 J0.out (A + 2) 7 (by omega) rfl rfl W) ?_
      simp only [Act.put, List.setIfInBounds_toArray, List.set_cons_zero, List.set_cons_succ]
      refine planQ_nil ?_
      refine planT_cons (by rfl) (fun K hK => ?_)
      have BV : Hid (w'.drew.heap[A + 2]? = some (.cells (W32 [v0, v1, v2, v3, v4, v5, v6, v7]) 198 (0, 0))) := by
        have := T8.out.bv
        rw [V.out] at this
        exact this
      refine copy_wp (.tmp 81) (.tmp 82) _ _ rfl 153 Tryz.underlying207 (by kernel_rfl) (A + 2) 1 7 7 ⟨A + 2, 0, none⟩ 7 8 rfl rfl _ _ BV.out ([v0, v1, v2, v3, v4, v5, v6].map fun x => Value.int .u32 (x.toNat : Int)) rfl ?cp1 (by simp [W32]) ?cp2 ?_
      case cp1 =>
        intro j u hj
        rw [add_at, Nat.zero_add]
        refine row_cell BV.out j ?_
        simp only [W32]
        rcases j with _ | _ | _ | _ | _ | _ | _ | j <;> simp at hj ⊢ <;> exact hj
      case cp2 =>
        intro u hu
        simp only [List.mem_map] at hu
        obtain ⟨q, _, rfl⟩ := hu
        rfl
      rw [shift8]
      refine hK.out _ _ (trivial) ?_
      clear hK K
      simp only [Act.put]
      refine planT_nil ?_
      have T9 := Lib.hid (show TkW w g made s rest n A [v0, v0, v1, v2, v3, v4, v5, v6] (w'.drew.setRow (A + 2) (W32 [v0, v0, v1, v2, v3, v4, v5, v6])) from by
        have hgr : w'.drew.grownBy (w'.drew.setRow (A + 2) (W32 [v0, v0, v1, v2, v3, v4, v5, v6])) (some (A + 2)) := ⟨rfl, rfl, rfl, by simp, fun k hk hne => setRow_other _ _ k _ (fun e => hne (by rw [e]))⟩
        have T8d : TkW w g made s rest n A v w'.drew := ⟨T8.out.hb, T8.out.bw, T8.out.bk, T8.out.bv, grown_drew T8.out.gr⟩
        exact T8d.step hgr GA.out WA.out (setRow_heap _ _ _ _ _ _ BV.out))
      obtain ⟨w8, hw8⟩ : ∃ w8, w8 = w'.drew.setRow (A + 2) (W32 [v0, v0, v1, v2, v3, v4, v5, v6]) := ⟨_, rfl⟩
      rw [← hw8] at T9 ⊢
      clear hw8 BV T8
      have a4 := row_cell T9.out.bv 4 (W32_get _ 4 (by simp))
      have f4 := row_free T9.out.bv 4
      change w8.cell? ⟨A + 2, 4, none⟩ = some (.int .u32 (v3.toNat : Int)) at a4
      go_upto_region 12 with fail
      clear a4 f4
      rw [u32_add]
      obtain ⟨w9, hw9⟩ : ∃ w9, w9 = w8.setCell ⟨A + 2, 4, none⟩ (.int .u32 ((v3 + x).toNat : Int)) := ⟨_, rfl⟩
      have T10 := Lib.hid (show TkW w g made s rest n A [v0, v0, v1, v2, v3 + x, v4, v5, v6] w9 from by
        rw [hw9]
        exact T9.out.step (grown_set (World.grownBy.refl _ _) _ _) GA.out WA.out (by rw [heap_setCell_same _ _ _ _ _ _ T9.out.bv, W32_set]; rfl))
      rw [← hw9]
      clear hw9 T9 w8
      have a0 := row_cell T10.out.bv 0 (W32_get _ 0 (by simp))
      have f0 := row_free T10.out.bv 0
      go_wp2_with fail
      clear a0 f0
      rw [u32_add]
      have T11 := Lib.hid (show TkW w g made s rest n A [x + y, v0, v1, v2, v3 + x, v4, v5, v6] (w9.setCell ⟨A + 2, 0, none⟩ (.int .u32 ((x + y).toNat : Int))) from
        T10.out.step (grown_set (World.grownBy.refl _ _) _ _) GA.out WA.out (by rw [heap_setCell_same _ _ _ _ _ _ T10.out.bv, W32_set]; rfl))
      go_roundw
      case rel =>
        refine ⟨t + 1, by omega, by go_num, ?_⟩
        have hxL : xL kt wt v = x := by
          unfold xL chL
          rw [← D4.out, ← D5.out, ← D6.out, ← D7.out, ← hch.out, ← hz0.out, ← hz1.out, ← hz2.out, ← hz3.out, ← hx.out]
        have hyL : yL v = y := by
          unfold yL mjL
          rw [← D0.out, ← D1.out, ← D2.out, ← hmj.out, ← hy0.out, ← hy.out]
        rw [roundsL, ← VE.out, ← KT.out, ← WT.out, roundL, hxL, hyL, ← D0.out, ← D1.out, ← D2.out, ← D3.out, ← D4.out, ← D5.out, ← D6.out]
        exact T11.out
      case measure => simp [intOf]; omega
    · have ht64 : Hid (t = 64) := show t = 64 by omega
      have hD : decide ((t : Int) < 64) = false := by simp; omega
      obtain ⟨v, hv⟩ : ∃ v, v = roundsL constL (schedK rest 64) s t := ⟨_, rfl⟩
      rw [← hv] at T6
      have VE := Lib.hid hv
      have VL := Lib.hid (show v.length = 8 by rw [hv]; exact roundsL_length _ _ _ HS.out _)
      clear hv
      go_wp2_with fail
      go_loopw [94] (fun i wr => ∃ j : Nat, j ≤ 8 ∧ i = .int .i64 (j : Int) ∧ TkW w g made (sumK s v j) rest n A v wr) (fun i _ => 8 - (intOf i).toNat)
      case atStart => exact ⟨0, by omega, rfl, T6.out⟩
      case round =>
        clear hD hlt ht
        obtain ⟨j, hj, rfl, h8⟩ := hrel
        have T8 := Lib.hid h8
        clear h8 T6
        have SL := Lib.hid (show (sumK s v j).length = 8 by rw [sumK_length]; exact HS.out)
        by_cases hlt : j < 8
        · have hD : decide ((j : Int) < 8) = true := by simp; omega
          have a1 := row_cell T8.out.hb (1 + j) (HB_s made _ rest n j (by rw [SL.out]; exact hlt))
          have f1 := row_free T8.out.hb (1 + j)
          have a2 := row_cell T8.out.bv j (W32_get _ j (by rw [VL.out]; exact hlt))
          obtain ⟨x, hx⟩ : ∃ x, x = (sumK s v j).getD j 0 := ⟨_, rfl⟩
          obtain ⟨y, hy⟩ : ∃ x, x = v.getD j 0 := ⟨_, rfl⟩
          rw [← hx] at a1
          rw [← hy] at a2
          have X := Lib.hid hx
          have Y := Lib.hid hy
          clear hx hy
          go_wp2_with fail
          go_region
          clear a1 a2 f1
          go_wp2_with fail
          rw [u32_add]
          have T9 := Lib.hid (show TkW w g made (sumK s v (j + 1)) rest n A v (wr.setCell ⟨g, 1 + j, none⟩ (.int .u32 ((x + y).toNat : Int))).drew from by
            have hgr : wr.grownBy (wr.setCell ⟨g, 1 + j, none⟩ (.int .u32 ((x + y).toNat : Int))).drew (some g) := grown_drew (grown_set (World.grownBy.refl _ _) _ _)
            have := GA.out
            refine ⟨?_, grown_block hgr (by simp; omega) T8.out.bw, grown_block hgr (by simp; omega) T8.out.bk, grown_block hgr (by simp; omega) T8.out.bv, World.grownBy.trans T8.out.gr hgr⟩
            show (wr.setCell ⟨g, 1 + j, none⟩ (.int .u32 ((x + y).toNat : Int))).heap[g]? = _
            rw [heap_setCell_same _ _ _ _ _ _ T8.out.hb, HB_set_s made _ rest n j (by rw [SL.out]; exact hlt), sumK, ← X.out, ← Y.out])
          go_roundw
          case rel => exact ⟨j + 1, by omega, by go_num, T9.out⟩
          case measure => simp [intOf]; omega
        · have hj8 : Hid (j = 8) := show j = 8 by omega
          have hD : decide ((j : Int) < 8) = false := by simp; omega
          go_wp2_with fail
          go_end0
          refine ⟨rfl, ?_, T8.out.gr⟩
          have := T8.out.hb
          rw [hj8.out, VE.out, ht64.out] at this
          exact this
end Go.Proofs.YtlocplkjokoknaaGreat

/- Bytes are taken in. No condition but those each theorem states. -/
namespace Go.Proofs.YtlocplkjokoknaaGreat
set_option linter.unusedVariables false
set_option linter.unusedSimpArgs false
open Go.RowKit
attribute [local go_sem ↓] Go.wp_at_zero Go.wp_at_succ

/-- The block of a Hash. -/
def HBx (made : Bool) (h : HSt) : Array Value := HB made h.s h.rest h.n
theorem run_newhash {o : Oper} {a : Act} (ho : o.op = .build 201 #[(0, .const (.bool true)), (1, .tmp 1)]) (h : a.eval (.tmp 1) = .agg (W32 beginL)) (W : World) : (execOp a.eval o).run Tryz.prog W = .ok (.value (.agg (HBx true startH))) W := by
  have h2 : ∀ (g : Operand → Value) (W : World), g (.const (.bool true)) = .bool true → g (.tmp 1) = .agg (W32 beginL) → (execOp g { o with op := .build 201 #[(0, .const (.bool true)), (1, .tmp 1)] }).run Tryz.prog W = .ok (.value (.agg (HBx true startH))) W := by
    intro g W h1 h2
    unfold execOp
    simp only [h1, h2, List.map_toArray, List.map_cons, List.map_nil]
    kernel_rfl
  rw [show o = { o with op := .build 201 #[(0, .const (.bool true)), (1, .tmp 1)] } by rw [← ho]]
  exact h2 _ W rfl h
set_option maxRecDepth 100000 in
set_option maxHeartbeats 1000000 in
theorem shaNew_any (w : World) : Calls Tryz.prog 86 #[] w fun e w' => ∃ g, e = .returned (.pointer (some ⟨g, 0, none⟩)) ∧ w.heap.size ≤ g ∧ w'.heap[g]? = some (.cells (HBx true startH) 201 (0, 0)) ∧ Below w.heap.size w w' := by
  go_enter Tryz.func86, Tryz.ntmps86
  go_wp2_with fail
  refine (begin_any _).mono ?_
  rintro e w1 ⟨rfl, hb1⟩
  obtain ⟨bl, hbl⟩ : ∃ bl, bl = W32 beginL := ⟨_, rfl⟩
  rw [← hbl]
  have BL := Lib.hid hbl
  clear hbl
  go_wp2_with (refine wpList_val rfl (run_newhash rfl (by rw [← BL.out]; rfl) _) ?_)
  go_ret
  exact ⟨_, rfl, hb1.size, ha_new _ _ _ rfl, hb1.alloc hb1.size _⟩

theorem HB_words (made : Bool) (s : List UInt32) (rest : List UInt8) (n : Nat) (hs : s.length = 8) (v : List UInt32) (hv : v.length = 8) :
    ((HB made s rest n).toList.take 1 ++ ((W32 v).toList ++ (HB made s rest n).toList.drop (1 + (W32 v).size))).toArray = HB made v rest n := by
  have e0 : (HB made s rest n).toList = (Value.bool made :: s.map fun x => Value.int .u32 (x.toNat : Int)) ++ (B8 rest ++ [Value.int .u64 (n : Int)]) := by simp [HB, HBl, B8]
  have l0 : (Value.bool made :: s.map fun x => Value.int .u32 (x.toNat : Int)).length = 9 := by simp [hs]
  have e2 : (HB made s rest n).toList.drop (1 + (W32 v).size) = B8 rest ++ [Value.int .u64 (n : Int)] := by
    rw [e0, W32_size, hv, show 1 + 8 = (Value.bool made :: s.map fun x => Value.int .u32 (x.toNat : Int)).length by rw [l0], List.drop_left]
  rw [e2]
  simp [HB, HBl, B8, W32]
/-- What a Hash that may not have been made stands for. -/
def stOf (made : Bool) (h : HSt) : HSt := if made then h else ⟨beginL, h.rest, h.n⟩
theorem stOf_ok {h : HSt} (k : h.ok) (made : Bool) : (stOf made h).ok := by
  cases made
  · exact ⟨rfl, k.hr⟩
  · exact k
theorem min_nat (a b : Nat) : ∃ m : Nat, m = Nat.min a b ∧ m ≤ a ∧ m ≤ b ∧ (m = a ∨ m = b) := ⟨_, rfl, Nat.min_le_left _ _, Nat.min_le_right _ _, by show min a b = a ∨ min a b = b; omega⟩
theorem HB_copy (made : Bool) (s : List UInt32) (rest : List UInt8) (n : Nat) (hs : s.length = 8) (p : Nat) (l : List UInt8) (h : p + l.length ≤ rest.length) :
    ((HB made s rest n).toList.take (9 + p) ++ (B8 l ++ (HB made s rest n).toList.drop (9 + p + l.length))).toArray = HB made s (layL rest p l) n := by
  have e0 : (HB made s rest n).toList = (Value.bool made :: s.map fun x => Value.int .u32 (x.toNat : Int)) ++ (B8 rest ++ [Value.int .u64 (n : Int)]) := by simp [HB, HBl, B8]
  have l0 : (Value.bool made :: s.map fun x => Value.int .u32 (x.toNat : Int)).length = 9 := by simp [hs]
  have e1 : (HB made s rest n).toList.take (9 + p) = (Value.bool made :: s.map fun x => Value.int .u32 (x.toNat : Int)) ++ B8 (rest.take p) := by
    rw [e0, List.take_append, List.take_of_length_le (by omega), l0, List.take_append_of_le_length (by rw [B8_length]; omega)]
    simp [B8, List.map_take]
  have e2 : (HB made s rest n).toList.drop (9 + p + l.length) = B8 (rest.drop (p + l.length)) ++ [Value.int .u64 (n : Int)] := by
    rw [e0, List.drop_append, List.drop_of_length_le (by omega), l0, List.nil_append, List.drop_append_of_le_length (by rw [B8_length]; omega)]
    simp [B8, List.map_drop]
    omega
  rw [e1, e2, HB, HBl, layL]
  simp [B8]
set_option maxRecDepth 100000 in
set_option maxHeartbeats 2000000 in
theorem write_any (made : Bool) (g : Nat) (h0 : HSt) (k0 : h0.ok) (w : World) (A : Option Addr) (n c : Nat) (l : List UInt8) (hn : l.length = n) (hc : n ≤ c) (hR : RdB w A l) (hlt : l ≠ [] → ∀ a, A = some a → a.block ≠ g)
    (hb : h0.n + n ≤ 140737488355328) (hg : w.heap[g]? = some (.cells (HBx made h0) 201 (0, 0))) :
    Calls Tryz.prog 87 #[.pointer (some ⟨g, 0, none⟩), .slice A n c] w fun e w' => e = .returned (.tuple #[]) ∧ w'.heap[g]? = some (.cells (HBx true (putsB (stOf made h0) l)) 201 (0, 0)) ∧ w.grownBy w' (some g) := by
  have K0 := Lib.hid k0
  obtain ⟨h, hh⟩ : ∃ h, h = stOf made h0 := ⟨_, rfl⟩
  rw [← hh]
  have K := Lib.hid (show h.ok by rw [hh]; exact stOf_ok k0 made)
  have HH := Lib.hid hh
  have hb' : h.n + n ≤ 140737488355328 := by rw [hh]; cases made <;> exact hb
  clear hh k0 hb
  have HN := Lib.hid hn
  have HC := Lib.hid hc
  have HR := Lib.hid hR
  have HL := Lib.hid hlt
  have HBd := Lib.hid hb'
  have GA := Lib.hid hg
  have c0 := row_cell hg 0 (HB_made made h0.s h0.rest h0.n)
  have f0 := row_free hg 0
  clear hn hc hR hlt hb' hg
  go_enter Tryz.func87, Tryz.ntmps87
  go_upto_if 11 with fail
  go_cut [1] (fun b wx => b = .slice A n c ∧ wx.heap[g]? = some (.cells (HBx true h) 201 (0, 0)) ∧ w.grownBy wx (some g))
  case first =>
    rcases made with _ | _
    · go_wp2_with fail
      refine (begin_any _).mono ?_
      rintro e w1 ⟨rfl, hb1⟩
      obtain ⟨bl, hbl⟩ : ∃ bl, bl = W32 beginL := ⟨_, rfl⟩
      rw [← hbl]
      have BL := Lib.hid hbl
      have ZB := Lib.hid (show (Tryz.prog.info? 198).map (·.size) = some bl.size by rw [hbl]; kernel_rfl)
      have G1 := Lib.hid (below_block hb1 (row_lt GA.out) GA.out)
      have B1 := Lib.hid hb1
      clear hbl hb1 c0 f0
      have c0 := row_cell G1.out 0 (HB_made false h0.s h0.rest h0.n)
      have f0 := row_free G1.out 0
      have G2 := Lib.hid (show (w1.setCell ⟨g, 0, none⟩ (.bool true)).heap[g]? = some (.cells (HB true h0.s h0.rest h0.n) 201 (0, 0)) by rw [heap_setCell_same _ _ _ _ _ _ G1.out, HBx, HB_set_made])
      go_wp2_with (refine storeM_list rfl 198 (.tmp 18) (.tmp 14) rfl g 1 bl rfl rfl _ _ G2.out ZB.out ?c1 ?c2 ?_)
      case c1 => rw [HB_size _ _ _ _ K0.out.hs K0.out.hr, BL.out]; decide
      case c2 => rw [BL.out]; exact W32_one _
      intro w2 hg2 hgr2 hs2
      go_wp2_with fail
      go_meet
      refine ⟨rfl, ?_, ?_⟩
      · rw [hg2, HH.out, BL.out, HBx, stOf, HB_words _ _ _ _ K0.out.hs _ rfl]
        rfl
      · exact World.grownBy.trans (grown_of_below B1.out |>.mono_none) (World.grownBy.trans (grown_set (World.grownBy.refl _ _) _ _) hgr2)
    · have e1 : h = h0 := HH.out
      go_wp2_with fail
      go_meet
      exact ⟨rfl, by rw [HH.out]; exact GA.out, World.grownBy.refl _ _⟩
  case rest =>
  obtain ⟨rfl, hg, hgr0⟩ := hcut
  have G0 := Lib.hid hg
  have GR0 := Lib.hid hgr0
  clear c0 f0 GA hg hgr0 HH K0
  go_wp2_with fail
  go_loopw [1] (fun b wr => ∃ (p r : Nat) (A' : Option Addr) (c' : Nat), p + r = n ∧ r ≤ c' ∧ b = .slice A' r c' ∧ RdB w A' (l.drop p) ∧ (l ≠ [] → ∀ a, A' = some a → a.block ≠ g) ∧
      wr.heap[g]? = some (.cells (HBx true (putsB h (l.take p))) 201 (0, 0)) ∧ w.grownBy wr (some g)) (fun b _ => lenOf b)
  case atStart => exact ⟨0, n, A, c, by omega, HC.out, rfl, HR.out, HL.out, G0.out, GR0.out⟩
  case round =>
    obtain ⟨p, r, A1, c1, hpr, hrc, rfl, hR1, hlt1, hg1, hgr1⟩ := hrel
    have HPR := Lib.hid hpr
    have HRC := Lib.hid hrc
    have R1 := Lib.hid hR1
    have L1 := Lib.hid hlt1
    have G1 := Lib.hid hg1
    have GR1 := Lib.hid hgr1
    clear hpr hrc hR1 hlt1 hg1 hgr1 HC HR HL G0 GR0
    by_cases h0 : 0 < r
    · have hD : decide ((0 : Int) < (r : Int)) = true := by simp; omega
      obtain ⟨q, hq⟩ : ∃ q, q = putsB h (l.take p) := ⟨_, rfl⟩
      rw [← hq] at G1
      have KQ := Lib.hid (show q.ok by rw [hq]; exact putsB_ok K.out _)
      have NQ := Lib.hid (show q.n = h.n + p by have := HN.out; have := HPR.out; rw [hq, putsB_n, List.length_take]; omega)
      have QQ := Lib.hid hq
      clear hq
      have cn := row_cell G1.out 73 (HB_n true q.s q.rest q.n KQ.out.hs KQ.out.hr)
      have CN := Lib.hid cn
      clear cn
      go_upto_region 4 with fail
      obtain ⟨i0, hi, hz0, hz1, hz2⟩ := info_parts (show (Tryz.prog.info? 5).map (fun i => (i.zero, i.size, i.bytes)) = some (some (.int .u8 0), 1, 1) by kernel_rfl)
      have I0 := Lib.hid hi
      have I2 := Lib.hid hz1
      clear hi hz0 hz1 hz2
      refine wp_region_plan (fun W => W.cell? ⟨g, 73, none⟩ = some (.int .u64 (q.n : Int))) [0, 1, 2, 3, 4, 5, 6, 7, 8, 9] [10, 11] (by kernel_rfl) (by kernel_rfl) (fun _ _ d _ _ h => by cases d <;> exact h) (CN.out) ?_
      simp only [List.filterMap_cons, List.filterMap_nil, List.getElem?_toArray, List.getElem?_cons_zero, List.getElem?_cons_succ]
      refine planQ_cons (v := ?_) (by rfl) ?_ ?_
      rotate_left
      · intro W hW
        go_simp
        with_reducible rfl
      simp only [Act.put, List.setIfInBounds_toArray, List.set_cons_zero, List.set_cons_succ]
      refine planQ_cons (v := ?_) (by rfl) ?_ ?_
      rotate_left
      · intro W hW
        go_simp
        with_reducible rfl
      simp only [Act.put, List.setIfInBounds_toArray, List.set_cons_zero, List.set_cons_succ]
      refine planQ_cons (v := ?_) (by rfl) ?_ ?_
      rotate_left
      · intro W hW
        go_simp
        with_reducible rfl
      simp only [Act.put, List.setIfInBounds_toArray, List.set_cons_zero, List.set_cons_succ]
      refine planQ_cons (v := ?_) (by rfl) ?_ ?_
      rotate_left
      · intro W hW
        go_simp
        with_reducible rfl
      simp only [Act.put, List.setIfInBounds_toArray, List.set_cons_zero, List.set_cons_succ]
      refine planQ_cons (v := ?_) (by rfl) ?_ ?_
      rotate_left
      · intro W hW
        go_simp
        with_reducible rfl
      simp only [Act.put, List.setIfInBounds_toArray, List.set_cons_zero, List.set_cons_succ]
      refine planQ_cons (v := ?_) (by rfl) ?_ ?_
      rotate_left
      · intro W hW
        go_simp
        with_reducible rfl
      simp only [Act.put, List.setIfInBounds_toArray, List.set_cons_zero, List.set_cons_succ]
      refine planQ_cons (by rfl) (fun W hW => run_cell 36 (.tmp 27) rfl _ Tryz.underlying36 rfl rfl hW) ?_
      simp only [Act.put, List.setIfInBounds_toArray, List.set_cons_zero, List.set_cons_succ]
      refine planQ_cons (v := ?_) (by rfl) ?_ ?_
      rotate_left
      · intro W hW
        go_simp
        with_reducible rfl
      simp only [Act.put, List.setIfInBounds_toArray, List.set_cons_zero, List.set_cons_succ]
      obtain ⟨pos, hpos⟩ : ∃ pos, pos = q.n % 64 := ⟨_, rfl⟩
      have PO := Lib.hid (show (q.n : Int).tmod 64 = (pos : Int) by rw [Int.tmod_eq_emod_of_nonneg (by omega)]; omega)
      have P64 := Lib.hid (show pos < 64 by omega)
      have PP := Lib.hid hpos
      clear hpos
      refine planQ_cons (by rfl) (fun W hW => run_ptr_fromz 179 (.tmp 24) (.tmp 29) rfl 64 5 Tryz.underlying179 I0.out I2.out .u64 g 9 pos P64.out _ PO.out rfl rfl W) ?_
      simp only [Act.put, List.setIfInBounds_toArray, List.set_cons_zero, List.set_cons_succ]
      refine planQ_cons (v := ?_) (by rfl) ?_ ?_
      rotate_left
      · intro W hW
        go_simp
        with_reducible rfl
      simp only [Act.put, List.setIfInBounds_toArray, List.set_cons_zero, List.set_cons_succ]
      refine planQ_nil ?_
      refine planT_cons (by rfl) (fun K hK => ?_)
      obtain ⟨m, hm0, hmr, hm64, hmc⟩ := min_nat r (64 - pos)
      have HM := Lib.hid hm0
      clear hm0
      have TB := Lib.hid (show ByteT Tryz.prog from ⟨Tryz.underlying22, by kernel_rfl⟩)
      have LN := Lib.hid (show l ≠ [] by intro e; have h1 := HN.out; have h2 := HPR.out; rw [e] at h1; simp at h1; omega)
      have R2 := Lib.hid (R1.out.grow GR1.out (fun _ a ea => L1.out LN.out a ea))
      refine copyB_wp TB.out (.tmp 30) (.tmp 31) rfl g (9 + pos) (64 - pos) (64 - pos) A1 r c1 rfl rfl _ _ G1.out (l.drop p) (by have := HN.out; have := HPR.out; simp; omega) R2.out h0 m HM.out (by rw [HBx, HB_size _ _ _ _ KQ.out.hs KQ.out.hr]; have := P64.out; omega) ?_
      intro w2 hg2 hgr2 hs2
      have LC := Lib.hid (show ((l.drop p).take m).length = m by have := HN.out; have := HPR.out; simp; omega)
      rw [show 9 + pos + m = 9 + pos + ((l.drop p).take m).length by rw [LC.out], HBx, HB_copy true q.s q.rest q.n KQ.out.hs pos _ (by rw [LC.out, KQ.out.hr]; have := P64.out; omega)] at hg2
      refine hK.out _ _ (row_cell hg2 73 (HB_n true q.s _ q.n KQ.out.hs (by rw [layL_length _ _ _ (by rw [LC.out, KQ.out.hr]; have := P64.out; omega)]; exact KQ.out.hr))) ?_
      clear hK K
      refine planT_val (v := ?_) (by rfl) (row_cell hg2 73 (HB_n true q.s _ q.n KQ.out.hs (by rw [layL_length _ _ _ (by rw [LC.out, KQ.out.hr]; have := P64.out; omega)]; exact KQ.out.hr))) ?_ ?_
      rotate_left
      · go_simp
        with_reducible rfl
      simp only [Act.put, List.setIfInBounds_toArray, List.set_cons_zero, List.set_cons_succ]
      refine planT_nil ?_
      obtain ⟨rs, hrs⟩ : ∃ rs, rs = layL q.rest pos ((l.drop p).take m) := ⟨_, rfl⟩
      have RL := Lib.hid (show rs.length = 64 by rw [hrs, layL_length _ _ _ (by rw [LC.out, KQ.out.hr]; have := P64.out; omega)]; exact KQ.out.hr)
      rw [← hrs] at hg2
      have RS := Lib.hid hrs
      have G2 := Lib.hid hg2
      have GR2 := Lib.hid (World.grownBy.trans (grown_drew GR1.out) hgr2)
      have MC := Lib.hid hmc
      have MR := Lib.hid hmr
      have M64 := Lib.hid hm64
      clear hrs hg2 hgr2 hs2 R2 CN HM GR1 G1 hmc hm64
      obtain ⟨A2, hcut, hcutR, hcutB⟩ := cut_from (P := Tryz.prog) 22 5 Tryz.underlying22 I0.out I2.out A1 r c1 m hmr
      have HCR := Lib.hid hcutR
      have HCB := Lib.hid hcutB
      clear hcutR hcutB
      have c73 := row_cell G2.out 73 (HB_n true q.s rs q.n KQ.out.hs RL.out)
      have f73 := row_free G2.out 73
      have b1 : (m : Int) ≤ 64 := by have := M64.out; omega
      have b2 : (q.n : Int) + (m : Int) ≤ 140737488355328 := by have := NQ.out; have := HPR.out; have := HBd.out; omega
      go_upto_region 7 with fail
      clear c73 f73
      rw [show (q.n : Int) + (m : Int) = ((q.n + m : Nat) : Int) by omega]
      obtain ⟨w3, hw3⟩ : ∃ w3, w3 = w2.setCell ⟨g, 73, none⟩ (.int .u64 ((q.n + m : Nat) : Int)) := ⟨_, rfl⟩
      have G3 := Lib.hid (show w3.heap[g]? = some (.cells (HB true q.s rs (q.n + m)) 201 (0, 0)) by rw [hw3, heap_setCell_same _ _ _ _ _ _ G2.out, HB_set_n true q.s rs q.n _ KQ.out.hs RL.out])
      have GR3 := Lib.hid (show w.grownBy w3 (some g) by rw [hw3]; exact grown_set GR2.out _ _)
      rw [← hw3]
      have ST := Lib.hid (show putsB h (l.take (p + m)) = stepW q ((l.drop p).take m) by
        have hm0 : 0 < m := by have := MC.out; have := P64.out; omega
        rw [List.take_add, putsB_append, ← QQ.out, putsB_some q KQ.out _ (by intro e; have := LC.out; rw [e] at this; simp at this; omega) (by rw [LC.out, ← PP.out]; have := P64.out; have := M64.out; omega)])
      clear hw3 G2 GR2
      have c73 := row_cell G3.out 73 (HB_n true q.s rs (q.n + m) KQ.out.hs RL.out)
      by_cases h64 : (q.n + m) % 64 = 0
      · have hE : (((q.n + m : Nat) : Int) % 64 == 0) = true := by simp; omega
        go_upto_region 8 with fail
        clear c73
        refine wp_region_plan (fun _ => True) [0, 1, 2, 3, 4, 5] [6] (by kernel_rfl) (by kernel_rfl) (fun _ _ d _ _ h => by cases d <;> exact h) (trivial) ?_
        simp only [List.filterMap_cons, List.filterMap_nil, List.getElem?_toArray, List.getElem?_cons_zero, List.getElem?_cons_succ]
        refine planQ_cons (v := ?_) (by rfl) ?_ ?_
        rotate_left
        · intro W hW
          go_simp
          with_reducible rfl
        simp only [Act.put, List.setIfInBounds_toArray, List.set_cons_zero, List.set_cons_succ]
        refine planQ_cons (v := ?_) (by rfl) ?_ ?_
        rotate_left
        · intro W hW
          go_simp
          with_reducible rfl
        simp only [Act.put, List.setIfInBounds_toArray, List.set_cons_zero, List.set_cons_succ]
        refine planQ_cons (v := ?_) (by rfl) ?_ ?_
        rotate_left
        · intro W hW
          go_simp
          with_reducible rfl
        simp only [Act.put, List.setIfInBounds_toArray, List.set_cons_zero, List.set_cons_succ]
        refine planQ_cons (v := ?_) (by rfl) ?_ ?_
        rotate_left
        · intro W hW
          go_simp
          with_reducible rfl
        simp only [Act.put, List.setIfInBounds_toArray, List.set_cons_zero, List.set_cons_succ]
        refine planQ_cons (v := ?_) (by rfl) ?_ ?_
        rotate_left
        · intro W hW
          go_simp
          with_reducible rfl
        simp only [Act.put, List.setIfInBounds_toArray, List.set_cons_zero, List.set_cons_succ]
        refine planQ_cons (v := ?_) (by rfl) ?_ ?_
        rotate_left
        · intro W hW
          go_simp
          with_reducible rfl
        simp only [Act.put, List.setIfInBounds_toArray, List.set_cons_zero, List.set_cons_succ]
        refine planQ_nil ?_
        refine planT_cons (by rfl) (fun K hK => ?_)
        go_simp
        refine (take_any g true q.s rs (q.n + m) KQ.out.hs RL.out w3.drew G3.out).mono ?_
        rintro e w4 ⟨rfl, hg4, hgr4⟩
        have G4 := Lib.hid hg4
        have GR4 := Lib.hid (World.grownBy.trans (grown_drew GR3.out) hgr4)
        clear hg4 hgr4
        refine hK.out _ _ (trivial) ?_
        clear hK K
        refine planT_nil ?_
        go_wp2_with fail
        go_roundw
        case rel =>
          refine ⟨p + m, r - m, A2, c1 - m, by have := HPR.out; omega, by have := HRC.out; omega, rfl, ?_, fun _ a ha => ?_, ?_, GR4.out⟩
          · have := HCR.out w (l.drop p) (by have := HN.out; have := HPR.out; simp; omega) HRC.out R1.out
            rwa [List.drop_drop] at this
          · obtain ⟨a0, ha0, hb⟩ := HCB.out a ha
            rw [hb]
            exact L1.out LN.out a0 ha0
          · rw [ST.out, stepW, LC.out, if_pos h64, ← PP.out, ← RS.out]
            exact G4.out
        case measure => have := MC.out; have := P64.out; simp [lenOf]; omega
      · have hE : (((q.n + m : Nat) : Int) % 64 == 0) = false := by simp; omega
        go_wp2_with fail
        go_roundw
        case rel =>
          refine ⟨p + m, r - m, A2, c1 - m, by have := HPR.out; omega, by have := HRC.out; omega, rfl, ?_, fun _ a ha => ?_, ?_, GR3.out⟩
          · have := HCR.out w (l.drop p) (by have := HN.out; have := HPR.out; simp; omega) HRC.out R1.out
            rwa [List.drop_drop] at this
          · obtain ⟨a0, ha0, hb⟩ := HCB.out a ha
            rw [hb]
            exact L1.out LN.out a0 ha0
          · rw [ST.out, stepW, LC.out, if_neg h64, ← PP.out, ← RS.out]
            exact G3.out
        case measure => have := MC.out; have := P64.out; simp [lenOf]; omega
    · have hr0 : Hid (r = 0) := show r = 0 by omega
      have hD : decide ((0 : Int) < (r : Int)) = false := by simp; omega
      go_wp2_with fail
      go_end0
      refine ⟨rfl, ?_, GR1.out⟩
      have hp : p = l.length := by have := HPR.out; have := hr0.out; have := HN.out; omega
      have := G1.out
      rw [hp, List.take_length] at this
      exact this
end Go.Proofs.YtlocplkjokoknaaGreat

/- The sum of what was taken in. No condition but those each theorem states. -/
namespace Go.Proofs.YtlocplkjokoknaaGreat
set_option linter.unusedVariables false
set_option linter.unusedSimpArgs false
open Go.RowKit
attribute [local go_sem ↓] Go.wp_at_zero Go.wp_at_succ

/-- What stands while the sum is told. -/
structure SmW (w : World) (out : List UInt8) (E : Nat) (q : HSt) (W : World) : Prop where
  bo : W.heap[w.heap.size]? = some (.cells (W8 out) 37 (0, 0))
  be : W.heap[E]? = some (.cells (HBx true q) 201 (0, 0))
  hE : w.heap.size < E
  bel : Below w.heap.size w W
theorem SmW.step {w W W' : World} {out : List UInt8} {E : Nat} {q q' : HSt} (h : SmW w out E q W) (hb : W'.heap[E]? = some (.cells (HBx true q') 201 (0, 0))) (hg : W.grownBy W' (some E)) : SmW w out E q' W' where
  bo := grown_block hg (by have := h.hE; simp; omega) h.bo
  be := hb
  hE := h.hE
  bel := h.bel.trans (grown_below hg h.bel.size (by intro g e; cases e; have := h.hE; omega))
theorem SmW.keep {w W W' : World} {out : List UInt8} {E : Nat} {q : HSt} (h : SmW w out E q W) (hb : Below W.heap.size W W') : SmW w out E q W' where
  bo := below_block hb (row_lt h.bo) h.bo
  be := below_block hb (row_lt h.be) h.be
  hE := h.hE
  bel := h.bel.trans (hb.mono h.bel.size)
theorem zero32 : W8 (List.replicate 32 0) = #[.int .u8 0, .int .u8 0, .int .u8 0, .int .u8 0, .int .u8 0, .int .u8 0, .int .u8 0, .int .u8 0, .int .u8 0, .int .u8 0, .int .u8 0, .int .u8 0, .int .u8 0, .int .u8 0, .int .u8 0, .int .u8 0, .int .u8 0, .int .u8 0, .int .u8 0, .int .u8 0, .int .u8 0, .int .u8 0, .int .u8 0, .int .u8 0, .int .u8 0, .int .u8 0, .int .u8 0, .int .u8 0, .int .u8 0, .int .u8 0, .int .u8 0, .int .u8 0] := rfl
theorem HB_one (made : Bool) (s : List UInt32) (rest : List UInt8) (n : Nat) : (HB made s rest n).all (·.oneCell') = true := all_oneCell_toArray (by
  intro v hv
  simp only [HBl, List.mem_cons, List.mem_append, List.mem_map] at hv
  rcases hv with rfl | ⟨x, _, rfl⟩ | ⟨x, _, rfl⟩ | rfl | hv
  · rfl
  · rfl
  · rfl
  · rfl
  · cases hv)
/-- How many zeros are still to come. -/
def toCome (v : Option Value) : Nat := match v with | some (.int _ z) => (56 + 64 - z.toNat % 64) % 64 | _ => 0
theorem be_byte_ex (c : Nat) (r : Nat) (h : c < 18446744073709551616) : ∃ z : UInt8, Hid (z = UInt8.ofNat (c / 2 ^ (8 * r))) ∧ IntKind.u8.wrap ((c : Int) / 2 ^ (8 * r)) = (z.toNat : Int) := by
  refine ⟨_, rfl, ?_⟩
  rw [IntKind.wrap_u8]
  have : ((c : Int) / 2 ^ (8 * r)) = ((c / 2 ^ (8 * r) : Nat) : Int) := by
    rw [Int.natCast_ediv, Int.natCast_pow]; rfl
  rw [this]
  simp
theorem shr_out (x : UInt32) (k : Nat) (hk : k < 32) : ((x.toNat : Int) / 2 ^ k) % 256 = ((x >>> (UInt32.ofNat k)).toUInt8.toNat : Int) := by
  have e1 : (UInt32.ofNat k).toNat = k := by simp; omega
  rw [UInt32.toNat_toUInt8, UInt32.toNat_shiftRight, e1, Nat.mod_eq_of_lt hk, Nat.shiftRight_eq_div_pow, Int.natCast_emod, Int.natCast_ediv, Int.natCast_pow]
  rfl

set_option maxRecDepth 100000 in
set_option maxHeartbeats 2000000 in
theorem hsum_core (rv : Value) (made : Bool) (g : Nat) (h0 : HSt) (k0 : h0.ok) (w : World) (hb : h0.n ≤ 140737488355000)
    (hrv : (rv = .pointer none ∧ made = false) ∨ (rv = .pointer (some ⟨g, 0, none⟩) ∧ w.heap[g]? = some (.cells (HBx made h0) 201 (0, 0)))) :
    Calls Tryz.prog 88 #[rv] w fun e w' => e = .returned (.agg (W8 (sumH (if made then h0 else startH)))) ∧ Below w.heap.size w w' := by
  have K0 := Lib.hid k0
  obtain ⟨h, hh⟩ : ∃ h, h = (if made then h0 else startH) := ⟨_, rfl⟩
  rw [← hh]
  have HH := Lib.hid hh
  have K := Lib.hid (show h.ok by rw [hh]; cases made; exact startH_ok; exact k0)
  have HN := Lib.hid (show h.n ≤ 140737488355000 by rw [hh]; cases made; exact Nat.zero_le _; exact hb)
  have RV := Lib.hid hrv
  have Z32 := Lib.hid zero32
  clear hh k0 hb hrv
  go_enter Tryz.func88, Tryz.ntmps88
  go_wp2_with fail
  rw [← Z32.out]
  refine (shaNew_any _).mono ?_
  rintro e w1 ⟨E, rfl, hE, hgE, hb1⟩
  have S1 := Lib.hid (show SmW w (List.replicate 32 0) E startH w1 from ⟨below_block hb1 (by simp) (ha_new _ _ _ rfl), hgE, by simp at hE; omega, ((Below.refl _ _).alloc (Nat.le_refl _) _).trans (hb1.mono (by simp))⟩)
  clear hE hgE hb1
  go_upto_region 2 with fail
  go_cut [16] (fun v wx => v = .bool made ∧ wx = w1)
  case first =>
    rcases RV.out with ⟨rfl, rfl⟩ | ⟨rfl, hg⟩
    · go_wp2_with fail
      go_meet
      exact ⟨rfl, rfl⟩
    · have c0 := row_cell (below_block S1.out.bel (row_lt hg) hg) 0 (HB_made made h0.s h0.rest h0.n)
      clear hg
      go_wp2_with fail
      go_meet
      exact ⟨rfl, rfl⟩
  case rest =>
  obtain ⟨rfl, rfl⟩ := hcut
  go_upto_if 16 with fail
  go_cut [3] (fun e wx => e = .pointer (some ⟨E, 0, none⟩) ∧ SmW w (List.replicate 32 0) E h wx)
  case first =>
    rcases made with _ | _
    · go_wp2_with fail
      go_meet
      exact ⟨rfl, by rw [HH.out]; exact S1.out⟩
    · obtain ⟨rfl, hg⟩ := RV.out.resolve_left (fun h => by cases h.2)
      have G1 := Lib.hid (below_block S1.out.bel (row_lt hg) hg)
      have ZH := Lib.hid (show (Tryz.prog.info? 201).map (·.size) = some (HBx true h0).size by rw [HBx, HB_size _ _ _ _ K0.out.hs K0.out.hr]; kernel_rfl)
      clear hg
      go_wp2_with (first
        | (refine wpList_load_row rfl 201 (.tmp 19) rfl g rfl 201 (HBx true h0) (0, 0) _ G1.out Tryz.underlying201 rfl ZH.out ?_)
        | (refine wpList_store_whole rfl rfl 201 (.tmp 21) (.tmp 20) rfl E (HBx true h0) rfl rfl 201 (HBx true startH) S1.out.be ZH.out (by rw [HBx, HBx, HB_size _ _ _ _ K0.out.hs K0.out.hr, HB_size _ _ _ _ startH_ok.hs startH_ok.hr]) (HB_one _ _ _ _) ?_; intro w2 hg2 hgr2 hs2))
      go_meet
      exact ⟨rfl, by rw [HH.out]; exact S1.out.step hg2 hgr2⟩
  case rest =>
  obtain ⟨rfl, hs⟩ := hcut
  have S2 := Lib.hid hs
  clear hs S1 HH K0 RV
  have c73 := row_cell S2.out.be 73 (HB_n true h.s h.rest h.n K.out.hs K.out.hr)
  have b1 : (h.n : Int) ≤ 140737488355000 := by have := HN.out; omega
  go_wp2_with fail
  clear c73
  obtain ⟨C, hC⟩ : ∃ C, C = h.n * 8 := ⟨_, rfl⟩
  have HC := Lib.hid hC
  rw [show (h.n : Int) * 8 = (C : Int) by omega]
  clear hC
  have S3 := Lib.hid (S2.out.keep ((Below.refl wc.heap.size _).alloc (Nat.le_refl _) (.cells #[.int .u8 128] 5)))
  refine (write_any true E h K.out _ (some ⟨wc.heap.size, 0, none⟩) 1 1 [0x80] rfl (Nat.le_refl _) (RdB.one (row_cell (fr := (0, 0)) (ha_new wc _ _ rfl) 0 rfl)) (by intro _ a e; cases e; have := row_lt S2.out.be; simp; omega) (by have := HN.out; omega) S3.out.be).mono ?_
  rintro e w2 ⟨rfl, hg2, hgr2⟩
  have S4 := Lib.hid (show SmW w (List.replicate 32 0) E (putsB h (0x80 :: List.replicate 0 0)) w2 from S3.out.step hg2 hgr2)
  clear hg2 hgr2 S2 S3
  go_wp2_with fail
  go_loopw [] (fun wr => ∃ j : Nat, j ≤ zerosN h.n ∧ SmW w (List.replicate 32 0) E (putsB h (0x80 :: List.replicate j 0)) wr) (fun wr => toCome (wr.cell? ⟨E, 73, none⟩))
  case atStart => exact ⟨0, Nat.zero_le _, S4.out⟩
  case round =>
    obtain ⟨j, hj, hs⟩ := hrel
    have J := Lib.hid hj
    have S5 := Lib.hid hs
    obtain ⟨q, hq⟩ : ∃ q, q = putsB h (0x80 :: List.replicate j 0) := ⟨_, rfl⟩
    rw [← hq] at S5
    have QQ := Lib.hid hq
    have KQ := Lib.hid (show q.ok by rw [hq]; exact putsB_ok K.out _)
    have NQ := Lib.hid (show q.n = h.n + (j + 1) by rw [hq, putsB_n]; simp)
    clear hj hs hq S4
    have c73 := row_cell S5.out.be 73 (HB_n true q.s q.rest q.n KQ.out.hs KQ.out.hr)
    by_cases he : q.n % 64 = 56
    · have hE : (((q.n : Nat) : Int) % 64 == 56) = true := by simp; omega
      have hE2 : (((q.n : Nat) : Int) % 64 != 56) = false := by simp; omega
      have HZ := Lib.hid (show j = zerosN h.n by have := J.out; have := NQ.out; unfold zerosN at *; omega)
      go_wp2_with fail
      clear c73 hE hE2
      go_loopw [5] (fun i wr => ∃ (r : Nat) (pre : List UInt8), r ≤ 8 ∧ (i = .int .i64 ((r : Int) - 1)) ∧ pre ++ beLs r C = beLs 8 C ∧ SmW w (List.replicate 32 0) E (putsB q pre) wr) (fun i _ => (intOf i + 1).toNat)
      case atStart => exact ⟨8, [], Nat.le_refl _, rfl, rfl, S5.out⟩
      case round =>
        obtain ⟨r, pre, hr, rfl, hpre, hs⟩ := hrel
        have R8 := Lib.hid hr
        have PRE := Lib.hid hpre
        have S6 := Lib.hid hs
        have PL := Lib.hid (show pre.length + r = 8 by have := congrArg List.length hpre; rw [List.length_append, beLs_length, beLs_length] at this; exact this)
        have KP := Lib.hid (putsB_ok KQ.out pre)
        have NP := Lib.hid (putsB_n q pre)
        clear hr hpre hs S5
        rcases r with _ | r
        · have hD : decide ((0 : Int) ≤ (((0 : Nat) : Int) - 1)) = false := by decide
          have e0 : (((0 : Nat) : Int) - 1) = -1 := by decide
          go_wp2_with fail
          rw [← Z32.out]
          obtain ⟨t, ht⟩ : ∃ t, t = putsB q pre := ⟨_, rfl⟩
          rw [← ht] at S6 KP
          have TT := Lib.hid (show t = putsB h (tailL h.n) by
            have := PRE.out
            rw [beLs, List.append_nil] at this
            rw [ht, this, QQ.out, ← putsB_append, tailL, HZ.out]
            congr 2
            rw [List.cons_append]
            congr 2
            have h1 := HN.out
            have h2 := HC.out
            rw [h2]
            congr 1
            omega)
          clear ht
          obtain ⟨L, hL⟩ : ∃ L, L = outL t.s := ⟨_, rfl⟩
          have LL := Lib.hid (show L.length = 32 by rw [hL, outL_length])
          have LE := Lib.hid hL
          obtain ⟨M, hM⟩ : ∃ M, M = wr.heap.size := ⟨_, rfl⟩
          have S7 := Lib.hid (show SmW w (List.replicate 32 0) E t (wr.alloc (.cells (W8 (List.replicate 32 0)) 37)) ∧ (wr.alloc (.cells (W8 (List.replicate 32 0)) 37)).heap[M]? = some (.cells (W8 (partB L 0)) 37 (0, 0)) ∧ E < M from
            ⟨S6.out.keep ((Below.refl _ _).alloc (Nat.le_refl _) _), by rw [partB_zero, LL.out]; exact ha_new _ _ _ hM, by rw [hM]; exact row_lt S6.out.be⟩)
          rw [← hM]
          clear hL hM
          have EM := Lib.hid S7.out.2.2
          go_loopw [51] (fun i wr => ∃ j : Nat, j ≤ 32 ∧ i = .int .i64 (j : Int) ∧ SmW w (List.replicate 32 0) E t wr ∧ wr.heap[M]? = some (.cells (W8 (partB L j)) 37 (0, 0))) (fun i _ => 32 - (intOf i).toNat)
          case atStart => exact ⟨0, Nat.zero_le _, rfl, S7.out.1, S7.out.2.1⟩
          case round =>
            obtain ⟨j, hj, rfl, hs, hm⟩ := hrel
            have S8 := Lib.hid hs
            have M8 := Lib.hid hm
            have J := Lib.hid hj
            clear hj hs hm S7
            by_cases hlt : j < 32
            · have hD : decide ((j : Int) < 32) = true := by simp; omega
              obtain ⟨x, hx⟩ : ∃ x, x = t.s.getD (j / 4) 0 := ⟨_, rfl⟩
              have c1 := row_cell S8.out.be (1 + j / 4) (HB_s true t.s t.rest t.n (j / 4) (by rw [KP.out.hs]; omega))
              rw [← hx] at c1
              have X := Lib.hid hx
              clear hx
              have c2 := row_cell M8.out j (W8_get _ j (by rw [partB_length, LL.out]; exact hlt))
              have f2 := row_free M8.out j
              have b1 : (j : Int) < 32 := by omega
              have b2 : (0 : Int) ≤ 3 - (j : Int) % 4 := by omega
              have b3 : 3 - (j : Int) % 4 ≤ 3 := by omega
              have b4 : ((j : Int) / 4) < 8 := by omega
              have e1 : ((j : Int) / 4).toNat = j / 4 := by omega
              have e2 : (8 * (3 - (j : Int) % 4)).toNat = 8 * (3 - j % 4) := by omega
              go_wp2_with fail
              rw [shr_out x (8 * (3 - j % 4)) (by omega)]
              obtain ⟨w3, hw3⟩ : ∃ w3, w3 = wr.setCell ⟨M, j, none⟩ (.int .u8 ((x >>> UInt32.ofNat (8 * (3 - j % 4))).toUInt8.toNat : Int)) := ⟨_, rfl⟩
              rw [← hw3]
              have hx2 : (x >>> UInt32.ofNat (8 * (3 - j % 4))).toUInt8 = L.getD j 0 := by
                rw [LE.out, outL, List.getD_eq_getElem?_getD, List.getElem?_map, List.getElem?_range hlt, X.out]
                rfl
              have M9 : w3.heap[M]? = some (.cells (W8 (partB L (j + 1))) 37 (0, 0)) := by
                rw [hw3, heap_setCell_same _ _ _ _ _ _ M8.out, W8_set, hx2, partB_set _ _ (by rw [LL.out]; exact hlt)]
              have S9 : SmW w (List.replicate 32 0) E t w3 := by
                have hgr : wr.grownBy w3 (some M) := by rw [hw3]; exact grown_set (World.grownBy.refl _ _) _ _
                have h1 := EM.out
                have h2 := S8.out.hE
                exact ⟨grown_block hgr (by simp; omega) S8.out.bo, grown_block hgr (by simp; omega) S8.out.be, h2, S8.out.bel.trans (grown_below hgr S8.out.bel.size (by intro g e; cases e; omega))⟩
              exact ⟨⟨j + 1, by omega, by go_num, S9, M9⟩, by simp [intOf]; omega⟩
            · have hj : Hid (j = 32) := show j = 32 by have := J.out; omega
              have hD : decide ((j : Int) < 32) = false := by simp; omega
              have M9 := Lib.hid (show wr.heap[M]? = some (.cells (W8 L) 37 (0, 0)) by have := M8.out; rw [hj.out, ← LL.out, partB_full] at this; exact this)
              have Z := Lib.hid (show (Tryz.prog.info? 37).map (·.size) = some (W8 L).size by rw [W8_size, LL.out]; kernel_rfl)
              go_wp2_with (first
                | (refine wpList_load_row rfl 37 (.tmp 6) rfl M rfl 37 (W8 L) (0, 0) _ M9.out Tryz.underlying37 rfl Z.out ?_)
                | (refine wpList_store_whole rfl rfl 37 (.tmp 2) (.tmp 70) rfl w.heap.size (W8 L) rfl rfl 37 _ S8.out.bo Z.out (by rw [W8_size, W8_size, LL.out]; simp) (W8_one _) ?_; intro w8 hz8 hg8 _))
              refine bodyPost_ret (results_cell_row rfl _ _ w.heap.size 37 (W8 L) (0, 0) _ rfl hz8 Tryz.underlying37 rfl Z.out) rfl ⟨?_, ?_⟩
              · rw [LE.out, TT.out, sumH]
              · exact S8.out.bel.trans (grown_below hg8 (Nat.le_of_lt (row_lt S8.out.bo)) (by rintro g ⟨⟩; omega))
        · have hD : decide ((0 : Int) ≤ (((r + 1 : Nat) : Int) - 1)) = true := by simp
          have e0 : (((r + 1 : Nat) : Int) - 1) = (r : Int) := by omega
          have e2 : 8 * (r : Int) ≤ 64 := by have := R8.out; omega
          have e4 : (8 * (r : Int)).toNat = 8 * r := by omega
          obtain ⟨z, hz, e3⟩ := be_byte_ex C r (by have := HC.out; have := HN.out; omega)
          go_wp2_with fail
          have S7 := Lib.hid (S6.out.keep ((Below.refl wr.heap.size _).alloc (Nat.le_refl _) (.cells #[.int .u8 (z.toNat : Int)] 5)))
          refine (write_any true E (putsB q pre) KP.out _ (some ⟨wr.heap.size, 0, none⟩) 1 1 [z] rfl (Nat.le_refl _) (RdB.one (row_cell (fr := (0, 0)) (ha_new wr _ _ rfl) 0 rfl)) (by intro _ a e; cases e; have := row_lt S6.out.be; simp; omega) (by have := HN.out; have := NQ.out; have := NP.out; have := PL.out; have := J.out; unfold zerosN at this; omega) S7.out.be).mono ?_
          rintro e w2 ⟨rfl, hg2, hgr2⟩
          have S8 := Lib.hid (S7.out.step hg2 hgr2)
          clear hg2 hgr2 e3 e4
          go_wp2_with fail
          go_roundw
          case rel =>
            refine ⟨r, pre ++ [z], by have := R8.out; omega, by go_num, ?_, ?_⟩
            · rw [← PRE.out, beLs, ← hz.out, List.append_assoc]
              rfl
            · rw [putsB_append]
              exact S8.out
          case measure => simp [intOf] <;> omega
    · have hE : (((q.n : Nat) : Int) % 64 == 56) = false := by simp; omega
      have hE2 : (((q.n : Nat) : Int) % 64 != 56) = true := by simp; omega
      have HJ := Lib.hid (show j < zerosN h.n by
        have := J.out
        have := NQ.out
        rcases Nat.lt_or_ge j (zerosN h.n) with h1 | h1
        · exact h1
        · exfalso; unfold zerosN at *; omega)
      go_wp2_with fail
      have S6 := Lib.hid (S5.out.keep ((Below.refl wr.heap.size _).alloc (Nat.le_refl _) (.cells #[.int .u8 0] 5)))
      refine (write_any true E q KQ.out _ (some ⟨wr.heap.size, 0, none⟩) 1 1 [0] rfl (Nat.le_refl _) (RdB.one (row_cell (fr := (0, 0)) (ha_new wr _ _ rfl) 0 rfl)) (by intro _ a e; cases e; have := row_lt S5.out.be; simp; omega) (by have := HN.out; have := NQ.out; have := HJ.out; unfold zerosN at this; omega) S6.out.be).mono ?_
      rintro e w2 ⟨rfl, hg2, hgr2⟩
      have S7 := Lib.hid (S6.out.step hg2 hgr2)
      clear hg2 hgr2
      go_wp2_with fail
      go_roundw
      case rel =>
        refine ⟨j + 1, HJ.out, ?_⟩
        have := S7.out
        rw [show putsB (stOf true q) [0] = putsB h (0x80 :: List.replicate (j + 1) 0) by
          rw [List.replicate_succ', ← List.cons_append, putsB_append, ← QQ.out]; rfl] at this
        exact this
      case measure =>
        have d1 := row_cell S7.out.be 73 (HB_n true _ _ _ (putsB_ok KQ.out [0]).hs (putsB_ok KQ.out [0]).hr)
        rw [d1, c73, show (putsB (stOf true q) [0]).n = q.n + 1 from putsB_n q [0]]
        simp only [toCome]
        omega
theorem hsum_any (made : Bool) (g : Nat) (h0 : HSt) (k0 : h0.ok) (w : World) (hb : h0.n ≤ 140737488355000) (hg : w.heap[g]? = some (.cells (HBx made h0) 201 (0, 0))) :
    Calls Tryz.prog 88 #[.pointer (some ⟨g, 0, none⟩)] w fun e w' => e = .returned (.agg (W8 (sumH (if made then h0 else startH)))) ∧ Below w.heap.size w w' :=
  hsum_core _ made g h0 k0 w hb (.inr ⟨rfl, hg⟩)
theorem hsum_nil (w : World) : Calls Tryz.prog 88 #[.pointer none] w fun e w' => e = .returned (.agg (W8 (sumH startH))) ∧ Below w.heap.size w w' :=
  hsum_core _ false 0 startH startH_ok w (Nat.zero_le _) (.inl ⟨rfl, rfl⟩)
end Go.Proofs.YtlocplkjokoknaaGreat

/- The sum of texts, one behind the other. No condition but those each theorem states. -/
namespace Go.Proofs.YtlocplkjokoknaaGreat
set_option linter.unusedVariables false
set_option linter.unusedSimpArgs false
open Go.RowKit
attribute [local go_sem ↓] Go.wp_at_zero Go.wp_at_succ

theorem write_nil (w : World) (v : Value) : Calls Tryz.prog 87 #[.pointer none, v] w fun e w' => e = .returned (.tuple #[]) ∧ w' = w := by
  go_enter Tryz.func87, Tryz.ntmps87
  go_wp2_with fail
  exact bodyPost_ret (results_none rfl _ _ _) rfl ⟨rfl, rfl⟩

set_option maxRecDepth 100000 in
set_option maxHeartbeats 2000000 in
theorem of_any (w : World) (A : Option Addr) (n c : Nat) (vs : List Value) (ls : List (List UInt8)) (hn : vs.length = n) (hR : RdV w A vs) (hall : All2 (SlB w) vs ls) (hb : ls.flatten.length ≤ 140737488355000) (hnb : n ≤ 140737488355000) :
    Calls Tryz.prog 67 #[.slice A n c] w fun e w' => e = .returned (.agg (W8 (hashL ls.flatten))) ∧ Below w.heap.size w w' := by
  have HN := Lib.hid hn
  have HR := Lib.hid hR
  have HA := Lib.hid hall
  have HB := Lib.hid hb
  have NL := Lib.hid (show ls.length = n by rw [← hall.length, hn])
  have Z32 := Lib.hid zero32
  have b0 : (n : Int) ≤ 140737488355000 := by omega
  clear hn hR hall hb hnb
  go_enter Tryz.func67, Tryz.ntmps67
  go_wp2_with fail
  rw [← Z32.out]
  refine (shaNew_any _).mono ?_
  rintro e w1 ⟨E, rfl, hE, hgE, hb1⟩
  have S1 := Lib.hid (show SmW w (List.replicate 32 0) E startH w1 from ⟨below_block hb1 (by simp) (ha_new _ _ _ rfl), hgE, by simp at hE; omega, ((Below.refl _ _).alloc (Nat.le_refl _) _).trans (hb1.mono (by simp))⟩)
  clear hE hgE hb1
  go_wp2_with fail
  go_loopw [9] (fun i wr => ∃ j : Nat, j ≤ n ∧ i = .int .i64 (j : Int) ∧ SmW w (List.replicate 32 0) E (putsB startH (ls.take j).flatten) wr) (fun i _ => n - (intOf i).toNat)
  case atStart => exact ⟨0, Nat.zero_le _, rfl, S1.out⟩
  case round =>
    obtain ⟨j, hj, rfl, hs⟩ := hrel
    have J := Lib.hid hj
    have S2 := Lib.hid hs
    obtain ⟨q, hq⟩ : ∃ q, q = putsB startH (ls.take j).flatten := ⟨_, rfl⟩
    rw [← hq] at S2
    have QQ := Lib.hid hq
    have KQ := Lib.hid (show q.ok by rw [hq]; exact putsB_ok startH_ok _)
    have NQ := Lib.hid (show q.n = (ls.take j).flatten.length by rw [hq, putsB_n]; simp [startH])
    clear hj hs hq S1
    by_cases hlt : j < n
    · have hD : decide ((j : Int) < (n : Int)) = true := by simp; omega
      obtain ⟨l, hl⟩ : ∃ l, ls[j]? = some l := ⟨_, List.getElem?_eq_getElem (by rw [NL.out]; exact hlt)⟩
      obtain ⟨v, hv, A', c', rfl, hc', hR'⟩ := HA.out.get j l hl
      obtain ⟨b, o, rfl, hcell⟩ := (HR.out.keep S2.out.bel) j _ hv
      have L1 := Lib.hid hl
      have R1 := Lib.hid (hR'.keep S2.out.bel)
      have L2 := Lib.hid (fun h0 => hR'.lt h0)
      have C1 := Lib.hid hc'
      have FL := Lib.hid (show (ls.take (j + 1)).flatten = (ls.take j).flatten ++ l by rw [List.take_add_one, hl]; simp)
      have BL := Lib.hid (show (ls.take j).flatten.length + l.length ≤ 140737488355000 by
        have h1 := congrArg List.length FL.out
        rw [List.length_append] at h1
        have h2 : (ls.take (j + 1)).flatten.length ≤ ls.flatten.length := by
          rw [show ls.flatten = (ls.take (j + 1)).flatten ++ (ls.drop (j + 1)).flatten by rw [← List.flatten_append, List.take_append_drop], List.length_append]
          omega
        have := HB.out
        omega)
      obtain ⟨m, hm⟩ : ∃ m, m = l.length := ⟨_, rfl⟩
      rw [← hm] at hcell
      have M := Lib.hid hm
      clear hl hv hc' hR' hm
      go_wp2_with fail
      refine (write_any true E q KQ.out _ A' m c' l M.out.symm (by rw [M.out]; exact C1.out) R1.out (fun h0 a ea => by have := L2.out h0 a ea; have := S2.out.hE; omega) (by rw [NQ.out, M.out]; have := BL.out; omega) S2.out.be).mono ?_
      rintro e w2 ⟨rfl, hg2, hgr2⟩
      have S3 := Lib.hid (S2.out.step hg2 hgr2)
      clear hg2 hgr2 hcell
      go_wp2_with fail
      go_roundw
      case rel =>
        refine ⟨j + 1, by omega, by go_num, ?_⟩
        rw [FL.out, putsB_append, ← QQ.out]
        exact S3.out
      case measure => simp [intOf]; omega
    · have hjn : Hid (j = n) := show j = n by have := J.out; omega
      have hD : decide ((j : Int) < (n : Int)) = false := by simp; omega
      go_wp2_with fail
      refine (hsum_any true E q KQ.out _ (by rw [NQ.out, hjn.out, ← NL.out, List.take_length]; exact HB.out) S2.out.be).mono ?_
      rintro e w2 ⟨rfl, hb2⟩
      have S3 := Lib.hid (S2.out.keep hb2)
      clear hb2
      obtain ⟨L, hL⟩ : ∃ L, L = sumH (if true = true then q else startH) := ⟨_, rfl⟩
      rw [← hL]
      have LL := Lib.hid (show L.length = 32 by rw [hL, sumH_length])
      have LE := Lib.hid (show L = hashL ls.flatten by rw [hL, if_pos rfl, QQ.out, hjn.out, ← NL.out, List.take_length]; rfl)
      clear hL
      have Z := Lib.hid (show (Tryz.prog.info? 37).map (·.size) = some (W8 L).size by rw [W8_size, LL.out]; kernel_rfl)
      go_wp2_with (refine wpList_store_whole rfl rfl 37 (.tmp 2) (.tmp 18) rfl w.heap.size (W8 L) rfl rfl 37 _ S3.out.bo Z.out (by rw [W8_size, W8_size, LL.out]; simp) (W8_one _) ?_; intro w8 hz8 hg8 _)
      refine bodyPost_ret (results_cell_row rfl _ _ w.heap.size 37 (W8 L) (0, 0) _ rfl hz8 Tryz.underlying37 rfl Z.out) rfl ⟨?_, ?_⟩
      · rw [LE.out]
      · exact S3.out.bel.trans (grown_below hg8 (Nat.le_of_lt (row_lt S3.out.bo)) (by rintro g ⟨⟩; omega))
set_option maxRecDepth 100000 in
set_option maxHeartbeats 1000000 in
theorem shaSum_any (w : World) (A : Option Addr) (n c : Nat) (l : List UInt8) (hn : l.length = n) (hc : n ≤ c) (hR : RdB w A l) (hb : n ≤ 140737488355000) :
    Calls Tryz.prog 47 #[.slice A n c] w fun e w' => e = .returned (.agg (W8 (hashL l))) ∧ Below w.heap.size w w' := by
  have HN := Lib.hid hn
  have HC := Lib.hid hc
  have HR := Lib.hid hR
  have HB := Lib.hid hb
  have Z32 := Lib.hid zero32
  clear hn hc hR hb
  go_enter Tryz.func47, Tryz.ntmps47
  go_wp2_with fail
  rw [← Z32.out]
  obtain ⟨w1, hw1⟩ : ∃ w1, w1 = (w.alloc (.cells (W8 (List.replicate 32 0)) 37)) := ⟨_, rfl⟩
  have S1 := Lib.hid (show w1.heap[w.heap.size]? = some (.cells (W8 (List.replicate 32 0)) 37 (0, 0)) ∧ Below w.heap.size w w1 ∧ w1.heap.size = w.heap.size + 1 by rw [hw1]; exact ⟨ha_new _ _ _ rfl, (Below.refl _ _).alloc (Nat.le_refl _) _, ha_size _ _⟩)
  rw [← hw1]
  have B2 := Lib.hid (show Below w1.heap.size w1 (w1.alloc (.cells #[.slice A n c] 22)) from (Below.refl _ _).alloc (Nat.le_refl _) _)
  refine (of_any _ (some ⟨w.heap.size + 1, 0, none⟩) 1 1 [.slice A n c] [l] rfl (RdV.one (row_cell (fr := (0, 0)) (ha_new w1 _ _ S1.out.2.2.symm) 0 rfl)) (.cons ⟨A, c, by rw [HN.out], by rw [HN.out]; exact HC.out, (HR.out.keep S1.out.2.1).keep B2.out⟩ .nil) (by simp [HN.out]; exact HB.out) (by omega)).mono ?_
  rintro e w2 ⟨rfl, hb2⟩
  have B3 := Lib.hid (B2.out.trans (hb2.mono (by simp)))
  have G3 := Lib.hid (below_block B3.out (row_lt S1.out.1) S1.out.1)
  obtain ⟨L, hL⟩ : ∃ L, L = hashL ([l].flatten) := ⟨_, rfl⟩
  rw [← hL]
  have LL := Lib.hid (show L.length = 32 by rw [hL, hashL_length])
  have LE := Lib.hid (show L = hashL l by rw [hL]; simp)
  have Z := Lib.hid (show (Tryz.prog.info? 37).map (·.size) = some (W8 L).size by rw [W8_size, LL.out]; kernel_rfl)
  clear hL hb2 hw1
  go_wp2_with (refine wpList_store_whole rfl rfl 37 (.tmp 2) (.tmp 5) rfl w.heap.size (W8 L) rfl rfl 37 _ G3.out Z.out (by rw [W8_size, W8_size, LL.out]; simp) (W8_one _) ?_; intro w8 hz8 hg8 _)
  refine bodyPost_ret (results_cell_row rfl _ _ w.heap.size 37 (W8 L) (0, 0) _ rfl hz8 Tryz.underlying37 rfl Z.out) rfl ⟨?_, ?_⟩
  · rw [LE.out]
  · exact (S1.out.2.1.trans (B3.out.mono S1.out.2.1.size)).trans (grown_below hg8 (Nat.le_of_lt (row_lt G3.out)) (by rintro g ⟨⟩; omega))
end Go.Proofs.YtlocplkjokoknaaGreat

/- slices.Clone at bytes: a row of the call's own with the same bytes. No condition but those each theorem states. -/
namespace Go.Proofs.YtlocplkjokoknaaGreat
set_option linter.unusedVariables false
set_option linter.unusedSimpArgs false
open Go.RowKit

set_option maxRecDepth 100000 in
set_option maxHeartbeats 1000000 in
theorem clone_any (w : World) (A : Option Addr) (n c : Nat) (l : List UInt8) (hn : l.length = n) (hR : RdB w A l) (hb : n ≤ 140737488355328) :
    Calls Tryz.prog 60 #[.slice A n c] w fun e w' => ∃ v, e = .returned v ∧ OwnB w' w.heap.size v l ∧ Below w.heap.size w w' := by
  have TB := Lib.hid (show ByteT Tryz.prog from ⟨Tryz.underlying22, by kernel_rfl⟩)
  have q22 : ∀ (w : World) (a : Option Addr) (n c n' c' : Nat), (binOp .eql 22 (.slice a n c) (.slice none n' c')).run Tryz.prog w = .ok (.bool a.isNone) w := fun w a n c n' c' => Lib.run_eql_slice_nil w _ _ a n c n' c' Tryz.underlying22
  have HR := Lib.hid hR
  have HN := Lib.hid hn
  clear hR hn
  rcases A with _ | ad
  · have hl : l = [] := by
      rcases l with _ | ⟨x, r⟩
      · rfl
      · obtain ⟨b, o, e, _⟩ := HR.out 0 (by simp)
        cases e
    have HL := Lib.hid hl
    clear hl
    go_enter Tryz.func60, Tryz.ntmps60
    go_wp2_with fail
    go_ret
    exact ⟨_, rfl, by rw [HL.out]; exact OwnB.nil _ _, Below.refl _ _⟩
  · go_enter Tryz.func60, Tryz.ntmps60
    go_wp2_with (refine app_list rfl TB.out (.tmp 5) (.tmp 6) rfl w.heap.size _ [] l (some ad) n c rfl rfl HN.out (World.ownsRow_made w #[] 0 (Nat.le_refl _) (Nat.zero_le _) rfl) ?c1 ?c2 ?c3 ?_)
    case c1 => exact HR.out.grown (World.grownBy_alloc w _ _) (fun g e a ea => by cases e) (r := none)
    case c2 => simp
    case c3 => simp; omega
    intro v1 w1 ho hg hv
    go_wp2_with fail
    go_ret
    exact ⟨_, rfl, by simpa using ho, ((Below.refl _ _).alloc (Nat.le_refl _) _).trans (grown_below hg (by simp) (fun g e => by simp [Value.ownBlock] at e; omega))⟩
end Go.Proofs.YtlocplkjokoknaaGreat

/- wire.Put: the lowest bytes of a number behind bytes, the highest first. -/
namespace Go.Proofs.YtlocplkjokoknaaGreat
set_option linter.unusedVariables false
set_option linter.unusedSimpArgs false
open Go.RowKit
attribute [local go_sem ↓] Go.wp_at_zero Go.wp_at_succ

/-- So many bytes of a number, the highest first. -/
def beL : Nat → Nat → List UInt8
  | 0, _ => []
  | k + 1, x => UInt8.ofNat (x / 2 ^ (8 * k)) :: beL k x
theorem beL_length (k x : Nat) : (beL k x).length = k := by
  induction k with
  | zero => rfl
  | succ k ih => simp [beL, ih]
/-- How many bytes are laid. -/
def putN (n : Int) : Nat := (min n 8).toNat
theorem putN_ex (k : Int) (h : -100 ≤ k ∧ k ≤ 100) : ∃ m : Int, (if (8 : Int) < k then (8 : Int) else k) = m ∧ IntKind.i64.wrap (m - 1) = m - 1 ∧ Hid (m = (putN k : Int) ∨ (putN k = 0 ∧ m ≤ 0)) ∧ -100 ≤ m ∧ m ≤ 8 := by
  refine ⟨min k 8, ?_, ?_, ?_, by omega, by omega⟩
  · split <;> omega
  · rw [IntKind.wrap_i64]; omega
  · show _ ∨ _
    unfold putN
    omega
theorem put_byte_ex (x : UInt64) (r : Nat) : ∃ z : UInt8, Hid (z = UInt8.ofNat (x.toNat / 2 ^ (8 * r))) ∧ IntKind.u8.wrap ((x.toNat : Int) / 2 ^ (8 * r)) = (z.toNat : Int) := by
  refine ⟨_, rfl, ?_⟩
  rw [IntKind.wrap_u8]
  have : ((x.toNat : Int) / 2 ^ (8 * r)) = ((x.toNat / 2 ^ (8 * r) : Nat) : Int) := by
    rw [Int.natCast_ediv, Int.natCast_pow]; rfl
  rw [this]
  simp

set_option maxRecDepth 100000 in
set_option maxHeartbeats 1000000 in
theorem put_any (w : World) (A : Option Addr) (n c : Nat) (l : List UInt8) (x : UInt64) (k : Int) (hk : -100 ≤ k ∧ k ≤ 100) (hn : l.length = n) (hR : RdB w A l) (hb : n ≤ 140737488355320) :
    Calls Tryz.prog 73 #[.slice A n c, .int .u64 (x.toNat : Int), .int .i64 k] w fun e w' => ∃ v, e = .returned v ∧ OwnB w' w.heap.size v (l ++ beL (putN k) x.toNat) ∧ Below w.heap.size w w' := by
  have TB := Lib.hid (show ByteT Tryz.prog from ⟨Tryz.underlying22, by kernel_rfl⟩)
  have HR := Lib.hid hR
  have HN := Lib.hid hn
  have HB := Lib.hid hb
  clear hR hn hb
  go_enter Tryz.func73, Tryz.ntmps73
  go_wp2_with fail
  refine (clone_any w A n c l HN.out HR.out (by have := HB.out; omega)).mono ?_
  rintro e w1 ⟨v, rfl, ho, hb1⟩
  have O1 := Lib.hid ho
  have B1 := Lib.hid hb1
  clear ho hb1 HR
  obtain ⟨m, hm, hm1, hm2, hm3, hm4⟩ := putN_ex k hk
  have e1 : wrap64 (m - 1) = m - 1 := by unfold wrap64; omega
  go_wp2_with fail
  clear hm hm1 e1
  go_loopw [7, 8] (fun v i wr => ∃ (r : Nat) (pre : List UInt8), r ≤ 8 ∧ pre.length + r ≤ n + 8 ∧ (i = .int .i64 ((r : Int) - 1) ∨ (r = 0 ∧ ∃ i' : Int, i = .int .i64 i' ∧ i' < 0)) ∧ pre ++ beL r x.toNat = l ++ beL (putN k) x.toNat ∧ OwnB wr w.heap.size v pre ∧ Below w.heap.size w wr) (fun _ i _ => (intOf i + 1).toNat)
  case atStart =>
    refine ⟨putN k, l, by unfold putN; omega, by have := HN.out; unfold putN; omega, ?_, rfl, O1.out, B1.out⟩
    rcases hm2.out with h | ⟨h0, h1⟩
    · exact .inl (by rw [h])
    · exact .inr ⟨h0, _, rfl, by omega⟩
  case round =>
    obtain ⟨r, pre, hr8, hrl, hi, hpre, ho, hb⟩ := hrel
    have R8 := Lib.hid hr8
    have RL := Lib.hid hrl
    have PRE := Lib.hid hpre
    have O2 := Lib.hid ho
    have B2 := Lib.hid hb
    clear hr8 hrl hpre ho hb O1 B1 w1
    rcases r with _ | r
    · obtain ⟨i, rfl, hi0⟩ : ∃ i : Int, u8 = .int .i64 i ∧ i < 0 := by
        rcases hi with h | ⟨_, i', h, h1⟩
        · exact ⟨_, h, by simp⟩
        · exact ⟨i', h, h1⟩
      have hD : decide ((0 : Int) ≤ i) = false := by simp; omega
      clear hi
      go_wp2_with fail
      go_ret
      refine ⟨_, rfl, ?_, B2.out⟩
      have := PRE.out
      rw [beL, List.append_nil] at this
      rw [← this]
      exact O2.out
    · obtain rfl : u8 = .int .i64 (r : Int) := by
        rcases hi with h | ⟨h, _⟩
        · rw [h]; congr 1; omega
        · omega
      clear hi
      have hD : decide ((0 : Int) ≤ (r : Int)) = true := by simp
      have e2 : 8 * (r : Int) ≤ 64 := by have := R8.out; omega
      have e4 : (8 * (r : Int)).toNat = 8 * r := by omega
      obtain ⟨z, hz, e3⟩ := put_byte_ex x r
      go_wp2_with (refine app_list rfl TB.out (.tmp 18) (.tmp 24) rfl w.heap.size u7 pre [z] (some ⟨wr.heap.size, 0, none⟩) 1 1 rfl rfl rfl (O2.out.alloc _) (RdB.one (row_cell (fr := (0, 0)) (ha_new wr _ _ rfl) 0 rfl)) ?c1 ?c2 ?_)
      case c1 => have := B2.out.size; rw [ha_size]; omega
      case c2 => have := RL.out; have := HB.out; omega
      intro v1 w1 ho hg hv
      have O3 := Lib.hid ho
      have B3 := Lib.hid (show Below w.heap.size w w1 from (B2.out.alloc B2.out.size _).trans (grown_below hg (by rw [ha_size]; have := B2.out.size; omega) (fun g e => (O2.out.lt g e).1)))
      clear ho hg hv O2 B2
      go_wp2_with fail
      go_roundw
      case rel =>
        refine ⟨r, pre ++ [z], by have := R8.out; omega, by have := RL.out; simp; omega, .inl (by go_num), ?_, O3.out, B3.out⟩
        rw [← PRE.out, beL, ← hz.out, List.append_assoc]
        rfl
      case measure => simp [intOf] <;> omega
end Go.Proofs.YtlocplkjokoknaaGreat

/- draws.Source: its form in memory. No condition but those each theorem states. -/
namespace Go.Proofs.YtlocplkjokoknaaGreat
set_option linter.unusedVariables false
set_option linter.unusedSimpArgs false
open Go.RowKit
attribute [local go_sem ↓] Go.wp_at_zero Go.wp_at_succ

/-- Its cells: the first bytes, their sum, whether that is known, how many were told, whose block is at hand, whether one is, the block. -/
def SrcL (fv : Value) (seed : List UInt8) (begun : Bool) (u bk : Nat) (held : Bool) (blk : List UInt8) : List Value :=
  fv :: (B8 seed ++ (.bool begun :: .int .i64 (u : Int) :: .int .i64 (bk : Int) :: .bool held :: B8 blk))
def SrcC (fv : Value) (seed : List UInt8) (begun : Bool) (u bk : Nat) (held : Bool) (blk : List UInt8) : Array Value := (SrcL fv seed begun u bk held blk).toArray
section
variable {fv : Value} {seed blk : List UInt8} {begun held : Bool} {u bk : Nat}
theorem SrcC_size (hs : seed.length = 32) (hb : blk.length = 32) : (SrcC fv seed begun u bk held blk).size = 69 := by simp [SrcC, SrcL, B8_length, hs, hb]
theorem SrcC_f : (SrcC fv seed begun u bk held blk)[0]? = some fv := by simp [SrcC, SrcL]
theorem SrcL_tail (hs : seed.length = 32) (i : Nat) : (SrcL fv seed begun u bk held blk)[33 + i]? = (Value.bool begun :: .int .i64 (u : Int) :: .int .i64 (bk : Int) :: .bool held :: B8 blk)[i]? := by
  rw [SrcL, show 33 + i = (32 + i) + 1 by omega, List.getElem?_cons_succ, List.getElem?_append_right (by rw [B8_length, hs]; omega), B8_length, hs, show 32 + i - 32 = i by omega]
theorem SrcC_begun (hs : seed.length = 32) : (SrcC fv seed begun u bk held blk)[33]? = some (.bool begun) := by
  rw [SrcC, List.getElem?_toArray, SrcL_tail hs 0]; rfl
theorem SrcC_u (hs : seed.length = 32) : (SrcC fv seed begun u bk held blk)[34]? = some (.int .i64 (u : Int)) := by
  rw [SrcC, List.getElem?_toArray, SrcL_tail hs 1]; rfl
theorem SrcC_bk (hs : seed.length = 32) : (SrcC fv seed begun u bk held blk)[35]? = some (.int .i64 (bk : Int)) := by
  rw [SrcC, List.getElem?_toArray, SrcL_tail hs 2]; rfl
theorem SrcC_held (hs : seed.length = 32) : (SrcC fv seed begun u bk held blk)[36]? = some (.bool held) := by
  rw [SrcC, List.getElem?_toArray, SrcL_tail hs 3]; rfl
theorem SrcC_blk (hs : seed.length = 32) (i : Nat) (hi : i < blk.length) : (SrcC fv seed begun u bk held blk)[37 + i]? = some (.int .u8 ((blk.getD i 0).toNat : Int)) := by
  rw [SrcC, List.getElem?_toArray, show 37 + i = 33 + (i + 4) by omega, SrcL_tail hs]
  simp [B8, hi]
theorem SrcC_seed (i : Nat) (hi : i < seed.length) : (SrcC fv seed begun u bk held blk)[1 + i]? = some (.int .u8 ((seed.getD i 0).toNat : Int)) := by
  rw [SrcC, List.getElem?_toArray, SrcL, show 1 + i = i + 1 by omega, List.getElem?_cons_succ, List.getElem?_append_left (by rw [B8_length]; exact hi)]
  simp [B8, hi]
theorem SrcC_one (h : fv.oneCell' = true) : (SrcC fv seed begun u bk held blk).all (·.oneCell') = true := all_oneCell_toArray (by
  intro v hv
  simp only [SrcL, List.mem_cons, List.mem_append, B8, List.mem_map] at hv
  rcases hv with rfl | ⟨x, _, rfl⟩ | rfl | rfl | rfl | rfl | ⟨x, _, rfl⟩ <;> first | exact h | rfl)
theorem SrcC_set_begun (hs : seed.length = 32) (b2 : Bool) : (SrcC fv seed begun u bk held blk).setIfInBounds 33 (.bool b2) = SrcC fv seed b2 u bk held blk := by
  rw [SrcC, SrcC, List.setIfInBounds_toArray, SrcL, SrcL, List.set_cons_succ, List.set_append_right _ _ (by rw [B8_length, hs]; omega), B8_length, hs]
  rfl
theorem SrcC_set_u (hs : seed.length = 32) (u2 : Nat) : (SrcC fv seed begun u bk held blk).setIfInBounds 34 (.int .i64 (u2 : Int)) = SrcC fv seed begun u2 bk held blk := by
  rw [SrcC, SrcC, List.setIfInBounds_toArray, SrcL, SrcL, List.set_cons_succ, List.set_append_right _ _ (by rw [B8_length, hs]; omega), B8_length, hs]
  rfl
theorem SrcC_set_f (f2 : Value) : (SrcC fv seed begun u bk held blk).setIfInBounds 0 f2 = SrcC f2 seed begun u bk held blk := by simp [SrcC, SrcL]
theorem SrcC_put_seed (hs : seed.length = 32) (v : List UInt8) (hv : v.length = 32) :
    ((SrcC fv seed begun u bk held blk).toList.take 1 ++ ((W8 v).toList ++ (SrcC fv seed begun u bk held blk).toList.drop (1 + (W8 v).size))).toArray = SrcC fv v begun u bk held blk := by
  rw [W8_size, hv]
  simp only [SrcC, SrcL, List.take_succ_cons, List.take_zero, Nat.add_comm 1 32, List.drop_succ_cons]
  rw [List.drop_append_of_le_length (by rw [B8_length, hs]; omega), List.drop_of_length_le (by rw [B8_length, hs]; omega)]
  simp [W8, B8]
theorem SrcC_put_at (hs : seed.length = 32) (u2 bk2 : Nat) (h2 : Bool) :
    ((SrcC fv seed begun u bk held blk).toList.take 34 ++ (([.int .i64 (u2 : Int), .int .i64 (bk2 : Int), .bool h2] : List Value) ++ (SrcC fv seed begun u bk held blk).toList.drop (34 + 3))).toArray = SrcC fv seed begun u2 bk2 h2 blk := by
  have e1 : (SrcL fv seed begun u bk held blk).take 34 = fv :: (B8 seed ++ [.bool begun]) := by
    rw [SrcL, List.take_succ_cons, List.take_append, List.take_of_length_le (by rw [B8_length, hs]; omega), B8_length, hs]
    rfl
  have e2 : (SrcL fv seed begun u bk held blk).drop 37 = B8 blk := by
    rw [SrcL, List.drop_succ_cons, List.drop_append, List.drop_of_length_le (by rw [B8_length, hs]; omega), B8_length, hs]
    rfl
  rw [SrcC, SrcC]
  simp only [Nat.reduceAdd]
  rw [e1, e2]
  simp [SrcL]
theorem SrcC_put_blk (hs : seed.length = 32) (hb : blk.length = 32) (v : List UInt8) (hv : v.length = 32) :
    ((SrcC fv seed begun u bk held blk).toList.take 37 ++ ((W8 v).toList ++ (SrcC fv seed begun u bk held blk).toList.drop (37 + (W8 v).size))).toArray = SrcC fv seed begun u bk held v := by
  have e1 : (SrcL fv seed begun u bk held blk).take 37 = fv :: (B8 seed ++ [.bool begun, .int .i64 (u : Int), .int .i64 (bk : Int), .bool held]) := by
    rw [SrcL, List.take_succ_cons, List.take_append, List.take_of_length_le (by rw [B8_length, hs]; omega), B8_length, hs]
    rfl
  have e2 : (SrcL fv seed begun u bk held blk).drop 69 = [] := List.drop_of_length_le (by have := @SrcC_size fv seed blk begun held u bk hs hb; simp only [SrcC, List.size_toArray] at this; omega)
  rw [SrcC, SrcC, W8_size, hv]
  simp only [Nat.reduceAdd]
  rw [e1, e2]
  simp [SrcL, W8, B8]
end
/-- A byte of the source. -/
def byteS (F : List UInt8) (i : Nat) : UInt8 := if i < F.length then F.getD i 0 else (hashL (hashL F ++ beL 8 ((i - F.length) / 32))).getD ((i - F.length) % 32) 0
/-- A source at block g, its first bytes in block D, so many told. -/
structure Src (g D : Nat) (F : List UInt8) (u : Nat) (b : Bool) (W : World) : Prop where
  has : ∃ A c seed begun bk held blk, W.heap[g]? = some (.cells (SrcC (.slice A F.length c) seed begun u bk held blk) 85 (0, 0)) ∧ F.length ≤ c ∧ RdB W A F ∧ (∀ a, A = some a → a.block ≠ g ∧ a.block < W.heap.size ∧ a.block = D) ∧ seed.length = 32 ∧ blk.length = 32 ∧ (begun = true → seed = hashL F) ∧ (held = true → begun = true ∧ blk = hashL (hashL F ++ beL 8 bk)) ∧ (b = true → begun = true)
theorem Src.lt {g D : Nat} {F : List UInt8} {u : Nat} {b : Bool} {W : World} (h : Src g D F u b W) : g < W.heap.size := by
  obtain ⟨A, c, seed, begun, bk, held, blk, h1, _⟩ := h.has
  exact row_lt h1
theorem Src.keep {g D : Nat} {F : List UInt8} {u : Nat} {b : Bool} {W W' : World} (h : Src g D F u b W) (hb : Below W.heap.size W W') : Src g D F u b W' := by
  obtain ⟨A, c, seed, begun, bk, held, blk, h1, h2, h3, h4, h5⟩ := h.has
  exact ⟨A, c, seed, begun, bk, held, blk, below_block hb (row_lt h1) h1, h2, h3.keep hb, fun a e => ⟨(h4 a e).1, Nat.lt_of_lt_of_le (h4 a e).2.1 hb.size, (h4 a e).2.2⟩, h5⟩
theorem Src.far {g D : Nat} {F : List UInt8} {u : Nat} {b : Bool} {W W' : World} {r : Option Nat} (h : Src g D F u b W) (hg : W.grownBy W' r) (hr : ∀ k, r = some k → k ≠ g ∧ k ≠ D) : Src g D F u b W' := by
  obtain ⟨A, c, seed, begun, bk, held, blk, h1, h2, h3, h4, h5⟩ := h.has
  exact ⟨A, c, seed, begun, bk, held, blk, grown_block hg (fun e => (hr g e.symm).1 rfl) h1, h2, h3.grown hg (fun k e a ea => by have := (h4 a ea).2.2; have := (hr k e).2; omega), fun a e => ⟨(h4 a e).1, Nat.lt_of_lt_of_le (h4 a e).2.1 hg.size, (h4 a e).2.2⟩, h5⟩
end Go.Proofs.YtlocplkjokoknaaGreat

/- draws.Source: begin. No condition but those each theorem states. -/
namespace Go.Proofs.YtlocplkjokoknaaGreat
set_option linter.unusedVariables false
set_option linter.unusedSimpArgs false
open Go.RowKit
attribute [local go_sem ↓] Go.wp_at_zero Go.wp_at_succ

set_option maxRecDepth 100000 in
set_option maxHeartbeats 2000000 in
theorem sbegin_any (g D : Nat) (F : List UInt8) (u : Nat) (b : Bool) (w : World) (h : Src g D F u b w) (hb : F.length ≤ 100000) :
    Calls Tryz.prog 24 #[.pointer (some ⟨g, 0, none⟩)] w fun e w' => e = .returned (.tuple #[]) ∧ Src g D F u true w' ∧ w.grownBy w' (some g) := by
  obtain ⟨A, c, seed, begun, bk, held, blk, h1, h2, h3, h4, hs, hk, h5, h6, h7⟩ := h.has
  obtain ⟨n, hn⟩ : ∃ n, n = F.length := ⟨_, rfl⟩
  rw [← hn] at h1 h2 hb
  have NE := Lib.hid hn.symm
  have GA := Lib.hid h1
  have HC := Lib.hid h2
  have RA := Lib.hid h3
  have HA := Lib.hid h4
  have HS := Lib.hid hs
  have HK := Lib.hid hk
  have H5 := Lib.hid h5
  have H6 := Lib.hid h6
  have NB := Lib.hid hb
  have c33 := row_cell h1 33 (SrcC_begun hs)
  have c0 := row_cell h1 0 SrcC_f
  clear h h1 h2 h3 h4 hs hk h5 h6 h7 hn hb
  go_enter Tryz.func24, Tryz.ntmps24
  rcases begun with _ | _
  · go_wp2_with fail
    refine (shaSum_any w A n c F NE.out HC.out RA.out (by have := NB.out; omega)).mono ?_
    obtain ⟨L, hL⟩ : ∃ L, L = hashL F := ⟨_, rfl⟩
    rw [← hL]
    have LE := Lib.hid hL
    have LL := Lib.hid (show L.length = 32 by rw [hL, hashL_length])
    have Z := Lib.hid (show (Tryz.prog.info? 37).map (·.size) = some (W8 L).size by rw [W8_size, LL.out]; kernel_rfl)
    rintro e w1 ⟨rfl, hb1⟩
    have GA := Lib.hid (below_block hb1 (row_lt GA.out) GA.out)
    have B1 := Lib.hid hb1
    clear hL hb1 c33 c0
    go_wp2_with (refine storeM_list rfl 37 (.tmp 15) (.tmp 13) rfl g 1 (W8 L) rfl rfl _ _ GA.out Z.out (by rw [SrcC_size HS.out HK.out, W8_size, LL.out]; decide) (W8_one _) ?_; intro w2 hg2 hgr2 hs2; rw [SrcC_put_seed HS.out _ LL.out] at hg2; have c33 := row_cell hg2 33 (SrcC_begun LL.out); have f33 := row_free hg2 33; have G2 := Lib.hid hg2; have R2 := Lib.hid hgr2; clear hg2 hgr2 hs2)
    go_end0
    have hw : w.grownBy (w2.setCell ⟨g, 33, none⟩ (.bool true)) (some g) := World.grownBy.trans (grown_of_below B1.out |>.mono_none) (World.grownBy.trans R2.out (grown_set (World.grownBy.refl _ _) _ _))
    refine ⟨rfl, ⟨A, c, L, true, bk, held, blk, ?_, by rw [NE.out]; exact HC.out, RA.out.grown hw (fun k e a ea => by cases e; exact (HA.out a ea).1), fun a ea => ⟨(HA.out a ea).1, Nat.lt_of_lt_of_le (HA.out a ea).2.1 hw.size, (HA.out a ea).2.2⟩, LL.out, HK.out, fun _ => LE.out, fun e => ?_, fun _ => rfl⟩, hw⟩
    · rw [heap_setCell_same _ _ _ _ _ _ G2.out, SrcC_set_begun LL.out, NE.out]
    · have := (H6.out e).1
      cases this
  · go_wp2_with fail
    go_end0
    exact ⟨rfl, ⟨A, c, seed, true, bk, held, blk, by rw [NE.out]; exact GA.out, by rw [NE.out]; exact HC.out, RA.out, HA.out, HS.out, HK.out, fun _ => H5.out trivial, fun e => ⟨rfl, (H6.out e).2⟩, fun _ => rfl⟩, World.grownBy.refl _ _⟩
end Go.Proofs.YtlocplkjokoknaaGreat

/- draws.Source: behind. No condition but those each theorem states. -/
namespace Go.Proofs.YtlocplkjokoknaaGreat
set_option linter.unusedVariables false
set_option linter.unusedSimpArgs false
open Go.RowKit
attribute [local go_sem ↓] Go.wp_at_zero Go.wp_at_succ

def plV (u bk : Nat) (held : Bool) : Value := .agg #[.int .i64 (u : Int), .int .i64 (bk : Int), .bool held]
theorem run_neq_place {o : Oper} {a : Act} (x y : Operand) (ho : o.op = .binOp .neq 83 x y 83) (u bk n : Nat) (held : Bool) (hx : a.eval x = plV u bk held) (hy : a.eval y = plV u n true) (W : World) :
    (execOp a.eval o).run Tryz.prog W = .ok (.value (.bool (!(decide (bk = n) && held)))) W := by
  unfold execOp plV at *
  simp only [ho, hx, hy, Sem.run_bind, Sem.run_pure]
  have h1 : ((bk : Int) == (n : Int)) = decide (bk = n) := by rw [Bool.eq_iff_iff]; simp; omega
  cases held <;> by_cases e : bk = n
  all_goals go_simp
theorem run_load_place {o : Oper} {a : Act} (x : Operand) (ho : o.op = .load 83 x) (b off : Nat) (hx : a.eval x = .pointer (some ⟨b, off, none⟩)) (u bk : Nat) (held : Bool) {W : World}
    (h0 : W.cell? ⟨b, off, none⟩ = some (.int .i64 (u : Int))) (h1 : W.cell? ⟨b, off + 1, none⟩ = some (.int .i64 (bk : Int))) (h2 : W.cell? ⟨b, off + 2, none⟩ = some (.bool held)) :
    (execOp a.eval o).run Tryz.prog W = .ok (.value (plV u bk held)) W := by
  have hr : W.rangeAt b off [.int .i64 (u : Int), .int .i64 (bk : Int), .bool held] := by
    intro j v hj
    match j, hj with
    | 0, hj => simp at hj; subst hj; exact h0
    | 1, hj => simp at hj; subst hj; exact h1
    | 2, hj => simp at hj; subst hj; exact h2
  unfold execOp
  simp only [ho, hx, Instr.loadAt, Instr.sureAddr, Sem.run_bind, Sem.run_pure, Result.andThen_ok, run_loadVar_mid W b off _ _ _ hr Tryz.underlying83 rfl (show (Tryz.prog.info? 83).map (·.size) = some 3 by kernel_rfl)]
  rfl
theorem same_false (bk n : Nat) (held : Bool) (h : ¬ (bk = n ∧ held = true)) : (!(decide (bk = n) && held)) = true := by
  cases held
  · simp
  · have : ¬ bk = n := fun e => h ⟨e, rfl⟩
    simp [this]
theorem same_true (bk n : Nat) (held : Bool) (h1 : bk = n) (h2 : held = true) : (!(decide (bk = n) && held)) = false := by rw [h1, h2]; simp
/-- The block behind. -/
def blockS (F : List UInt8) (n : Nat) : List UInt8 := hashL (hashL F ++ beL 8 n)
set_option maxRecDepth 100000 in
set_option maxHeartbeats 4000000 in
theorem behind_any (g D : Nat) (F : List UInt8) (u : Nat) (w : World) (h : Src g D F u true w) (hb : F.length ≤ 100000) (hu : u ≤ 1000000) (i : Nat) (hi : i ≤ 1000000) :
    Calls Tryz.prog 108 #[.pointer (some ⟨g, 0, none⟩), .int .i64 (i : Int)] w fun e w' => e = .returned (.int .u8 (((blockS F (i / 32)).getD (i % 32) 0).toNat : Int)) ∧ Src g D F u true w' ∧ w.grownBy w' (some g) := by
  obtain ⟨A, c, seed, begun, bk, held, blk, h1, h2, h3, h4, hs, hk, h5, h6, h7⟩ := h.has
  obtain rfl : begun = true := h7 rfl
  have HF := Lib.hid (show F.length ≤ c from h2)
  have RA := Lib.hid h3
  have HA := Lib.hid h4
  have HS := Lib.hid hs
  have HK := Lib.hid hk
  have H5 := Lib.hid (h5 rfl)
  have H6 := Lib.hid (fun e => (h6 e).2)
  have GA := Lib.hid h1
  have ub : (u : Int) ≤ 1000000 := by omega
  obtain ⟨x, hx⟩ : ∃ x : UInt64, x.toNat = i / 32 := ⟨UInt64.ofNat (i / 32), by simp; omega⟩
  obtain ⟨n, hn⟩ : ∃ n, n = i / 32 := ⟨_, rfl⟩
  obtain ⟨r, hr⟩ : ∃ r, r = i % 32 := ⟨_, rfl⟩
  rw [← hn, ← hr]
  rw [← hn] at hx
  have XN := Lib.hid hx
  clear hx
  have e1 : (i : Int).tdiv 32 = (n : Int) := by rw [Int.tdiv_eq_ediv_of_nonneg (by omega)]; omega
  have e2 : (i : Int).tmod 32 = (r : Int) := by rw [Int.tmod_eq_emod_of_nonneg (by omega)]; omega
  have nb : (n : Int) ≤ 1000000 := by omega
  have rb : (r : Int) < 32 := by omega
  have ib : (i : Int) ≤ 1000000 := by omega
  obtain ⟨y, hy⟩ : ∃ y, y = (blockS F n).getD r 0 := ⟨_, rfl⟩
  rw [← hy]
  have Y := Lib.hid hy
  clear hy
  have R32 := Lib.hid (show r < 32 by omega)
  have c34 := row_cell h1 34 (SrcC_u hs)
  obtain ⟨fv, hfv⟩ : ∃ fv, fv = Value.slice A F.length c := ⟨_, rfl⟩
  rw [← hfv] at GA
  have FV := Lib.hid hfv
  clear hfv h h1 h2 h3 h4 hs hk h5 h6 h7 hn hr hi hu hb
  go_enter Tryz.func108, Tryz.ntmps108
  go_upto_region 3 with fail
  obtain ⟨E, hE⟩ : ∃ E, E = w.heap.size := ⟨_, rfl⟩
  generalize hw : World.alloc w _ = w1
  have hb1 : Below w.heap.size w w1 := by rw [← hw]; exact below_new _ _
  have GE := Lib.hid (show g < E by rw [hE]; exact row_lt GA.out)
  have S := Lib.hid (show w1.heap[g]? = some (.cells (SrcC fv seed true u bk held blk) 85 (0, 0)) ∧ w1.heap[E]? = some (.cells #[.int .i64 (u : Int), .int .i64 (n : Int), .bool true] 83 (0, 0)) from
    ⟨below_block hb1 (row_lt GA.out) GA.out, by rw [← hw]; exact ha_new _ _ _ hE⟩)
  have B1 := Lib.hid hb1
  rw [← hE]
  clear hw hb1 hE c34
  have SD := Lib.hid (show w1.drew.heap[g]? = some (.cells (SrcC fv seed true u bk held blk) 85 (0, 0)) ∧ w1.drew.heap[E]? = some (.cells #[.int .i64 (u : Int), .int .i64 (n : Int), .bool true] 83 (0, 0)) from S.out)
  refine wp_region_road (fun W => W.heap[g]? = some (.cells (SrcC fv seed true u bk held blk) 85 (0, 0)) ∧ W.heap[E]? = some (.cells #[.int .i64 (u : Int), .int .i64 (n : Int), .bool true] 83 (0, 0))) [(true, 0), (true, 1), (true, 2), (true, 3), (true, 4), (true, 5)] (by kernel_rfl) (by kernel_rfl) (fun _ _ d _ _ h => by cases d <;> exact h) ?_
  simp only [List.filterMap_cons, List.filterMap_nil, List.getElem?_toArray, List.getElem?_cons_zero, List.getElem?_cons_succ, Option.map_some]
  refine planG_q (v := ?_) (by rfl) (SD.out) ?_ ?_
  rotate_left
  · intro W hW
    go_simp
    with_reducible rfl
  simp only [Act.put, List.setIfInBounds_toArray, List.set_cons_zero, List.set_cons_succ]
  refine planG_q (v := ?_) (by rfl) (SD.out) ?_ ?_
  rotate_left
  · intro W hW
    go_simp
    with_reducible rfl
  simp only [Act.put, List.setIfInBounds_toArray, List.set_cons_zero, List.set_cons_succ]
  refine planG_q (v := ?_) (by rfl) (SD.out) ?_ ?_
  rotate_left
  · intro W hW
    go_simp
    with_reducible rfl
  simp only [Act.put, List.setIfInBounds_toArray, List.set_cons_zero, List.set_cons_succ]
  refine planG_q (by rfl) (SD.out) (fun W hW => run_load_place (.tmp 18) rfl g 34 rfl u bk held (row_cell hW.1 34 (SrcC_u HS.out)) (row_cell hW.1 35 (SrcC_bk HS.out)) (row_cell hW.1 36 (SrcC_held HS.out))) ?_
  simp only [Act.put, List.setIfInBounds_toArray, List.set_cons_zero, List.set_cons_succ]
  refine planG_q (by rfl) (SD.out) (fun W hW => run_load_place (.tmp 6) rfl E 0 rfl u n true (row_cell hW.2 0 rfl) (row_cell hW.2 1 rfl) (row_cell hW.2 2 rfl)) ?_
  simp only [Act.put, List.setIfInBounds_toArray, List.set_cons_zero, List.set_cons_succ]
  refine planG_q (by rfl) (SD.out) (fun W hW => run_neq_place (.tmp 19) (.tmp 20) rfl u bk n held rfl rfl W) ?_
  simp only [Act.put, List.setIfInBounds_toArray, List.set_cons_zero, List.set_cons_succ]
  refine planG_nil ?_
  have B1 := Lib.hid (B1.out.trans (Below.refl _ _).drew)
  generalize World.drew w1 = w2 at *
  have BN := Lib.hid (show (blockS F n).length = 32 from hashL_length _)
  have GR := Lib.hid (show w.grownBy w2 (some g) from (grown_of_below B1.out).mono_none)
  clear S
  go_upto_if 21 with fail
  go_cut [0] (fun v wx => v = .pointer (some ⟨g, 0, none⟩) ∧ wx.heap[g]? = some (.cells (SrcC fv seed true u n true (blockS F n)) 85 (0, 0)) ∧ w.grownBy wx (some g))
  case first =>
    by_cases hsame : bk = n ∧ held = true
    · obtain ⟨h1, h2⟩ := hsame
      have SE := Lib.hid (show w2.heap[g]? = some (.cells (SrcC fv seed true u n true (blockS F n)) 85 (0, 0)) by
        have h3 := H6.out h2
        rw [h1] at h3
        have h4 := SD.out.1
        rw [h1, h2, h3] at h4
        exact h4)
      have hB := same_true bk n held h1 h2
      clear h1 h2
      generalize (!(decide (bk = n) && held)) = B at hB ⊢
      subst hB
      go_wp2_with fail
      go_meet
      exact ⟨rfl, SE.out, GR.out⟩
    · have hB := same_false bk n held hsame
      generalize (!(decide (bk = n) && held)) = B at hB ⊢
      subst hB
      clear hsame
      go_upto_region 4 with fail
      have SD := Lib.hid (show w2.drew.heap[g]? = some (.cells (SrcC fv seed true u bk held blk) 85 (0, 0)) ∧ w2.drew.heap[E]? = some (.cells #[.int .i64 (u : Int), .int .i64 (n : Int), .bool true] 83 (0, 0)) from SD.out)
      have GR := Lib.hid (show w.grownBy w2.drew (some g) from World.grownBy.trans GR.out (grown_drew (World.grownBy.refl _ _)))
      generalize hw3 : World.drew w2 = w3 at SD GR
      refine wp_region_road (fun _ => True) [(true, 0), (true, 1), (true, 2), (true, 3), (true, 4), (true, 5), (true, 6), (false, 7), (false, 8), (false, 9), (true, 10), (true, 11), (false, 12)] (by kernel_rfl) (by kernel_rfl) (fun _ _ d _ _ h => by cases d <;> exact h) ?_
      simp only [List.filterMap_cons, List.filterMap_nil, List.getElem?_toArray, List.getElem?_cons_zero, List.getElem?_cons_succ, Option.map_some]
      rw [hw3]
      clear hw3
      have e5 : IntKind.u64.wrap (n : Int) = (n : Int) := by rw [IntKind.wrap_u64]; omega
      refine planG_q (v := ?_) (by rfl) (trivial) ?_ ?_
      rotate_left
      · intro W hW
        go_simp
        with_reducible rfl
      simp only [Act.put, List.setIfInBounds_toArray, List.set_cons_zero, List.set_cons_succ]
      refine planG_q (v := ?_) (by rfl) (trivial) ?_ ?_
      rotate_left
      · intro W hW
        go_simp
        with_reducible rfl
      simp only [Act.put, List.setIfInBounds_toArray, List.set_cons_zero, List.set_cons_succ]
      refine planG_q (v := ?_) (by rfl) (trivial) ?_ ?_
      rotate_left
      · intro W hW
        go_simp
        with_reducible rfl
      simp only [Act.put, List.setIfInBounds_toArray, List.set_cons_zero, List.set_cons_succ]
      refine planG_q (v := ?_) (by rfl) (trivial) ?_ ?_
      rotate_left
      · intro W hW
        go_simp
        with_reducible rfl
      simp only [Act.put, List.setIfInBounds_toArray, List.set_cons_zero, List.set_cons_succ]
      refine planG_q (v := ?_) (by rfl) (trivial) ?_ ?_
      rotate_left
      · intro W hW
        go_simp
        with_reducible rfl
      simp only [Act.put, List.setIfInBounds_toArray, List.set_cons_zero, List.set_cons_succ]
      refine planG_q (v := ?_) (by rfl) (trivial) ?_ ?_
      rotate_left
      · intro W hW
        go_simp
        with_reducible rfl
      simp only [Act.put, List.setIfInBounds_toArray, List.set_cons_zero, List.set_cons_succ]
      refine planG_q (v := ?_) (by rfl) (trivial) ?_ ?_
      rotate_left
      · intro W hW
        go_simp
        with_reducible rfl
      simp only [Act.put, List.setIfInBounds_toArray, List.set_cons_zero, List.set_cons_succ]
      clear e5
      refine planG_t (by rfl) (fun K hK => ?_)
      go_simp
      refine (show Calls _ _ _ _ _ by have P := put_any w3 none 0 0 [] x 8 (by omega) rfl (RdB.nil _ _) (by omega); rw [XN.out] at P; exact P).mono ?_
      rw [show [] ++ beL (putN 8) n = beL 8 n from rfl]
      rintro e w4 ⟨v, rfl, ho, hb⟩
      obtain ⟨Av, cv, rfl, hrv, hlv, _, _⟩ := ho.read
      rw [beL_length] at hlv ⊢
      have SD := Lib.hid (show w4.heap[g]? = some (.cells (SrcC fv seed true u bk held blk) 85 (0, 0)) ∧ w4.heap[E]? = some (.cells #[.int .i64 (u : Int), .int .i64 (n : Int), .bool true] 83 (0, 0)) from ⟨below_block hb (row_lt SD.out.1) SD.out.1, below_block hb (row_lt SD.out.2) SD.out.2⟩)
      have GR := Lib.hid (World.grownBy.trans GR.out (grown_of_below hb).mono_none)
      have RV := Lib.hid hrv
      have CV := Lib.hid hlv
      clear ho hb hrv hlv
      refine hK.out _ _ (trivial) ?_
      clear hK K
      refine planG_t (by rfl) (fun K hK => ?_)
      go_simp
      generalize hB : Array.size (World.heap w4) = NB
      generalize hw : World.alloc w4 _ = w5
      obtain ⟨hrow5, hb5⟩ := built_rows hw hB
      have SD := Lib.hid (show w5.heap[g]? = some (.cells (SrcC fv seed true u bk held blk) 85 (0, 0)) ∧ w5.heap[E]? = some (.cells #[.int .i64 (u : Int), .int .i64 (n : Int), .bool true] 83 (0, 0)) from ⟨below_block hb5 (row_lt SD.out.1) SD.out.1, below_block hb5 (row_lt SD.out.2) SD.out.2⟩)
      have GR := Lib.hid (World.grownBy.trans GR.out (grown_of_below hb5).mono_none)
      have RV := Lib.hid (RV.out.keep hb5)
      have RO := Lib.hid hrow5
      clear hw hB hrow5 hb5
      refine hK.out _ _ (trivial) ?_
      clear hK K
      refine planG_t (by rfl) (fun K hK => ?_)
      go_simp
      refine (of_any w5 (some ⟨NB, 0, none⟩) 2 2 [.slice (some ⟨g, 1, none⟩) 32 32, .slice Av 8 cv] [seed, beL 8 n] rfl RO.out (.cons ⟨some ⟨g, 1, none⟩, 32, by rw [HS.out], by rw [HS.out]; exact Nat.le_refl _, fun j hj => ⟨g, 1, rfl, row_cell SD.out.1 (1 + j) (SrcC_seed j hj)⟩⟩ (.cons ⟨Av, cv, by rw [beL_length], by rw [beL_length]; exact CV.out, RV.out⟩ .nil)) (by simp [HS.out, beL_length]) (by omega)).mono ?_
      obtain ⟨L, hL⟩ : ∃ L, L = hashL [seed, beL 8 n].flatten := ⟨_, rfl⟩
      rw [← hL]
      have LE := Lib.hid (show L = blockS F n by rw [hL, blockS, H5.out]; simp)
      have LL := Lib.hid (show L.length = 32 by rw [hL, hashL_length])
      have Z := Lib.hid (show (Tryz.prog.info? 37).map (·.size) = some (W8 L).size by rw [W8_size, LL.out]; kernel_rfl)
      rintro e w6 ⟨rfl, hb⟩
      have SD := Lib.hid (show w6.heap[g]? = some (.cells (SrcC fv seed true u bk held blk) 85 (0, 0)) ∧ w6.heap[E]? = some (.cells #[.int .i64 (u : Int), .int .i64 (n : Int), .bool true] 83 (0, 0)) from ⟨below_block hb (row_lt SD.out.1) SD.out.1, below_block hb (row_lt SD.out.2) SD.out.2⟩)
      have GR := Lib.hid (World.grownBy.trans GR.out (grown_of_below hb).mono_none)
      clear hL hb
      refine hK.out _ _ (trivial) ?_
      clear hK K
      refine planG_q (v := ?_) (by rfl) (trivial) ?_ ?_
      rotate_left
      · intro W hW
        go_simp
        with_reducible rfl
      simp only [Act.put, List.setIfInBounds_toArray, List.set_cons_zero, List.set_cons_succ]
      refine planG_q (v := ?_) (by rfl) (trivial) ?_ ?_
      rotate_left
      · intro W hW
        go_simp
        with_reducible rfl
      simp only [Act.put, List.setIfInBounds_toArray, List.set_cons_zero, List.set_cons_succ]
      refine planG_t (by rfl) (fun K hK => ?_)
      refine storeM_wp 37 (.tmp 33) (.tmp 31) rfl g 37 (W8 L) rfl rfl _ _ SD.out.1 Z.out (by rw [SrcC_size HS.out HK.out, W8_size, LL.out]; decide) (W8_one _) (fun w7 hr7 hg7 _ => ?_)
      rw [SrcC_put_blk HS.out HK.out _ LL.out] at hr7
      have R7 := Lib.hid hr7
      have E7 := Lib.hid (grown_block hg7 (by have := GE.out; simp; omega) SD.out.2)
      have GR := Lib.hid (World.grownBy.trans GR.out hg7)
      clear hr7 hg7
      refine hK.out _ _ (trivial) ?_
      clear hK K
      refine planG_nil ?_
      have Z3 := Lib.hid (show (Tryz.prog.info? 83).map (·.size) = some 3 by kernel_rfl)
      have S3 := Lib.hid (show 34 + (#[.int .i64 (u : Int), .int .i64 (n : Int), .bool true] : Array Value).size ≤ (SrcC fv seed true u bk held L).size by rw [SrcC_size HS.out LL.out]; simp)
      have O3 := Lib.hid (show (#[.int .i64 (u : Int), .int .i64 (n : Int), .bool true] : Array Value).all (·.oneCell') = true by simp [Value.oneCell'])
      go_wp2_with (first
        | (refine wpList_val rfl (show (execOp _ _).run _ _ = .ok (.value (.agg #[.int .i64 (u : Int), .int .i64 (n : Int), .bool true])) _ from run_load_place (.tmp 6) rfl E 0 rfl u n true (row_cell E7.out 0 rfl) (row_cell E7.out 1 rfl) (row_cell E7.out 2 rfl)) ?_)
        | (refine storeM_list rfl 83 (.tmp 37) (.tmp 35) rfl g 34 #[.int .i64 (u : Int), .int .i64 (n : Int), .bool true] rfl rfl _ _ R7.out Z3.out S3.out O3.out ?_; intro w8 hr8 hg8 _))
      go_meet
      refine ⟨rfl, ?_, World.grownBy.trans GR.out hg8⟩
      rw [hr8, ← LE.out]
      exact congrArg (fun z => some (Obj.cells z 85 (0, 0))) (SrcC_put_at HS.out u n true)
  case rest =>
  obtain ⟨rfl, hrow, hgr⟩ := hcut
  have c := row_cell hrow (37 + r) (SrcC_blk HS.out r (by rw [BN.out]; exact R32.out))
  have ROW := Lib.hid hrow
  have HG := Lib.hid hgr
  clear hrow hgr
  rw [← Y.out] at c
  go_wp2_with fail
  go_ret
  refine ⟨rfl, ⟨A, _, seed, true, n, true, blockS F n, by rw [ROW.out, FV.out], HF.out, RA.out.grown HG.out (fun k e a ea => by cases e; exact (HA.out a ea).1), fun a ea => ⟨(HA.out a ea).1, Nat.lt_of_lt_of_le (HA.out a ea).2.1 HG.out.size, (HA.out a ea).2.2⟩, HS.out, BN.out, fun _ => H5.out, fun _ => ⟨rfl, rfl⟩, fun _ => rfl⟩, HG.out⟩
end Go.Proofs.YtlocplkjokoknaaGreat

/- draws.Source: next, Used. No condition but those each theorem states. -/
namespace Go.Proofs.YtlocplkjokoknaaGreat
set_option linter.unusedVariables false
set_option linter.unusedSimpArgs false
open Go.RowKit
attribute [local go_sem ↓] Go.wp_at_zero Go.wp_at_succ

theorem Src.u {g D : Nat} {F : List UInt8} {u : Nat} {b : Bool} {W : World} (h : Src g D F u b W) : W.cell? ⟨g, 34, none⟩ = some (.int .i64 (u : Int)) := by
  obtain ⟨A, c, seed, begun, bk, held, blk, h1, h2, h3, h4, hs, _⟩ := h.has
  exact row_cell h1 34 (SrcC_u hs)
theorem Src.free {g D : Nat} {F : List UInt8} {u : Nat} {b : Bool} {W : World} (h : Src g D F u b W) (i : Nat) : W.frozen? ⟨g, i, none⟩ = false := by
  obtain ⟨A, c, seed, begun, bk, held, blk, h1, _⟩ := h.has
  exact row_free h1 i
theorem Src.told {g D : Nat} {F : List UInt8} {u : Nat} {b : Bool} {W : World} (h : Src g D F u b W) (u2 : Nat) : Src g D F u2 b (W.setCell ⟨g, 34, none⟩ (.int .i64 (u2 : Int))) := by
  obtain ⟨A, c, seed, begun, bk, held, blk, h1, h2, h3, h4, hs, h5⟩ := h.has
  have hw : W.grownBy (W.setCell ⟨g, 34, none⟩ (.int .i64 (u2 : Int))) (some g) := grown_set (World.grownBy.refl _ _) _ _
  exact ⟨A, c, seed, begun, bk, held, blk, by rw [heap_setCell_same _ _ _ _ _ _ h1, SrcC_set_u hs], h2, h3.grown hw (fun k e a ea => by cases e; exact (h4 a ea).1), fun a e => ⟨(h4 a e).1, Nat.lt_of_lt_of_le (h4 a e).2.1 hw.size, (h4 a e).2.2⟩, hs, h5⟩
set_option maxRecDepth 100000 in
set_option maxHeartbeats 4000000 in
theorem next_any (g D : Nat) (F : List UInt8) (u : Nat) (w : World) (h : Src g D F u true w) (hb : F.length ≤ 100000) (hu : u ≤ 900000) :
    Calls Tryz.prog 93 #[.pointer (some ⟨g, 0, none⟩)] w fun e w' => e = .returned (.int .u8 ((byteS F u).toNat : Int)) ∧ Src g D F (u + 1) true w' ∧ w.grownBy w' (some g) := by
  have H := Lib.hid h
  obtain ⟨A, c, seed, begun, bk, held, blk, h1, h2, h3, _⟩ := h.has
  obtain ⟨n, hn⟩ : ∃ n, n = F.length := ⟨_, rfl⟩
  rw [← hn] at h1 h2 hb
  have NE := Lib.hid hn.symm
  have RA := Lib.hid h3
  have HB := Lib.hid hb
  have HU := Lib.hid hu
  have ub : (u : Int) ≤ 900000 := by omega
  have nb : (n : Int) ≤ 100000 := by omega
  have c0 := row_cell h1 0 SrcC_f
  have c34 := h.u
  obtain ⟨y, hy⟩ : ∃ y, y = byteS F u := ⟨_, rfl⟩
  rw [← hy]
  have Y := Lib.hid hy
  clear h h1 h2 h3 hn hb hu hy
  go_enter Tryz.func93, Tryz.ntmps93
  go_upto_if 16 with fail
  go_cut [4] (fun v wx => v = .int .u8 (y.toNat : Int) ∧ Src g D F u true wx ∧ w.grownBy wx (some g))
  case first =>
    by_cases hlt : u < n
    · have hD : decide ((u : Int) < (n : Int)) = true := by simp; omega
      have jb : (u : Int) < (n : Int) := by omega
      obtain ⟨b, o, rfl, hc⟩ := RA.out u (by rw [NE.out]; exact hlt)
      rw [show F.getD u 0 = y by rw [Y.out, byteS, if_pos (by rw [NE.out]; exact hlt)]] at hc
      go_wp2_with fail
      go_meet
      exact ⟨rfl, H.out, World.grownBy.refl _ _⟩
    · have hD : decide ((u : Int) < (n : Int)) = false := by simp; omega
      obtain ⟨i, hi⟩ : ∃ i, u = n + i := ⟨u - n, by omega⟩
      have e1 : (u : Int) - (n : Int) = (i : Int) := by omega
      have IE := Lib.hid hi
      clear hi
      go_wp2_with fail
      refine (behind_any g D F u w H.out (by rw [NE.out]; exact HB.out) (by have := HU.out; omega) i (by have := HU.out; have := IE.out; omega)).mono ?_
      rw [show (blockS F (i / 32)).getD (i % 32) 0 = y by rw [Y.out, byteS, if_neg (by rw [NE.out]; omega), blockS, NE.out, show u - n = i by have := IE.out; omega]]
      rintro e w1 ⟨rfl, hs, hg⟩
      have H1 := Lib.hid hs
      have G1 := Lib.hid hg
      clear hs hg
      go_wp2_with fail
      go_meet
      exact ⟨rfl, H1.out, G1.out⟩
  case rest =>
  obtain ⟨rfl, hs, hg⟩ := hcut
  have c34 := hs.u
  have f34 := hs.free 34
  have H1 := Lib.hid hs
  have G1 := Lib.hid hg
  clear hs hg
  go_wp2_with fail
  go_ret
  refine ⟨rfl, ?_, World.grownBy.trans G1.out (grown_set (World.grownBy.refl _ _) _ _)⟩
  exact H1.out.told (u + 1)
end Go.Proofs.YtlocplkjokoknaaGreat
