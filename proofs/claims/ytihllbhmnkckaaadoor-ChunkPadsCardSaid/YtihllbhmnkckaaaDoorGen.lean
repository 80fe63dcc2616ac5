/- Rows of values, of whatever element type of one cell: read, owned, appended to; rows of rows. No condition. -/
import Derived.Test.YtihllbhmnkckaaaDoorCuts
namespace Go.Proofs.YtihllbhmnkckaaaDoor
set_option linter.unusedVariables false
set_option linter.unusedSimpArgs false
open Go.RowKit

/-- The values stand at A. -/
def RdV (w : World) (A : Option Addr) (l : List Value) : Prop := ∀ j v, l[j]? = some v → ∃ b o, A = some ⟨b, o, none⟩ ∧ w.cell? ⟨b, o + j, none⟩ = some v
theorem RdV.grown {w w' : World} {A : Option Addr} {l : List Value} {r : Option Nat} (h : RdV w A l) (hg : w.grownBy w' r) (hne : ∀ g, r = some g → Off A g) : RdV w' A l := by
  intro j v hj
  obtain ⟨b, o, e, hc⟩ := h j v hj
  exact ⟨b, o, e, hg.cell hc (fun er => hne b er.symm _ e rfl)⟩
theorem RdV.below {w w' : World} {A : Option Addr} {l : List Value} {B : Nat} (h : RdV w A l) (hb : Below B w w') (hlt : ∀ a, A = some a → a.block < B) : RdV w' A l := by
  intro j v hj
  obtain ⟨b, o, e, hc⟩ := h j v hj
  exact ⟨b, o, e, (hb.cell (p := ⟨b, o + j, none⟩) (hlt ⟨b, o, none⟩ e)).trans hc⟩
theorem RdV.keep {w w' : World} {A : Option Addr} {l : List Value} (h : RdV w A l) (hb : Below w.heap.size w w') : RdV w' A l := by
  intro j v hj
  obtain ⟨b, o, e, hc⟩ := h j v hj
  exact ⟨b, o, e, (hb.cell (p := ⟨b, o + j, none⟩) (World.block_lt_of_cell? _ _ hc)).trans hc⟩
theorem RdV.nil (w : World) (A : Option Addr) : RdV w A [] := fun j v hj => by simp at hj
theorem RdV.row {w : World} {g : Nat} {l : List Value} {t : TypeId} {fr : Nat × Nat} (h : w.heap[g]? = some (.cells l.toArray t fr)) : RdV w (some ⟨g, 0, none⟩) l := fun j v hj =>
  ⟨g, 0, rfl, by rw [Nat.zero_add]; exact row_cell h j (by simpa using hj)⟩
theorem RdV.one {w : World} {b : Nat} {v : Value} (h : w.cell? ⟨b, 0, none⟩ = some v) : RdV w (some ⟨b, 0, none⟩) [v] := by
  intro j u hj
  obtain rfl : j = 0 := by have := (List.getElem?_eq_some_iff.1 hj).1; simp at this; omega
  obtain rfl : v = u := by simpa using hj
  exact ⟨b, 0, rfl, h⟩
theorem RdV.take {w : World} {A : Option Addr} {l : List Value} (h : RdV w A l) (m : Nat) : RdV w A (l.take m) := by
  intro j v hj
  rw [List.getElem?_take] at hj
  split at hj
  · exact h j v hj
  · cases hj
theorem RdV.some {w : World} {A : Option Addr} {l : List Value} (h : RdV w A l) (hl : 0 < l.length) : ∃ b o, A = some ⟨b, o, none⟩ := by
  obtain ⟨b, o, e, _⟩ := h 0 (l[0]) (by simp)
  exact ⟨b, o, e⟩
theorem RdB.toV {w : World} {A : Option Addr} {l : List UInt8} (h : RdB w A l) : RdV w A (B8 l) := by
  intro j v hj
  have h1 : j < l.length := by
    have := (List.getElem?_eq_some_iff.1 hj).1
    rwa [B8_length] at this
  obtain ⟨b, o, e, hc⟩ := h j h1
  rw [B8_get _ _ h1] at hj
  cases hj
  exact ⟨b, o, e, hc⟩
theorem RdV.toB {w : World} {A : Option Addr} {l : List UInt8} (h : RdV w A (B8 l)) : RdB w A l := fun j hj => h j _ (B8_get l j hj)

/-- Rows of the call's own. -/
def OwnV (w : World) (base : Nat) (e : TypeId) (v : Value) (l : List Value) : Prop := w.ownsRow base e 1 v l.length l
theorem OwnV.read {w : World} {base : Nat} {e : TypeId} {v : Value} {l : List Value} (h : OwnV w base e v l) :
    ∃ A c, v = .slice A l.length c ∧ RdV w A l ∧ l.length ≤ c ∧ c ≤ 9223372036854775807 ∧ ∀ a, A = some a → base ≤ a.block ∧ a.block < w.heap.size := by
  have h' := h
  rcases h'.2 with ⟨hv, hn⟩ | ⟨g, cap, cur, hv, hb, hh, hnc, hcm, hcs, _⟩
  · exact ⟨none, 0, by rw [hv, hn], fun j v hj => by have := (List.getElem?_eq_some_iff.1 hj).1; omega, by omega, by omega, fun a e => by cases e⟩
  · refine ⟨_, cap, hv, fun j u hj => ⟨g, 0, rfl, ?_⟩, hnc, by simpa [maxLen] using hcm, fun a e => by cases e; exact ⟨hb, row_lt hh⟩⟩
    have := h.cells (g := g) (by rw [hv]; rfl) j _ hj
    rwa [add_at] at this
theorem OwnV.nil (w : World) (base : Nat) (e : TypeId) : OwnV w base e (.slice none 0 0) [] := World.ownsRow_nil _ _ _ _
theorem OwnV.alloc {w : World} {base : Nat} {e : TypeId} {v : Value} {l : List Value} (h : OwnV w base e v l) (o : Obj) : OwnV (w.alloc o) base e v l := World.ownsRow.alloc h o
theorem OwnV.drew {w : World} {base : Nat} {e : TypeId} {v : Value} {l : List Value} (h : OwnV w base e v l) : OwnV w.drew base e v l := World.ownsRow.drew h
theorem OwnV.lt {w : World} {base : Nat} {e : TypeId} {v : Value} {l : List Value} (h : OwnV w base e v l) : ∀ k, v.ownBlock = some k → base ≤ k ∧ k < w.heap.size := World.ownsRow.lt h
theorem OwnV.grown {w w' : World} {base : Nat} {e : TypeId} {v : Value} {l : List Value} {r : Option Nat} (h : OwnV w base e v l) (hg : w.grownBy w' r) (hne : v.ownBlock = none ∨ v.ownBlock ≠ r) : OwnV w' base e v l := World.ownsRow.kept h hg hne
theorem OwnV.below {w w' : World} {base : Nat} {e : TypeId} {v : Value} {l : List Value} (h : OwnV w base e v l) (hb : Below w.heap.size w w') : OwnV w' base e v l := h.grown (grown_of_below hb) (by cases v.ownBlock <;> simp)
theorem OwnV.mono {w : World} {base base' : Nat} {e : TypeId} {v : Value} {l : List Value} (h : OwnV w base e v l) (hb : base' ≤ base) : OwnV w base' e v l := by
  refine ⟨h.1, ?_⟩
  rcases h.2 with h2 | ⟨g, cap, cur, hv, hg, r⟩
  · exact .inl h2
  · exact .inr ⟨g, cap, cur, hv, Nat.le_trans hb hg, r⟩
theorem OwnB.toV {w : World} {base : Nat} {v : Value} {l : List UInt8} (h : OwnB w base v l) : OwnV w base 5 v (B8 l) := by
  have : (B8 l).length = l.length := B8_length l
  rw [OwnV, this]
  exact h
theorem OwnV.toB {w : World} {base : Nat} {v : Value} {l : List UInt8} (h : OwnV w base 5 v (B8 l)) : OwnB w base v l := by
  have : (B8 l).length = l.length := B8_length l
  rw [OwnV, this] at h
  exact h

/-- A slice type's rows of the program's table: elements of one cell, of so many bytes. -/
structure SlT (P : Program) (t e : TypeId) (z : Value) (b : Nat) : Prop where
  ht : P.underlying t = some (.slice e)
  hinfo : (P.info? e).map (fun i => (i.zero, i.size, i.bytes)) = some (some z, 1, b)
  hz : z.cells.size = 1
/-- append(v, ys...): the run. -/
theorem run_appV {P : Program} {t e : TypeId} {z : Value} {bt : Nat} (T : SlT P t e z bt) (ty : TypeId) (W : World) (base : Nat) (v : Value) (l ys : List Value) (A : Option Addr) (m c : Nat) (hm : ys.length = m) (HO : OwnV W base e v l) (HR : RdV W A ys) (h1 : ∀ u ∈ ys, u.oneCell' = true)
    (hbase : base ≤ W.heap.size) (hl : l.length + m ≤ 9223372036854775807) (hl2 : (l.length + m) * bt ≤ 140737488355328) :
    ∃ v1 w1, (Builtin.append_ #[t, t] ty #[v, .slice A m c]).run P W = .ok v1 w1 ∧ OwnV w1 base e v1 (l ++ ys) ∧ W.grownBy w1 v.ownBlock ∧ (v1.ownBlock = v.ownBlock ∨ v1.ownBlock = some W.heap.size) := by
  obtain ⟨i0, hi, hzz⟩ := Option.map_eq_some_iff.1 T.hinfo
  simp only [Prod.mk.injEq] at hzz
  obtain ⟨hz0, hz1, hz2⟩ := hzz
  have ht := T.ht
  subst hm
  rcases ys with _ | ⟨y, r⟩
  · rcases A with _ | ad
    · refine ⟨v, W, ?_, by simpa using HO, World.grownBy.refl W _, .inl rfl⟩
      rcases HO.2 with ⟨rfl, hn⟩ | ⟨g, cap, cur, rfl, _, _, hnc, _⟩
      · simp [Builtin.append_, run_underlying ht, sizeOf, typeInfo, hi, Builtin.lenOf, Builtin.firstCells]
      · simp [Builtin.append_, run_underlying ht, sizeOf, typeInfo, hi, Builtin.lenOf, Builtin.firstCells, hnc, storeCells]
    · obtain ⟨v1, w1, hr, h2, h3, _, h5⟩ := run_append_own_at (P := P) W base t ty e i0 z 1 bt ht hi hz0 hz1 hz2 T.hz (by omega) v l.length l HO ad 0 c [] (by simp) (by simp) (by simp) (by simpa [maxLen] using hl) (by simpa using hl2) hbase
      exact ⟨v1, w1, hr, by simpa [OwnV] using h2, h3, h5⟩
  · obtain ⟨b, o, rfl, _⟩ := HR 0 y (by simp)
    obtain ⟨v1, w1, hr, h2, h3, _, h5⟩ := run_append_own_at (P := P) W base t ty e i0 z 1 bt ht hi hz0 hz1 hz2 T.hz (by omega) v l.length l HO ⟨b, o, none⟩ (y :: r).length c (y :: r) (by simp)
      (fun j u hu => by
        obtain ⟨b', o', e', hc'⟩ := HR j u hu
        injection e' with e'
        injection e' with e1 e2
        subst e1 e2
        rw [add_at, hc']) h1 (by simpa [maxLen] using hl) hl2 hbase
    refine ⟨v1, w1, hr, ?_, h3, h5⟩
    rw [OwnV, List.length_append]
    exact h2
section
variable {P : Program} {ops : Array Oper} {rest : List Oper} {o : Oper} {a : Act} {Q : Exit → Act → World → Prop} {K : Act → World → Prop} {E : Prop} {t e : TypeId} {z : Value} {bt : Nat}
theorem appV_wp (T : SlT P t e z bt) (s x : Operand) (ho : o.op = .call { callee := .builtin .append, args := #[s, x], argTypes := #[t, t] }) {W : World}
    (base : Nat) (v : Value) (l ys : List Value) (A : Option Addr) (m c : Nat) (hs : a.eval s = v) (hx : a.eval x = .slice A m c) (hm : ys.length = m) (HO : OwnV W base e v l) (HR : RdV W A ys) (h1 : ∀ u ∈ ys, u.oneCell' = true) (hbase : base ≤ W.heap.size) (hl : l.length + m ≤ 9223372036854775807) (hl2 : (l.length + m) * bt ≤ 140737488355328)
    (h : ∀ v1 w1, OwnV w1 base e v1 (l ++ ys) → W.grownBy w1 v.ownBlock → (v1.ownBlock = v.ownBlock ∨ v1.ownBlock = some W.heap.size) → K (a.put o.dst v1) w1) : o.wp P a W K Q := by
  obtain ⟨v1, w1, hr, h2, h3, h5⟩ := run_appV T o.type W base v l ys A m c hm HO HR h1 hbase hl hl2
  unfold Oper.wp execOp
  simp only [ho, resolve, invoke, builtin, Sem.run_bind, Sem.run_pure, Result.andThen_ok, List.map_toArray, List.map_cons, List.map_nil, hs, hx, hr]
  exact h v1 w1 h2 h3 h5
/-- append(v, ys...) at a list of operations. -/
theorem appV_list (hgd : o.guard = none) (T : SlT P t e z bt) (s x : Operand) (ho : o.op = .call { callee := .builtin .append, args := #[s, x], argTypes := #[t, t] }) {W : World}
    (base : Nat) (v : Value) (l ys : List Value) (A : Option Addr) (m c : Nat) (hs : a.eval s = v) (hx : a.eval x = .slice A m c) (hm : ys.length = m) (HO : OwnV W base e v l) (HR : RdV W A ys) (h1 : ∀ u ∈ ys, u.oneCell' = true) (hbase : base ≤ W.heap.size) (hl : l.length + m ≤ 9223372036854775807) (hl2 : (l.length + m) * bt ≤ 140737488355328)
    (h : ∀ v1 w1, OwnV w1 base e v1 (l ++ ys) → W.grownBy w1 v.ownBlock → (v1.ownBlock = v.ownBlock ∨ v1.ownBlock = some W.heap.size) → wpList P ops Q rest (a.put o.dst v1) w1) : wpList P ops Q (o :: rest) a W :=
  wpList_plain hgd fun _ hK => appV_wp T s x ho base v l ys A m c hs hx hm HO HR h1 hbase hl hl2 (fun v1 w1 h1 h2 h3 => hK _ _ (h v1 w1 h1 h2 h3))
/-- .. at a step of a region that draws. -/
theorem appV_step (hgd : o.guard = none) (T : SlT P t e z bt) (s x : Operand) (ho : o.op = .call { callee := .builtin .append, args := #[s, x], argTypes := #[t, t] }) {W : World}
    (base : Nat) (v : Value) (l ys : List Value) (A : Option Addr) (m c : Nat) (hs : a.eval s = v) (hx : a.eval x = .slice A m c) (hm : ys.length = m) (HO : OwnV W base e v l) (HR : RdV W A ys) (h1 : ∀ u ∈ ys, u.oneCell' = true) (hbase : base ≤ W.heap.size) (hl : l.length + m ≤ 9223372036854775807) (hl2 : (l.length + m) * bt ≤ 140737488355328)
    (h : ∀ v1 w1, OwnV w1 base e v1 (l ++ ys) → W.grownBy w1 v.ownBlock → (v1.ownBlock = v.ownBlock ∨ v1.ownBlock = some W.heap.size) → K (a.put o.dst v1) w1) : if Region.wanted o (yielded ops a.tmps) = true then Oper.wp P o a W K Q else E := by
  rw [if_pos (by simp [Region.wanted, hgd])]
  exact appV_wp T s x ho base v l ys A m c hs hx hm HO HR h1 hbase hl hl2 h
end
/-- What 'xs[m:]' tells of a row of values. -/
theorem cutV_from {P : Program} (t e : TypeId) {i : TypeInfo} (ht : P.underlying t = some (.slice e)) (hi : P.info? e = some i) (hsz : i.size = 1) (A : Option Addr) (n c m : Nat) (hm : m ≤ n) :
    ∃ A' : Option Addr, (∀ W : World, (Instr.slice t (.slice A n c) (some (.int .i64 (m : Int))) none none).run P W = .ok (.slice A' (n - m) (c - m)) W) ∧
      (∀ (w : World) (l : List Value), l.length = n → n ≤ c → RdV w A l → RdV w A' (l.drop m)) ∧ (∀ a', A' = some a' → ∃ a, A = some a ∧ a'.block = a.block) := by
  refine ⟨if c = m then A else A.map (·.add m), fun W => ?_, fun w l hl hc h => ?_, fun a' ha' => ?_⟩
  · have hel : P.elem t = e := by simp [Program.elem, ht]
    have hu : P.underlying t = some (.slice (P.elem t)) := by rw [hel]; exact ht
    rw [run_slice_l W t A n c hu .i64 (m : Int) (Int.natCast_nonneg _) (by omega), hel]
    simp [sizeOf, typeInfo, hi, hsz, sliced, Result.andThen]
  · intro j v hj
    rw [List.getElem?_drop] at hj
    obtain ⟨b, o, rfl, hcell⟩ := h (m + j) v hj
    have := (List.getElem?_eq_some_iff.1 hj).1
    rw [if_neg (by omega)]
    refine ⟨b, o + m, by simp [add_at], ?_⟩
    rw [Nat.add_assoc, hcell]
  · split at ha'
    · exact ⟨a', ha', rfl⟩
    · rcases A with _ | ⟨b, o, sp⟩
      · simp at ha'
      · simp at ha'
        subst ha'
        refine ⟨_, rfl, ?_⟩
        unfold Addr.add
        split <;> rfl

/-! ### rows of rows -/
/-- A slice that is read, in a block below the world's end that is not g. -/
def InRow (w : World) (g : Option Nat) (s : Value) (l : List Value) : Prop := ∃ A c, s = .slice A l.length c ∧ l.length ≤ c ∧ RdV w A l ∧ ∀ a, A = some a → a.block < w.heap.size ∧ some a.block ≠ g
inductive All2 {α β : Type} (R : α → β → Prop) : List α → List β → Prop
  | nil : All2 R [] []
  | cons {a b as bs} : R a b → All2 R as bs → All2 R (a :: as) (b :: bs)
theorem All2.length {α β : Type} {R : α → β → Prop} {as : List α} {bs : List β} (h : All2 R as bs) : as.length = bs.length := by
  induction h with
  | nil => rfl
  | cons _ _ ih => simp [ih]
theorem All2.mono {α β : Type} {R R' : α → β → Prop} {as : List α} {bs : List β} (h : All2 R as bs) (hr : ∀ a b, R a b → R' a b) : All2 R' as bs := by
  induction h with
  | nil => exact .nil
  | cons h1 _ ih => exact .cons (hr _ _ h1) ih
theorem All2.snoc {α β : Type} {R : α → β → Prop} {as : List α} {bs : List β} (h : All2 R as bs) {a : α} {b : β} (hab : R a b) : All2 R (as ++ [a]) (bs ++ [b]) := by
  induction h with
  | nil => exact .cons hab .nil
  | cons h1 _ ih => exact .cons h1 ih
theorem All2.get {α β : Type} {R : α → β → Prop} {as : List α} {bs : List β} (h : All2 R as bs) (j : Nat) (b : β) (hb : bs[j]? = some b) : ∃ a, as[j]? = some a ∧ R a b := by
  induction h generalizing j with
  | nil => simp at hb
  | cons h1 _ ih =>
    cases j with
    | zero => simp at hb; subst hb; exact ⟨_, rfl, h1⟩
    | succ j => simpa using ih j (by simpa using hb)
theorem InRow.grown {w w' : World} {g g' r : Option Nat} {s : Value} {l : List Value} (h : InRow w g s l) (hg : w.grownBy w' r) (hr : r = none ∨ r = g) (hg' : g' = g ∨ g' = some w.heap.size ∨ g' = none) : InRow w' g' s l := by
  obtain ⟨A, c, e, hl, hR, hb⟩ := h
  refine ⟨A, c, e, hl, hR.grown hg (fun k hk a ha => ?_), fun a ha => ⟨Nat.lt_of_lt_of_le (hb a ha).1 hg.size, ?_⟩⟩
  · rcases hr with hr | hr
    · rw [hr] at hk; cases hk
    · have := (hb a ha).2
      intro he
      apply this
      rw [he, ← hk, hr]
  · rcases hg' with h | h | h
    · rw [h]; exact (hb a ha).2
    · rw [h]; intro he; injection he with he; have := (hb a ha).1; omega
    · rw [h]; simp
end Go.Proofs.YtihllbhmnkckaaaDoor
