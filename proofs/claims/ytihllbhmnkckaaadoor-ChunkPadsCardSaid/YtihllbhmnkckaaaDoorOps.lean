/- Single operations, one by one, each with what it yields. No condition but those each theorem states. -/
import Derived.Test.YtihllbhmnkckaaaDoorCuts
import Derived.Laws.CopyOwn
import Derived.Deep.MidRow
import Derived.ArgAppend
namespace Go.Proofs.YtihllbhmnkckaaaDoor
set_option linter.unusedVariables false
set_option linter.unusedSimpArgs false
open Go.RowKit
theorem _root_.Go.World.grownBy.mono_none {w w' : World} {r : Option Nat} (h : w.grownBy w' none) : w.grownBy w' r := ⟨h.os, h.tape, h.output, h.size, fun k hk _ => h.block k hk (by simp)⟩
section
variable {P : Program} {ops : Array Oper} {rest : List Oper} {o : Oper} {a : Act} {Q : Exit → Act → World → Prop} {W : World}
/-- An operation that yields a value where it stands. -/
theorem wpList_val {v : Value} (hg : o.guard = none) (hy : (execOp a.eval o).run P W = .ok (.value v) W) (h : wpList P ops Q rest (a.put o.dst v) W) : wpList P ops Q (o :: rest) a W :=
  wpList_plain hg fun K hK => by
    unfold Oper.wp
    rw [hy]
    exact hK _ _ h
/-- .. whose guard says yes. -/
theorem wpList_valg {v : Value} (hw : Region.wanted o (yielded ops a.tmps) = true) (hy : (execOp a.eval o).run P W = .ok (.value v) W) (h : wpList P ops Q rest (a.put o.dst v) W) : wpList P ops Q (o :: rest) a W := by
  unfold wpList
  rw [if_pos hw]
  refine .inl ?_
  unfold Oper.wp
  rw [hy]
  exact h
theorem wpList_skipg (hw : Region.wanted o (yielded ops a.tmps) = false) (h : wpList P ops Q rest (a.put o.dst undef) W) : wpList P ops Q (o :: rest) a W := by
  unfold wpList
  rw [if_neg (by rw [hw]; simp)]
  exact h
/-- An operation that is carried out, whatever it does. -/
theorem wpList_op (hg : o.guard = none) (h : ∀ K : Act → World → Prop, Hid (∀ a w, wpList P ops Q rest a w → K a w) → o.wp P a W K Q) : wpList P ops Q (o :: rest) a W :=
  wpList_plain hg fun K hK => h K hK
theorem run_ptr_fromz (t : TypeId) (x l : Operand) (ho : o.op = .slice t x (some l) none none) (n e : Nat) (ht : P.underlying t = some (.array n e)) {i : TypeInfo} (hi : P.info? e = some i) (hsz : i.size = 1) (k : IntKind) (g off lo : Nat) (h3 : lo < n) (z : Int) (hz : z = (lo : Int))
    (hx : a.eval x = .pointer (some ⟨g, off, none⟩)) (hl : a.eval l = .int k z) (W : World) : (execOp a.eval o).run P W = .ok (.value (.slice (some ⟨g, off + lo, none⟩) (n - lo) (n - lo))) W :=
  run_ptr_from t x l ho n e ht hi hsz k g off lo h3 hx (by rw [hl, hz]) W
theorem setCells_heap (g : Nat) (t : TypeId) : ∀ (vs : List Value) (o : Nat) (w : World) (cur : Array Value), w.heap[g]? = some (.cells cur t (0, 0)) → o + vs.length ≤ cur.size →
    (w.setCells g o vs).heap[g]? = some (.cells (cur.toList.take o ++ (vs ++ cur.toList.drop (o + vs.length))).toArray t (0, 0))
  | [], o, w, cur, h, _ => by simpa [World.setCells] using h
  | v :: r, o, w, cur, h, hl => by
    simp only [List.length_cons] at hl
    rw [World.setCells]
    have h1 := setCells_heap g t r (o + 1) (w.setCell ⟨g, o, none⟩ v) (cur.setIfInBounds o v) (heap_setCell_same w g o cur t v h) (by simp; omega)
    rw [h1]
    congr 3
    have ho : o < cur.toList.length := by simp; omega
    have hx : (cur.setIfInBounds o v).toList = cur.toList.set o v := by simp
    have e1 : (cur.toList.set o v).take (o + 1) = cur.toList.take o ++ [v] := by
      rw [List.take_add_one, List.getElem?_set_self ho, List.take_set_of_le (Nat.le_refl _)]; rfl
    have e2 : (cur.toList.set o v).drop (o + 1 + r.length) = cur.toList.drop (o + (v :: r).length) := by
      rw [List.drop_set_of_lt (by omega)]
      simp [Nat.add_assoc, Nat.add_comm 1]
    rw [hx, e1, e2]
    simp
theorem setCells_grown (g : Nat) : ∀ (vs : List Value) (o : Nat) (w : World), w.grownBy (w.setCells g o vs) (some g)
  | [], _, w => World.grownBy.refl _ _
  | v :: r, o, w => by
    rw [World.setCells]
    exact World.grownBy.trans (grown_set (World.grownBy.refl _ _) _ _) (setCells_grown g r (o + 1) _)
theorem setCells_size (g : Nat) : ∀ (vs : List Value) (o : Nat) (w : World), (w.setCells g o vs).heap.size = w.heap.size
  | [], _, w => rfl
  | v :: r, o, w => by
    rw [World.setCells, setCells_size g r]
    simp [World.setCell]
/-- A row into a place of a block that is known whole. -/
theorem storeM_wp {K : Act → World → Prop} (ty : TypeId) (x y : Operand) (ho : o.op = .store ty x y) (g off : Nat) (cells : Array Value) (hx : a.eval x = .pointer (some ⟨g, off, none⟩)) (hy : a.eval y = .agg cells)
    (cur : Array Value) (t : TypeId) (hg : W.heap[g]? = some (.cells cur t (0, 0))) (hi : (P.info? ty).map (·.size) = some cells.size) (hl : off + cells.size ≤ cur.size) (h1 : cells.all (·.oneCell') = true)
    (h : ∀ w', w'.heap[g]? = some (.cells (cur.toList.take off ++ (cells.toList ++ cur.toList.drop (off + cells.size))).toArray t (0, 0)) → W.grownBy w' (some g) → w'.heap.size = W.heap.size → K (a.put o.dst undef) w') : o.wp P a W K Q :=
  wp_store_mid ty x y ho g off cells hx hy (fun j hj => ⟨by
      have : (cur[off + j]?).isSome = true := by simp; omega
      obtain ⟨v, hv⟩ := Option.isSome_iff_exists.1 this
      rw [row_cell hg (off + j) hv]; rfl, row_free hg _⟩) hi h1
    (h _ (by have := setCells_heap g t cells.toList off W cur hg (by simpa using hl); simpa using this) (setCells_grown g _ _ _) (setCells_size g _ _ _))
/-- .. at a list of operations. -/
theorem storeM_list (hgd : o.guard = none) (ty : TypeId) (x y : Operand) (ho : o.op = .store ty x y) (g off : Nat) (cells : Array Value) (hx : a.eval x = .pointer (some ⟨g, off, none⟩)) (hy : a.eval y = .agg cells)
    (cur : Array Value) (t : TypeId) (hg : W.heap[g]? = some (.cells cur t (0, 0))) (hi : (P.info? ty).map (·.size) = some cells.size) (hl : off + cells.size ≤ cur.size) (h1 : cells.all (·.oneCell') = true)
    (h : ∀ w', w'.heap[g]? = some (.cells (cur.toList.take off ++ (cells.toList ++ cur.toList.drop (off + cells.size))).toArray t (0, 0)) → W.grownBy w' (some g) → w'.heap.size = W.heap.size → wpList P ops Q rest (a.put o.dst undef) w') : wpList P ops Q (o :: rest) a W :=
  wpList_plain hgd fun _ hK => storeM_wp ty x y ho g off cells hx hy cur t hg hi hl h1 (fun w' h1 h2 h3 => hK _ _ (h w' h1 h2 h3))
/-- 'xs[:m:m]'. -/
theorem cut_max {P : Program} (t e : TypeId) {i : TypeInfo} (ht : P.underlying t = some (.slice e)) (hi : P.info? e = some i) (hsz : i.size = 1) (A : Option Addr) (n c m : Nat) (hm : m ≤ c) (W : World) :
    (Instr.slice t (.slice A n c) none (some (.int .i64 (m : Int))) (some (.int .i64 (m : Int)))).run P W = .ok (.slice A m m) W := by
  have hel : P.elem t = e := by simp [Program.elem, ht]
  have hu : P.underlying t = some (.slice (P.elem t)) := by rw [hel]; exact ht
  rw [run_slice_hm W t A n c hu .i64 .i64 (m : Int) (m : Int) (Int.natCast_nonneg _) (Int.le_refl _) (by omega), hel]
  simp only [sizeOf, typeInfo, hi, hsz, sliced, Result.andThen]
  rcases A with _ | ⟨b, o, sp⟩
  · simp [Sem.run_pure, hi, hsz, Result.andThen]
  · simp [Sem.run_pure, hi, hsz, Result.andThen, Addr.add]
    try (cases sp <;> simp)
/-- A slice as an array of its first cells. -/
theorem run_sl2arr (t : TypeId) (x : Operand) (ho : o.op = .sliceToArrayPointer t x) (n e : Nat) (ht : P.underlying t = some (.array n e)) (A : Option Addr) (len c : Nat) (hx : a.eval x = .slice A len c) (hle : n ≤ len) (W : World) : (execOp a.eval o).run P W = .ok (.value (.pointer A)) W := by
  have h1 : ¬ len < n := by omega
  unfold execOp
  simp only [ho, hx, Instr.arrayAt, Sem.run_bind, Sem.run_pure, run_underlying ht, Result.andThen_ok]
  simp [h1]
/-- append(s, ys...) where s has no room: a new row. -/
theorem appg_list (hgd : o.guard = none) (T : ByteT P) (s x : Operand) (ho : o.op = .call { callee := .builtin .append, args := #[s, x], argTypes := #[22, 22] }) {W : World}
    (A : Option Addr) (n c : Nat) (l ys : List UInt8) (Ax : Addr) (m cx : Nat) (hs : a.eval s = .slice A n c) (hx : a.eval x = .slice (some Ax) m cx) (hn : l.length = n) (hm : ys.length = m) (hnone : A = none → n = 0 ∧ c = 0) (HS : RdB W A l) (HR : RdB W (some Ax) ys) (hfull : c < n + m) (hl : n + m ≤ 140737488355328)
    (h : ∀ v1 w1, OwnB w1 W.heap.size v1 (l ++ ys) → W.grownBy w1 none → wpList P ops Q rest (a.put o.dst v1) w1) : wpList P ops Q (o :: rest) a W := by
  obtain ⟨i0, hi, hzz⟩ := Option.map_eq_some_iff.1 T.hinfo
  simp only [Prod.mk.injEq] at hzz
  obtain ⟨hz0, hz1, hz2⟩ := hzz
  have rd : ∀ (ad : Addr) (l : List UInt8), RdB W (some ad) l → ∀ j u, (B8 l)[j]? = some u → W.cell? (ad.add j) = some u := by
    intro ad l hl j u hu
    have hj : j < l.length := by
      have := (List.getElem?_eq_some_iff.1 hu).1
      rwa [B8_length] at this
    obtain ⟨b', o', e', hc'⟩ := hl j hj
    injection e' with e'
    subst e'
    rw [add_at, hc', ← B8_get _ j hj, hu]
  refine wpList_append_grows W hgd s x 22 ho 5 i0 (.int .u8 0) 1 1 T.ht hi hz0 hz1 hz2 rfl (by omega) A n c (B8 l) hs hnone (by rw [B8_length, hn, Nat.mul_one]) (fun b eb => rd b l (eb ▸ HS)) Ax m cx (B8 ys) hx (by rw [B8_length, hm, Nat.mul_one]) (rd Ax ys HR) (B8_one _) hfull (by unfold maxLen; omega) (by omega) ?_
  intro v' w' ho' hg'
  refine h v' w' ?_ hg'
  rw [OwnB, List.length_append, hn, hm, B8_append]
  exact ho'
/-- copy(dst, src) of bytes into a place of a block that is known whole. -/
theorem copyB_wp {K : Act → World → Prop} (T : ByteT P) (d s : Operand) (ho : o.op = .call { callee := .builtin .copy, args := #[d, s], argTypes := #[22, 22] })
    (g off dLen dCap : Nat) (A : Option Addr) (sLen sCap : Nat) (hd : a.eval d = .slice (some ⟨g, off, none⟩) dLen dCap) (hs : a.eval s = .slice A sLen sCap) (cur : Array Value) (t : TypeId) (hg : W.heap[g]? = some (.cells cur t (0, 0)))
    (src : List UInt8) (hl : src.length = sLen) (hR : RdB W A src) (h0 : 0 < sLen) (m : Nat) (hm : m = Nat.min sLen dLen) (hfit : off + m ≤ cur.size)
    (h : ∀ w', w'.heap[g]? = some (.cells (cur.toList.take off ++ (B8 (src.take m) ++ cur.toList.drop (off + m))).toArray t (0, 0)) → W.grownBy w' (some g) → w'.heap.size = W.heap.size → K (a.put o.dst (.int .i64 (m : Int))) w') : o.wp P a W K Q := by
  obtain ⟨b, o', rfl, _⟩ := hR 0 (by omega)
  have hms : m ≤ sLen := by rw [hm]; exact Nat.min_le_left _ _
  have hcl : (B8 (src.take m)).length = m := by rw [B8_length, List.length_take]; omega
  have hsz : (P.info? 5).map (·.size) = some 1 := by
    have := T.hinfo
    revert this
    cases P.info? 5 <;> simp <;> intros <;> assumption
  have hrun := run_copy_row (P := P) W 22 22 o.type 5 g off dLen dCap ⟨b, o', none⟩ sLen sCap cur t (B8 (src.take m)) T.ht hsz hg (by rw [hcl, hm]) (by
      intro j u hu
      have hj : j < m := by
        have := (List.getElem?_eq_some_iff.1 hu).1
        rwa [hcl] at this
      obtain ⟨b', o'', e', hc'⟩ := hR j (by omega)
      injection e' with e'
      injection e' with e1 e2
      subst e1 e2
      rw [B8_get _ j (by rw [List.length_take]; omega)] at hu
      rw [add_at, hc', ← hu, List.getD_eq_getElem?_getD, List.getD_eq_getElem?_getD, List.getElem?_take, if_pos hj]) (by rw [hcl]; exact hfit) (B8_one _)
  unfold Oper.wp execOp
  simp only [ho, resolve, invoke, builtin, Sem.run_bind, Sem.run_pure, Result.andThen_ok, List.map_toArray, List.map_cons, List.map_nil, hd, hs, hrun]
  rw [hcl]
  have e : (cur.toList.take off ++ B8 (src.take m) ++ cur.toList.drop (off + m)).toArray = (cur.toList.take off ++ (B8 (src.take m) ++ cur.toList.drop (off + m))).toArray := by rw [List.append_assoc]
  rw [e]
  exact h _ (setRow_heap W g _ _ t _ hg) ⟨rfl, rfl, rfl, by simp, fun k hk hne => setRow_other W g k _ (fun e => hne (by rw [e]))⟩ (by simp)
/-- A list that is filled from its beginning on. -/
def partB (L : List UInt8) (j : Nat) : List UInt8 := L.take j ++ List.replicate (L.length - j) 0
theorem partB_length (L : List UInt8) (j : Nat) : (partB L j).length = L.length := by simp [partB]; omega
theorem partB_zero (L : List UInt8) : partB L 0 = List.replicate L.length 0 := by simp [partB]
theorem partB_full (L : List UInt8) : partB L L.length = L := by simp [partB]
theorem partB_set (L : List UInt8) (j : Nat) (h : j < L.length) : (partB L j).set j (L.getD j 0) = partB L (j + 1) := by
  apply List.ext_getElem
  · simp [partB_length]
  · intro i h1 h2
    rw [partB_length] at h2
    simp only [partB, List.getElem_set, List.getElem_append, List.length_take, List.getElem_take, List.getElem_replicate]
    by_cases e : j = i
    · subst e
      rw [if_pos rfl, dif_pos (by omega)]
      simp [List.getD_eq_getElem?_getD, h]
    · rw [if_neg e]
      by_cases h3 : i < j
      · rw [dif_pos (by omega), dif_pos (by omega)]
      · rw [dif_neg (by omega), dif_neg (by omega)]
theorem _root_.Go.Proofs.YtihllbhmnkckaaaDoor.RdB.lt {w : World} {A : Option Addr} {l : List UInt8} (h : RdB w A l) (h0 : l ≠ []) : ∀ a, A = some a → a.block < w.heap.size := by
  intro a ea
  obtain ⟨b, o, e, hc⟩ := h 0 (List.length_pos_iff.2 h0)
  rw [e] at ea
  cases ea
  exact World.block_lt_of_cell? _ _ hc
/-- What is read stands below the world's end: whatever is made above it leaves it. -/
theorem _root_.Go.Proofs.YtihllbhmnkckaaaDoor.RdB.keep {w w' : World} {A : Option Addr} {l : List UInt8} (h : RdB w A l) (hb : Below w.heap.size w w') : RdB w' A l := by
  by_cases h0 : l = []
  · subst h0; exact RdB.nil _ _
  · exact h.below hb (h.lt h0)
theorem _root_.Go.Proofs.YtihllbhmnkckaaaDoor.RdB.grow {w w' : World} {A : Option Addr} {l : List UInt8} {g : Nat} (h : RdB w A l) (hg : w.grownBy w' (some g)) (hne : l ≠ [] → ∀ a, A = some a → a.block ≠ g) : RdB w' A l := by
  by_cases h0 : l = []
  · subst h0; exact RdB.nil _ _
  · exact h.grown hg (fun g' e a ea => by cases e; exact hne h0 a ea)
/-- A slice of bytes that is read. -/
def SlB (w : World) (v : Value) (l : List UInt8) : Prop := ∃ A c, v = .slice A l.length c ∧ l.length ≤ c ∧ RdB w A l
theorem SlB.keep {w w' : World} {v : Value} {l : List UInt8} (h : SlB w v l) (hb : Below w.heap.size w w') : SlB w' v l := by
  obtain ⟨A, c, e, hc, hR⟩ := h
  exact ⟨A, c, e, hc, hR.keep hb⟩
theorem SlB.nil (w : World) : SlB w (.slice none 0 0) [] := ⟨none, 0, rfl, Nat.le_refl _, RdB.nil _ _⟩
end
end Go.Proofs.YtihllbhmnkckaaaDoor
