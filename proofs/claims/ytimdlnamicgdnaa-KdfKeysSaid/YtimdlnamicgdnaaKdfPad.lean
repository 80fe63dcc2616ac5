/- kdf.pad: a key of a block, laid over with a byte. No condition but those each theorem states. -/
import Derived.Test.YtimdlnamicgdnaaShaOf
import Derived.Laws.IdiomCopy
namespace Go.Proofs.Ytimdlnamicgdnaa
set_option linter.unusedVariables false
set_option linter.unusedSimpArgs false
open Go.RowKit
attribute [local go_sem ↓] Go.wp_at_zero Go.wp_at_succ

/-- A key of a block. -/
def padK (key : List UInt8) : List UInt8 := key ++ List.replicate (64 - key.length) 0
theorem padK_length (key : List UInt8) (h : key.length ≤ 64) : (padK key).length = 64 := by simp [padK]; omega
/-- Bytes laid over with one. -/
def xorL (x : UInt8) (l : List UInt8) : List UInt8 := l.map (· ^^^ x)
theorem xorL_length (x : UInt8) (l : List UInt8) : (xorL x l).length = l.length := by simp [xorL]
def xpart (x : UInt8) (l : List UInt8) (j : Nat) : List UInt8 := xorL x (l.take j) ++ l.drop j
theorem xpart_length (x : UInt8) (l : List UInt8) (j : Nat) (h : j ≤ l.length) : (xpart x l j).length = l.length := by simp [xpart, xorL]; omega
theorem xpart_zero (x : UInt8) (l : List UInt8) : xpart x l 0 = l := by simp [xpart, xorL]
theorem xpart_full (x : UInt8) (l : List UInt8) : xpart x l l.length = xorL x l := by simp [xpart]
theorem xpart_get (x : UInt8) (l : List UInt8) (j : Nat) (h : j < l.length) : (xpart x l j).getD j 0 = l.getD j 0 := by
  have e : (xorL x (l.take j)).length = j := by simp [xorL]; omega
  simp [xpart, List.getD_eq_getElem?_getD, List.getElem?_append, e]
theorem xpart_set (x : UInt8) (l : List UInt8) (j : Nat) (h : j < l.length) : (xpart x l j).set j (l.getD j 0 ^^^ x) = xpart x l (j + 1) := by
  apply List.ext_getElem
  · rw [List.length_set, xpart_length _ _ _ (by omega), xpart_length _ _ _ (by omega)]
  · intro i h1 h2
    rw [List.length_set, xpart_length _ _ _ (by omega)] at h1
    have e1 : (xorL x (l.take j)).length = j := by simp [xorL]; omega
    have e2 : (xorL x (l.take (j + 1))).length = j + 1 := by simp [xorL]; omega
    simp only [xpart, List.getElem_set, List.getElem_append, e1, e2]
    by_cases e : j = i
    · subst e
      rw [if_pos rfl, dif_pos (by omega)]
      simp [xorL, List.getD_eq_getElem?_getD, h]
    · rw [if_neg e]
      by_cases h3 : i < j
      · rw [dif_pos h3, dif_pos (by omega)]
        simp [xorL]
      · rw [dif_neg h3, dif_neg (by omega)]
        simp
        congr 1
        omega
theorem kxor_ex (a b : UInt8) : ∃ z : UInt8, Hid (z = a ^^^ b) ∧ bits .xor .u8 (a.toNat : Int) (b.toNat : Int) = (z.toNat : Int) := ⟨_, rfl, u8_xor' a b⟩
/-- copy(dst, src) of bytes into a place of a block that is known whole, also of none. -/
theorem copyA_wp {P : Program} {o : Oper} {a : Act} {Q : Exit → Act → World → Prop} {W : World} {K : Act → World → Prop} (T : ByteT P) (d s : Operand) (ho : o.op = .call { callee := .builtin .copy, args := #[d, s], argTypes := #[22, 22] })
    (g off dLen dCap : Nat) (A : Option Addr) (sLen sCap : Nat) (hd : a.eval d = .slice (some ⟨g, off, none⟩) dLen dCap) (hs : a.eval s = .slice A sLen sCap) (cur : Array Value) (t : TypeId) (hg : W.heap[g]? = some (.cells cur t (0, 0)))
    (src : List UInt8) (hl : src.length = sLen) (hR : RdB W A src) (m : Nat) (hm : m = Nat.min sLen dLen) (hfit : off + m ≤ cur.size)
    (h : ∀ w', w'.heap[g]? = some (.cells (cur.toList.take off ++ (B8 (src.take m) ++ cur.toList.drop (off + m))).toArray t (0, 0)) → W.grownBy w' (some g) → w'.heap.size = W.heap.size → K (a.put o.dst (.int .i64 (m : Int))) w') : o.wp P a W K Q := by
  by_cases h0 : 0 < sLen
  · exact copyB_wp T d s ho g off dLen dCap A sLen sCap hd hs cur t hg src hl hR h0 m hm hfit h
  · have hm0 : m = 0 := by rw [hm]; have : sLen = 0 := by omega
                           rw [this]; exact Nat.min_eq_left (Nat.zero_le _)
    have hsz : (P.info? 5).map (·.size) = some 1 := by
      have := T.hinfo
      revert this
      cases P.info? 5 <;> simp <;> intros <;> assumption
    have hrun := run_copy_none (P := P) W 22 22 o.type 5 (some ⟨g, off, none⟩) A dLen dCap sLen sCap T.ht hsz (by rw [← hm, hm0])
    unfold Oper.wp execOp
    simp only [ho, resolve, invoke, builtin, Sem.run_bind, Sem.run_pure, Result.andThen_ok, List.map_toArray, List.map_cons, List.map_nil, hd, hs, hrun]
    have := h W (by rw [hg, hm0]; simp [B8]) (World.grownBy.refl _ _) rfl
    rw [hm0] at this
    exact this
/-- A whole row into a block that is known whole. -/
theorem wp_store_whole {P : Program} {o : Oper} {a : Act} {Q : Exit → Act → World → Prop} {w : World} {K : Act → World → Prop} (ty : TypeId) (x y : Operand) (ho : o.op = .store ty x y)
    (g : Nat) (cells : Array Value) (hx : a.eval x = .pointer (some ⟨g, 0, none⟩)) (hy : a.eval y = .agg cells)
    (t : TypeId) (old : Array Value) (hg : w.heap[g]? = some (.cells old t (0, 0))) (hi : (P.info? ty).map (·.size) = some cells.size)
    (hold : old.size = cells.size) (h1 : cells.all (·.oneCell') = true)
    (h : ∀ w', w'.heap[g]? = some (.cells cells t (0, 0)) → w.grownBy w' (some g) → w'.heap.size = w.heap.size → K (a.put o.dst undef) w') : o.wp P a w K Q :=
  wp_store_row ty x y ho g cells hx hy t old hg hi hold h1
    (h _ (setRow_heap w g _ _ t _ hg) ⟨rfl, rfl, rfl, by simp, fun k hk hne => setRow_other w g k cells (fun e => hne (by rw [e]))⟩ (by simp))
def Z64 : List UInt8 := List.replicate 64 0
theorem zero64 : W8 Z64 = #[.int .u8 0, .int .u8 0, .int .u8 0, .int .u8 0, .int .u8 0, .int .u8 0, .int .u8 0, .int .u8 0, .int .u8 0, .int .u8 0, .int .u8 0, .int .u8 0, .int .u8 0, .int .u8 0, .int .u8 0, .int .u8 0, .int .u8 0, .int .u8 0, .int .u8 0, .int .u8 0, .int .u8 0, .int .u8 0, .int .u8 0, .int .u8 0, .int .u8 0, .int .u8 0, .int .u8 0, .int .u8 0, .int .u8 0, .int .u8 0, .int .u8 0, .int .u8 0, .int .u8 0, .int .u8 0, .int .u8 0, .int .u8 0, .int .u8 0, .int .u8 0, .int .u8 0, .int .u8 0, .int .u8 0, .int .u8 0, .int .u8 0, .int .u8 0, .int .u8 0, .int .u8 0, .int .u8 0, .int .u8 0, .int .u8 0, .int .u8 0, .int .u8 0, .int .u8 0, .int .u8 0, .int .u8 0, .int .u8 0, .int .u8 0, .int .u8 0, .int .u8 0, .int .u8 0, .int .u8 0, .int .u8 0, .int .u8 0, .int .u8 0, .int .u8 0] := rfl
theorem pad_laid (key : List UInt8) (h : key.length ≤ 64) : ((W8 Z64).toList.take 0 ++ (B8 (key.take key.length) ++ (W8 Z64).toList.drop (0 + key.length))).toArray = W8 (padK key) := by
  have e : W8 Z64 = (List.replicate 64 (Value.int .u8 0)).toArray := by simp only [W8, Z64, List.map_replicate]; rfl
  rw [e]
  simp only [List.take_zero, List.nil_append, Nat.zero_add, List.drop_replicate, List.take_length, W8, padK, B8, List.map_append, List.map_replicate]
  rfl
set_option maxRecDepth 100000 in
set_option maxHeartbeats 2000000 in
theorem pad_any (w : World) (A : Option Addr) (n c : Nat) (key : List UInt8) (hn : key.length = n) (h64 : n ≤ 64) (hR : RdB w A key) (x : UInt8) :
    Calls Try.prog 21 #[.slice A n c, .int .u8 (x.toNat : Int)] w fun e w' => ∃ g, e = .returned (.slice (some ⟨g, 0, none⟩) 64 64) ∧ w.heap.size ≤ g ∧ w'.heap[g]? = some (.cells (W8 (xorL x (padK key))) 57 (0, 0)) ∧ Below w.heap.size w w' := by
  have HN := Lib.hid hn
  have HR := Lib.hid hR
  have H64 := Lib.hid h64
  have Z := Lib.hid zero64
  have TB := Lib.hid (show ByteT Try.prog from ⟨Try.underlying22, by kernel_rfl⟩)
  obtain ⟨i0, hi, hz0, hz1, hz2⟩ := info_parts (show (Try.prog.info? 5).map (fun i => (i.zero, i.size, i.bytes)) = some (some (.int .u8 0), 1, 1) by kernel_rfl)
  have I0 := Lib.hid hi
  clear hn hR h64 hi hz0 hz1 hz2
  obtain ⟨p, hp⟩ : ∃ p, p = padK key := ⟨_, rfl⟩
  have PE := Lib.hid hp
  have PL := Lib.hid (show p.length = 64 by rw [hp]; exact padK_length _ (by rw [HN.out]; exact H64.out))
  rw [← hp]
  clear hp
  go_enter Try.func21, Try.ntmps21
  go_upto_region 2 with fail
  rw [← Z.out]
  obtain ⟨g, hg⟩ : ∃ g, g = w.heap.size := ⟨_, rfl⟩
  obtain ⟨w1, hw1⟩ : ∃ w1, w1 = w.alloc (.cells (W8 Z64) 57) := ⟨_, rfl⟩
  have G1 := Lib.hid (show w1.heap[g]? = some (.cells (W8 Z64) 57 (0, 0)) by rw [hw1]; exact ha_new _ _ _ hg)
  have B1 := Lib.hid (show Below w.heap.size w w1 by rw [hw1]; exact (Below.refl _ _).alloc (Nat.le_refl _) _)
  have GE := Lib.hid (show w.heap.size ≤ g by omega)
  rw [← hw1, ← hg]
  clear hw1 hg
  refine wp_region_list ?_
  simp only [List.toList_toArray]
  refine wpList_val (by rfl) (run_arr_all 57 (.tmp 5) rfl 64 5 Try.underlying57 I0.out g rfl _) ?_
  simp only [Act.put, List.setIfInBounds_toArray, List.set_cons_zero, List.set_cons_succ]
  refine wpList_val (v := ?_) (by rfl) ?_ ?_
  rotate_left
  · go_simp
    with_reducible rfl
  simp only [Act.put, List.setIfInBounds_toArray, List.set_cons_zero, List.set_cons_succ]
  refine wpList_op (by rfl) (fun K hK => ?_)
  refine copyA_wp TB.out (.tmp 7) (.tmp 8) rfl g 0 64 64 A n c rfl rfl (W8 Z64) _ G1.out key HN.out (HR.out.keep B1.out) n (by show n = min n 64; have := H64.out; omega) (by rw [W8_size]; have := H64.out; simp [Z64]; omega) ?_
  rw [show n = key.length from HN.out.symm, pad_laid key (by rw [HN.out]; exact H64.out), ← PE.out, HN.out]
  intro w2 hg2 hgr2 _
  have G2 := Lib.hid hg2
  have B2 := Lib.hid (B1.out.trans (grown_below hgr2 B1.out.size (by rintro k ⟨⟩; exact GE.out)))
  clear hg2 hgr2 G1 B1
  refine hK.out _ _ ?_
  clear hK K
  simp only [Act.put, List.setIfInBounds_toArray, List.set_cons_zero, List.set_cons_succ]
  go_wp2_with fail
  go_loopw [10] (fun i wr => ∃ j : Nat, j ≤ 64 ∧ i = .int .i64 (j : Int) ∧ wr.heap[g]? = some (.cells (W8 (xpart x p j)) 57 (0, 0)) ∧ Below w.heap.size w wr) (fun i _ => 64 - (intOf i).toNat)
  case atStart => exact ⟨0, by omega, rfl, by rw [xpart_zero]; exact G2.out, B2.out⟩
  case round =>
    obtain ⟨j, hj, rfl, hb, hbel⟩ := hrel
    have G3 := Lib.hid hb
    have B3 := Lib.hid hbel
    have J := Lib.hid hj
    clear hj hb hbel G2 B2
    by_cases hlt : j < 64
    · have hD : decide ((j : Int) < 64) = true := by simp; omega
      have a1 := row_cell G3.out j (W8_get _ j (by rw [xpart_length _ _ _ (by rw [PL.out]; omega), PL.out]; exact hlt))
      have f1 := row_free G3.out j
      rw [xpart_get _ _ _ (by rw [PL.out]; exact hlt)] at a1
      obtain ⟨y, hy⟩ : ∃ y, y = p.getD j 0 := ⟨_, rfl⟩
      rw [← hy] at a1
      have Y := Lib.hid hy
      obtain ⟨z, hz, e1⟩ := kxor_ex y x
      have b1 : (j : Int) < 64 := by omega
      clear hy
      go_wp2_with fail
      go_roundw
      case rel =>
        refine ⟨j + 1, by omega, by go_num, ?_, B3.out.trans (grown_below (grown_set (World.grownBy.refl _ (some g)) _ _) B3.out.size (by rintro k ⟨⟩; exact GE.out))⟩
        rw [heap_setCell_same _ _ _ _ _ _ G3.out, W8_set, hz.out, Y.out, xpart_set _ _ _ (by rw [PL.out]; exact hlt)]
      case measure => simp [intOf]; omega
    · have hj : Hid (j = 64) := show j = 64 by have := J.out; omega
      have hD : decide ((j : Int) < 64) = false := by simp; omega
      go_wp2_with (refine wpList_val rfl (run_arr_all 57 (.tmp 5) rfl 64 5 Try.underlying57 I0.out g rfl _) ?_)
      go_ret
      refine ⟨g, rfl, GE.out, ?_, B3.out⟩
      have := G3.out
      rw [hj.out, ← PL.out, xpart_full] at this
      exact this
end Go.Proofs.Ytimdlnamicgdnaa
