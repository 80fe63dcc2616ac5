/- The law ChachaLays, walked. -/
import Derived.Test.YtmdalhndmmobdaaChOne
import Derived.Test.YtmdalhndmmobdaaGroup
import Derived.Test.YtmdalhndmmobdaaCuts
import Derived.Test.YtmdalhndmmobdaaStreamLaws
import Derived.Test.YtmdalhndmmobdaaMake
namespace Go.Proofs.Ytmdalhndmmobdaa
set_option linter.unusedVariables false
set_option linter.unusedSimpArgs false
open Go.RowKit
attribute [local go_sem ↓] Go.wp_at_zero Go.wp_at_succ

def zerosL (n : Nat) : List UInt8 := List.replicate n 0
theorem zerosL_length (n : Nat) : (zerosL n).length = n := by simp [zerosL]
theorem zerosL_getD (m i : Nat) : (zerosL m).getD i 0 = 0 := by
  unfold zerosL
  rw [List.getD_eq_getElem?_getD]
  by_cases h : i < m
  · rw [List.getElem?_eq_getElem (by simpa using h)]; simp
  · rw [List.getElem?_eq_none (by simp; omega)]; rfl
/-- The bytes of a text of zeros are the blocks'. -/
theorem stream_zeros (k n : List UInt8) (count : UInt32) : (streamL k n count (zerosL 150)).take 64 = blockL k n count ∧ ((streamL k n count (zerosL 150)).drop 64).take 64 = blockL k n (count + 1) ∧ (streamL k n count (zerosL 150)).drop 128 = (blockL k n (count + 2)).take 22 := by
  have hz : ∀ i, (zerosL 150).getD i 0 = 0 := fun i => zerosL_getD 150 i
  have hs : ∀ i, i < 150 → (streamL k n count (zerosL 150))[i]? = some (keyByte k n count i) := fun i hi => by
    rw [streamL_get _ _ _ _ _ (by rw [zerosL_length]; exact hi), hz, UInt8.zero_xor]
  have hb : ∀ c i, i < 64 → (blockL k n c)[i]? = some ((blockL k n c).getD i 0) := fun c i hi => by
    rw [List.getD_eq_getElem?_getD, List.getElem?_eq_getElem (by rw [blockL_length]; exact hi)]; rfl
  have hl : (streamL k n count (zerosL 150)).length = 150 := by rw [streamL_length, zerosL_length]
  refine ⟨?_, ?_, ?_⟩
  · apply List.ext_getElem?
    intro i
    by_cases h : i < 64
    · rw [List.getElem?_take, if_pos h, hs i (by omega), hb _ i h, keyByte, show i / 64 = 0 by omega, show i % 64 = i by omega]
      simp
    · rw [List.getElem?_eq_none (by rw [List.length_take, hl]; omega), List.getElem?_eq_none (by rw [blockL_length]; omega)]
  · apply List.ext_getElem?
    intro i
    by_cases h : i < 64
    · rw [List.getElem?_take, if_pos h, List.getElem?_drop, hs (64 + i) (by omega), hb _ i h, keyByte, show (64 + i) / 64 = 1 by omega, show (64 + i) % 64 = i by omega]
      simp
    · rw [List.getElem?_eq_none (by rw [List.length_take, List.length_drop, hl]; omega), List.getElem?_eq_none (by rw [blockL_length]; omega)]
  · apply List.ext_getElem?
    intro i
    by_cases h : i < 22
    · rw [List.getElem?_drop, hs (128 + i) (by omega), List.getElem?_take, if_pos h, hb _ i (by omega), keyByte, show (128 + i) / 64 = 2 by omega, show (128 + i) % 64 = i by omega]
      simp
    · rw [List.getElem?_eq_none (by rw [List.length_drop, hl]; omega), List.getElem?_eq_none (by rw [List.length_take, blockL_length]; omega)]

/-- What stays as it is while the law is asked. -/
structure LsW (w : World) (k n : List UInt8) (A : Option Addr) (x : List UInt8) (W : World) : Prop where
  s : StrW w k n W
  r1 : RdB W A x
  b1 : ∀ a, A = some a → a.block < W.heap.size
theorem LsW.below {w W W' : World} {k n x : List UInt8} {A : Option Addr} (h : LsW w k n A x W) (hb : Below W.heap.size W W') : LsW w k n A x W' where
  s := h.s.below hb
  r1 := h.r1.below hb h.b1
  b1 := fun a e => Nat.lt_of_lt_of_le (h.b1 a e) hb.size

theorem cnt_1 (count : UInt32) : IntKind.u32.wrap ((count.toNat : Int) + 1) = ((count + 1).toNat : Int) := by rw [IntKind.wrap_u32, UInt32.toNat_add]; simp
theorem cnt_2 (count : UInt32) : IntKind.u32.wrap ((count.toNat : Int) + 2) = ((count + 2).toNat : Int) := by rw [IntKind.wrap_u32, UInt32.toNat_add]; simp
/-- What is known while the three blocks are made, in whatever order with their variables. -/
structure LaysInv (B : Nat) (w : World) (k n : List UInt8) (A : Option Addr) (x b0 b1 b2 : List UInt8) (R : List Nat) (vals : Nat → Value) (W : World) : Prop where
  base : LsW w k n A x W
  big : B ≤ W.heap.size
  v0 : 3 ∉ R → vals 3 = .agg (W8 b0)
  v1 : 8 ∉ R → vals 8 = .agg (W8 b1)
  v2 : 13 ∉ R → vals 13 = .agg (W8 b2)
  ptr : ∀ i, i = 14 ∨ i = 15 ∨ i = 16 → i ∉ R → ∃ g, vals i = .pointer (some ⟨g, 0, none⟩) ∧ B ≤ g ∧ W.heap[g]? = some (.cells (W8 (zerosL 64)) 27 (0, 0))
  ne : ∀ i j, (i = 14 ∨ i = 15 ∨ i = 16) → (j = 14 ∨ j = 15 ∨ j = 16) → i ≠ j → i ∉ R → j ∉ R → vals i ≠ vals j
/-- Behind a call. -/
theorem LaysInv.call {B : Nat} {w : World} {k n : List UInt8} {A : Option Addr} {x b0 b1 b2 : List UInt8} {R : List Nat} {vals : Nat → Value} {W W' : World} (h : LaysInv B w k n A x b0 b1 b2 R vals W) (hb : Below W.heap.size W W') (i : Nat) (v : Value)
    (h3 : i = 3 → v = .agg (W8 b0)) (h8 : i = 8 → v = .agg (W8 b1)) (h13 : i = 13 → v = .agg (W8 b2)) (hne : i ≠ 14 ∧ i ≠ 15 ∧ i ≠ 16) : LaysInv B w k n A x b0 b1 b2 (R.erase i) (upd vals i v) W' where
  base := h.base.below hb
  big := Nat.le_trans h.big hb.size
  v0 := fun hn => by
    unfold upd
    split
    · rename_i e; exact h3 e.symm
    · rename_i e; exact h.v0 ((erase_not hn).resolve_left e)
  v1 := fun hn => by
    unfold upd
    split
    · rename_i e; exact h8 e.symm
    · rename_i e; exact h.v1 ((erase_not hn).resolve_left e)
  v2 := fun hn => by
    unfold upd
    split
    · rename_i e; exact h13 e.symm
    · rename_i e; exact h.v2 ((erase_not hn).resolve_left e)
  ptr := fun j hj hn => by
    have e : j ≠ i := by omega
    obtain ⟨g, h1, h2, h4⟩ := h.ptr j hj ((erase_not hn).resolve_left e)
    exact ⟨g, by unfold upd; rw [if_neg e]; exact h1, h2, below_block hb (row_lt h4) h4⟩
  ne := fun j l hj hl hjl hnj hnl => by
    have e1 : j ≠ i := by omega
    have e2 : l ≠ i := by omega
    unfold upd
    rw [if_neg e1, if_neg e2]
    exact h.ne j l hj hl hjl ((erase_not hnj).resolve_left e1) ((erase_not hnl).resolve_left e2)
/-- Behind an allocation. -/
theorem LaysInv.made {B : Nat} {w : World} {k n : List UInt8} {A : Option Addr} {x b0 b1 b2 : List UInt8} {R : List Nat} {vals : Nat → Value} {W : World} (h : LaysInv B w k n A x b0 b1 b2 R vals W) (i : Nat) (hi : i = 14 ∨ i = 15 ∨ i = 16) :
    LaysInv B w k n A x b0 b1 b2 (R.erase i) (upd vals i (.pointer (some ⟨W.heap.size, 0, none⟩))) (W.alloc (.cells (W8 (zerosL 64)) 27)) := by
  have hb : Below W.heap.size W (W.alloc (.cells (W8 (zerosL 64)) 27)) := (Below.refl _ _).alloc (Nat.le_refl _) _
  have fresh : ∀ j, (j = 14 ∨ j = 15 ∨ j = 16) → j ∉ R → vals j ≠ .pointer (some ⟨W.heap.size, 0, none⟩) := fun j hj hn e => by
    obtain ⟨g, h1, h2, h4⟩ := h.ptr j hj hn
    rw [h1] at e
    have := row_lt h4
    injection e with e
    injection e with e
    injection e with e
    omega
  constructor
  · exact h.base.below hb
  · exact Nat.le_trans h.big hb.size
  · intro hn
    have e : (3 : Nat) ≠ i := by omega
    unfold upd; rw [if_neg e]
    exact h.v0 ((erase_not hn).resolve_left e)
  · intro hn
    have e : (8 : Nat) ≠ i := by omega
    unfold upd; rw [if_neg e]
    exact h.v1 ((erase_not hn).resolve_left e)
  · intro hn
    have e : (13 : Nat) ≠ i := by omega
    unfold upd; rw [if_neg e]
    exact h.v2 ((erase_not hn).resolve_left e)
  · intro j hj hn
    by_cases e : j = i
    · subst e
      exact ⟨W.heap.size, by simp [upd], h.big, ha_new _ _ _ rfl⟩
    · obtain ⟨g, h1, h2, h4⟩ := h.ptr j hj ((erase_not hn).resolve_left e)
      exact ⟨g, by unfold upd; rw [if_neg e]; exact h1, h2, below_block hb (row_lt h4) h4⟩
  · intro j l hj hl hjl hnj hnl
    unfold upd
    by_cases e1 : j = i
    · have e2 : l ≠ i := by omega
      rw [if_pos e1, if_neg e2]
      exact fun e => fresh l hl ((erase_not hnl).resolve_left e2) e.symm
    · rw [if_neg e1]
      by_cases e2 : l = i
      · rw [if_pos e2]
        exact fresh j hj ((erase_not hnj).resolve_left e1)
      · rw [if_neg e2]
        exact h.ne j l hj hl hjl ((erase_not hnj).resolve_left e1) ((erase_not hnl).resolve_left e2)

set_option maxRecDepth 100000 in
set_option maxHeartbeats 4000000 in
theorem chachaLays_walk (w : World) (k : List UInt8) (hk : k.length = 32) (n : List UInt8) (hn : n.length = 12) (count : UInt32) :
    Calls Try.prog 6 #[.agg (W8 k), .agg (W8 n), .int .u32 (count.toNat : Int)] w fun e w' => e = .returned (.bool true) ∧ Below w.heap.size w w' := by
  have HK := Lib.hid hk
  have HN := Lib.hid hn
  obtain ⟨i0, hi, hz0, hz1, hz2⟩ := info_parts (show (Try.prog.info? 5).map (fun i => (i.zero, i.size, i.bytes)) = some (some (.int .u8 0), 1, 1) by kernel_rfl)
  have I0 := Lib.hid hi
  have I2 := Lib.hid hz1
  clear hi hz0 hz1 hz2
  have ZK := Lib.hid (show (Try.prog.info? 23).map (·.size) = some (W8 k).size by rw [W8_size, HK.out]; kernel_rfl)
  have ZN := Lib.hid (show (Try.prog.info? 25).map (·.size) = some (W8 n).size by rw [W8_size, HN.out]; kernel_rfl)
  have hmk := make_run 150 (by omega)
  change ∀ W : World, (Instr.makeSlice 30 (.int .i64 150) (.int .i64 150)).run Try.prog W = .ok (.slice (some ⟨W.heap.size, 0, none⟩) 150 150) (W.alloc (.cells (W8 (zerosL 150)) 5)) at hmk
  have MK := Lib.hid hmk
  clear hk hn hmk
  go_enter Try.func6, Try.ntmps6
  go_upto_region 1 with fail
  refine wp_abs (fun W => StrW w k n W) (str_start w k n) ?_
  intro w2 H2'
  have H2 := Lib.hid (H2'.below (Below.refl _ _).drew)
  have H2b := Lib.hid H2'
  clear H2'
  refine wp_region_plan (StrW w k n) [0, 1, 2] [3, 4, 5] (by kernel_rfl) (by kernel_rfl) (fun _ _ d _ _ h => by cases d <;> exact h) (H2.out) ?_
  simp only [List.filterMap_cons, List.filterMap_nil, List.getElem?_toArray, List.getElem?_cons_zero, List.getElem?_cons_succ]
  refine planQ_cons (by rfl) (fun W hW => run_load_row 23 (.tmp 3) rfl w.heap.size rfl 23 (W8 k) (0, 0) _ hW.bk Try.underlying23 rfl ZK.out) ?_
  simp only [Act.put, List.setIfInBounds_toArray, List.set_cons_zero, List.set_cons_succ]
  refine planQ_cons (by rfl) (fun W hW => run_load_row 25 (.tmp 4) rfl (w.heap.size + 1) rfl 25 (W8 n) (0, 0) _ hW.bn Try.underlying25 rfl ZN.out) ?_
  simp only [Act.put, List.setIfInBounds_toArray, List.set_cons_zero, List.set_cons_succ]
  refine planQ_cons (v := ?_) (by rfl) ?_ ?_
  rotate_left
  · intro W hW
    go_simp
    with_reducible rfl
  simp only [Act.put, List.setIfInBounds_toArray, List.set_cons_zero, List.set_cons_succ]
  refine planQ_nil ?_
  have hmk := MK.out
  refine planT_cons (by rfl) (fun K hK => ?_)
  go_simp
  clear hmk
  obtain ⟨M, hM⟩ : ∃ M, M = w2.heap.size := ⟨_, rfl⟩
  rw [← hM]
  have A3 : Hid (StrW w k n (w2.alloc (.cells (W8 (zerosL 150)) 5)).drew ∧ RdB (w2.alloc (.cells (W8 (zerosL 150)) 5)).drew (some ⟨M, 0, none⟩) (zerosL 150) ∧ M < (w2.alloc (.cells (W8 (zerosL 150)) 5)).drew.heap.size) :=
    ⟨H2b.out.below (((Below.refl _ w2).alloc (Nat.le_refl _) _).drew), RdB.row (t := 5) (fr := (0, 0)) (ha_new w2 _ _ hM), by show _ < (w2.alloc _).heap.size; rw [ha_size]; omega⟩
  obtain ⟨w3, hw3⟩ : ∃ w3, w3 = (w2.alloc (.cells (W8 (zerosL 150)) 5)).drew := ⟨_, rfl⟩
  rw [← hw3] at A3 ⊢
  clear hw3 hM
  refine hK.out _ _ (A3.out.1) ?_
  clear hK K
  refine planT_cons (by rfl) (fun K hK => ?_)
  go_simp
  refine (stream_read k n HK.out HN.out count _ (some ⟨M, 0, none⟩) 150 150 (zerosL 150) (zerosL_length _) A3.out.2.1 (by omega) (by omega) (fun a e => by cases e; exact A3.out.2.2)).mono ?_
  rintro e w4 ⟨A4, c4, rfl, hr4, hl4, hb4, hbel⟩
  obtain ⟨x, hx⟩ : ∃ x, x = streamL k n count (zerosL 150) := ⟨_, rfl⟩
  obtain ⟨z0, z1, z2⟩ := stream_zeros k n count
  rw [← hx] at hr4 z0 z1 z2
  have XL := Lib.hid (show x.length = 150 by rw [hx, streamL_length, zerosL_length])
  have Z0 := Lib.hid z0
  have Z1 := Lib.hid z1
  have Z2 := Lib.hid z2
  have L4 := Lib.hid hl4
  have H4 := Lib.hid (show LsW w k n A4 x w4 from ⟨A3.out.1.below hbel, hr4, fun a e => (hb4 a e).2⟩)
  clear hr4 hl4 hb4 hbel z0 z1 z2 hx A3 MK
  refine hK.out _ _ (H4.out.s) ?_
  clear hK K
  refine planT_val (v := ?_) (by rfl) (H4.out.s) ?_ ?_
  rotate_left
  · go_simp
    with_reducible rfl
  simp only [Act.put, List.setIfInBounds_toArray, List.set_cons_zero, List.set_cons_succ]
  refine planT_nil ?_
  go_upto_region 2 with fail
  have H5 := Lib.hid (show LsW w k n A4 x w4.drew from H4.out.below (Below.refl _ _).drew)
  obtain ⟨b0, hb0⟩ : ∃ b, b = blockL k n count := ⟨_, rfl⟩
  obtain ⟨b1, hb1⟩ : ∃ b, b = blockL k n (count + 1) := ⟨_, rfl⟩
  obtain ⟨b2, hb2⟩ : ∃ b, b = blockL k n (count + 2) := ⟨_, rfl⟩
  have B0 := Lib.hid hb0
  have B1 := Lib.hid hb1
  have B2 := Lib.hid hb2
  clear hb0 hb1 hb2
  refine wp_region_group (LsW w k n A4 x) [0, 1, 2, 4, 5, 6, 7, 9, 10, 11, 12] [3, 8, 13, 14, 15, 16] [(false, 17), (false, 18), (false, 19)] (by kernel_rfl) (by kernel_rfl) (fun _ _ d _ _ h => by cases d <;> exact h) H5.out ?_
  simp only [List.filterMap_cons, List.filterMap_nil, List.getElem?_toArray, List.getElem?_cons_zero, List.getElem?_cons_succ]
  refine planQ_cons (by rfl) (fun W hW => run_load_row 23 (.tmp 3) rfl w.heap.size rfl 23 (W8 k) (0, 0) _ hW.s.bk Try.underlying23 rfl ZK.out) ?_
  simp only [Act.put, List.setIfInBounds_toArray, List.set_cons_zero, List.set_cons_succ]
  refine planQ_cons (by rfl) (fun W hW => run_load_row 25 (.tmp 4) rfl (w.heap.size + 1) rfl 25 (W8 n) (0, 0) _ hW.s.bn Try.underlying25 rfl ZN.out) ?_
  simp only [Act.put, List.setIfInBounds_toArray, List.set_cons_zero, List.set_cons_succ]
  refine planQ_cons (v := ?_) (by rfl) ?_ ?_
  rotate_left
  · intro W hW
    go_simp
    with_reducible rfl
  simp only [Act.put, List.setIfInBounds_toArray, List.set_cons_zero, List.set_cons_succ]
  refine planQ_cons (by rfl) (fun W hW => run_load_row 23 (.tmp 3) rfl w.heap.size rfl 23 (W8 k) (0, 0) _ hW.s.bk Try.underlying23 rfl ZK.out) ?_
  simp only [Act.put, List.setIfInBounds_toArray, List.set_cons_zero, List.set_cons_succ]
  refine planQ_cons (by rfl) (fun W hW => run_load_row 25 (.tmp 4) rfl (w.heap.size + 1) rfl 25 (W8 n) (0, 0) _ hW.s.bn Try.underlying25 rfl ZN.out) ?_
  simp only [Act.put, List.setIfInBounds_toArray, List.set_cons_zero, List.set_cons_succ]
  refine planQ_cons (v := ?_) (by rfl) ?_ ?_
  rotate_left
  · intro W hW
    go_simp
    with_reducible rfl
  simp only [Act.put, List.setIfInBounds_toArray, List.set_cons_zero, List.set_cons_succ]
  refine planQ_cons (v := ?_) (by rfl) ?_ ?_
  rotate_left
  · intro W hW
    go_simp
    with_reducible rfl
  simp only [Act.put, List.setIfInBounds_toArray, List.set_cons_zero, List.set_cons_succ]
  refine planQ_cons (by rfl) (fun W hW => run_load_row 23 (.tmp 3) rfl w.heap.size rfl 23 (W8 k) (0, 0) _ hW.s.bk Try.underlying23 rfl ZK.out) ?_
  simp only [Act.put, List.setIfInBounds_toArray, List.set_cons_zero, List.set_cons_succ]
  refine planQ_cons (by rfl) (fun W hW => run_load_row 25 (.tmp 4) rfl (w.heap.size + 1) rfl 25 (W8 n) (0, 0) _ hW.s.bn Try.underlying25 rfl ZN.out) ?_
  simp only [Act.put, List.setIfInBounds_toArray, List.set_cons_zero, List.set_cons_succ]
  refine planQ_cons (v := ?_) (by rfl) ?_ ?_
  rotate_left
  · intro W hW
    go_simp
    with_reducible rfl
  simp only [Act.put, List.setIfInBounds_toArray, List.set_cons_zero, List.set_cons_succ]
  refine planQ_cons (v := ?_) (by rfl) ?_ ?_
  rotate_left
  · intro W hW
    go_simp
    with_reducible rfl
  simp only [Act.put, List.setIfInBounds_toArray, List.set_cons_zero, List.set_cons_succ]
  refine planQ_nil ?_
  refine ⟨fun f => { tmps := #[.agg (W8 k), .agg (W8 n), .int .u32 (count.toNat : Int), .pointer (some ⟨w.heap.size, 0, none⟩), .pointer (some ⟨w.heap.size + 1, 0, none⟩), undef, .bool false, .slice A4 150 c4, f 14, f 15, f 16, .agg (W8 k), .agg (W8 n), .int .u32 (count.toNat : Int), .slice (some ⟨M, 0, none⟩) 150 150, .slice A4 150 c4, .agg (W8 k), .agg (W8 n), .int .u32 (count.toNat : Int), f 3, .agg (W8 k), .agg (W8 n), .int .u32 (count.toNat : Int), .int .u32 (IntKind.u32.wrap ((count.toNat : Int) + 1)), f 8, .agg (W8 k), .agg (W8 n), .int .u32 (count.toNat : Int), .int .u32 (IntKind.u32.wrap ((count.toNat : Int) + 2)), f 13, undef, undef, undef, undef, undef, undef, undef, undef, undef, undef, undef, undef, undef, undef, undef, undef, undef, undef, undef, undef, undef, undef, undef, undef, undef, undef, undef, undef, undef, undef], defers := [] }, LaysInv w4.heap.size w k n A4 x b0 b1 b2, fun _ => undef, rfl, ⟨H5.out, Nat.le_refl _, by simp, by simp, by simp, by simp, by intro i j hi hj _ hn; rcases hi with rfl | rfl | rfl <;> simp at hn⟩, ?_, ?_⟩
  · intro R vals W i o ho hi hR hinv
    have hi6 := hR i hi
    have HI := Lib.hid hinv
    clear hinv
    simp only [List.mem_cons, List.mem_nil_iff, or_false] at hi6
    rcases hi6 with rfl | rfl | rfl | rfl | rfl | rfl
    all_goals (simp only [List.getElem?_toArray, List.getElem?_cons_zero, List.getElem?_cons_succ, Option.some.injEq] at ho; subst ho)
    · go_simp
      refine (block_any k n HK.out HN.out count W).mono ?_
      rintro e w' ⟨rfl, hb⟩
      refine ⟨.agg (W8 (blockL k n count)), ⟨by simp [upd], by simp [upd], by simp [upd], by simp [upd], by simp [upd], by simp [upd]⟩, HI.out.base.below hb, HI.out.call hb 3 _ (fun h => by first | omega | rw [B0.out]) (fun h => by first | omega | rw [B1.out]) (fun h => by first | omega | rw [B2.out]) (by omega)⟩
    · go_simp
      rw [cnt_1 count]
      refine (block_any k n HK.out HN.out (count + 1) W).mono ?_
      rintro e w' ⟨rfl, hb⟩
      refine ⟨.agg (W8 (blockL k n (count + 1))), ⟨by simp [upd], by simp [upd], by simp [upd], by simp [upd], by simp [upd], by simp [upd]⟩, HI.out.base.below hb, HI.out.call hb 8 _ (fun h => by first | omega | rw [B0.out]) (fun h => by first | omega | rw [B1.out]) (fun h => by first | omega | rw [B2.out]) (by omega)⟩
    · go_simp
      rw [cnt_2 count]
      refine (block_any k n HK.out HN.out (count + 2) W).mono ?_
      rintro e w' ⟨rfl, hb⟩
      refine ⟨.agg (W8 (blockL k n (count + 2))), ⟨by simp [upd], by simp [upd], by simp [upd], by simp [upd], by simp [upd], by simp [upd]⟩, HI.out.base.below hb, HI.out.call hb 13 _ (fun h => by first | omega | rw [B0.out]) (fun h => by first | omega | rw [B1.out]) (fun h => by first | omega | rw [B2.out]) (by omega)⟩
    · go_simp
      exact ⟨.pointer (some ⟨W.heap.size, 0, none⟩), ⟨by simp [upd], by simp [upd], by simp [upd], by simp [upd], by simp [upd], by simp [upd]⟩, HI.out.base.below ((Below.refl _ _).alloc (Nat.le_refl _) _), HI.out.made 14 (by omega)⟩
    · go_simp
      exact ⟨.pointer (some ⟨W.heap.size, 0, none⟩), ⟨by simp [upd], by simp [upd], by simp [upd], by simp [upd], by simp [upd], by simp [upd]⟩, HI.out.base.below ((Below.refl _ _).alloc (Nat.le_refl _) _), HI.out.made 15 (by omega)⟩
    · go_simp
      exact ⟨.pointer (some ⟨W.heap.size, 0, none⟩), ⟨by simp [upd], by simp [upd], by simp [upd], by simp [upd], by simp [upd], by simp [upd]⟩, HI.out.base.below ((Below.refl _ _).alloc (Nat.le_refl _) _), HI.out.made 16 (by omega)⟩
  · intro vals W hinv
    have HI := Lib.hid hinv
    obtain ⟨g0, p0, l0, q0⟩ := hinv.ptr 14 (by omega) (by simp)
    obtain ⟨g1, p1, l1, q1⟩ := hinv.ptr 15 (by omega) (by simp)
    obtain ⟨g2, p2, l2, q2⟩ := hinv.ptr 16 (by omega) (by simp)
    have n01 : g0 ≠ g1 := fun e => hinv.ne 14 15 (by omega) (by omega) (by omega) (by simp) (by simp) (by rw [p0, p1, e])
    have n02 : g0 ≠ g2 := fun e => hinv.ne 14 16 (by omega) (by omega) (by omega) (by simp) (by simp) (by rw [p0, p2, e])
    have n12 : g1 ≠ g2 := fun e => hinv.ne 15 16 (by omega) (by omega) (by omega) (by simp) (by simp) (by rw [p1, p2, e])
    have e0 := hinv.v0 (by simp)
    have e1 := hinv.v1 (by simp)
    have e2 := hinv.v2 (by simp)
    have T5 := Lib.hid hinv.base
    simp only [p0, p1, p2, e0, e1, e2]
    have G0 := Lib.hid q0
    have G1 := Lib.hid q1
    have G2 := Lib.hid q2
    have N01 := Lib.hid n01
    have N02 := Lib.hid n02
    have N12 := Lib.hid n12
    have L0 := Lib.hid l0
    have L1 := Lib.hid l1
    have L2 := Lib.hid l2
    clear hinv HI p0 p1 p2 e0 e1 e2 q0 q1 q2 n01 n02 n12 l0 l1 l2
    have LB0 := Lib.hid (show b0.length = 64 by rw [B0.out, blockL_length])
    have LB1 := Lib.hid (show b1.length = 64 by rw [B1.out, blockL_length])
    have LB2 := Lib.hid (show b2.length = 64 by rw [B2.out, blockL_length])
    have Y0 := Lib.hid (show (Try.prog.info? 27).map (·.size) = some (W8 b0).size by rw [W8_size, LB0.out]; kernel_rfl)
    have Y1 := Lib.hid (show (Try.prog.info? 27).map (·.size) = some (W8 b1).size by rw [W8_size, LB1.out]; kernel_rfl)
    have Y2 := Lib.hid (show (Try.prog.info? 27).map (·.size) = some (W8 b2).size by rw [W8_size, LB2.out]; kernel_rfl)
    have keep := Lib.hid (show ∀ (g : Nat) (W W' : World), w4.heap.size ≤ g → LsW w k n A4 x W → W.grownBy W' (some g) → LsW w k n A4 x W' from fun g W W' hg h hgr =>
      ⟨h.s.grown hgr (fun g' e => by have := H4.out.s.size; cases e; omega), h.r1.grown hgr (fun g' e a ea => by have := H4.out.b1 a ea; cases e; omega), fun a e => Nat.lt_of_lt_of_le (h.b1 a e) hgr.size⟩)
    simp only [List.filterMap_cons, List.filterMap_nil, List.getElem?_toArray, List.getElem?_cons_zero, List.getElem?_cons_succ, Option.map_some]
    have st : Hid (∀ (g : Nat) (W : World) (b : List UInt8), W.heap[g]? = some (.cells (W8 (zerosL 64)) 27 (0, 0)) → (W.setRow g (W8 b)).heap[g]? = some (.cells (W8 b) 27 (0, 0)) ∧ W.grownBy (W.setRow g (W8 b)) (some g)) :=
      fun g W b hg => ⟨setRow_heap W g _ _ _ _ hg, ⟨rfl, rfl, rfl, by simp, fun k hk hne => setRow_other W g k _ (fun e => hne (by rw [e]))⟩⟩
    refine planG_t (by rfl) (fun K hK => ?_)
    refine wp_store_row 27 (.tmp 8) (.tmp 19) rfl g0 (W8 b0) rfl rfl 27 (W8 (zerosL 64)) G0.out Y0.out (by rw [W8_size, W8_size, LB0.out]; rfl) (W8_one _) ?_
    obtain ⟨hg, hgr⟩ := st.out g0 W b0 G0.out
    obtain ⟨W1, hW1⟩ : ∃ W1, W1 = W.setRow g0 (W8 b0) := ⟨_, rfl⟩
    rw [← hW1] at hg hgr ⊢
    have F0 := Lib.hid hg
    have F1 := Lib.hid (grown_block hgr (by have := N01.out; simp; omega) G1.out)
    have F2 := Lib.hid (grown_block hgr (by have := N02.out; simp; omega) G2.out)
    have T6 := Lib.hid (keep.out g0 W W1 L0.out T5.out hgr)
    clear hg hgr hW1 G0 G1 G2 T5
    refine hK.out _ _ (T6.out) ?_
    clear hK K
    simp only [Act.put]
    refine planG_t (by rfl) (fun K hK => ?_)
    refine wp_store_row 27 (.tmp 9) (.tmp 24) rfl g1 (W8 b1) rfl rfl 27 (W8 (zerosL 64)) F1.out Y1.out (by rw [W8_size, W8_size, LB1.out]; rfl) (W8_one _) ?_
    obtain ⟨hg, hgr⟩ := st.out g1 W1 b1 F1.out
    obtain ⟨W2, hW2⟩ : ∃ W2, W2 = W1.setRow g1 (W8 b1) := ⟨_, rfl⟩
    rw [← hW2] at hg hgr ⊢
    have D1 := Lib.hid hg
    have D0 := Lib.hid (grown_block hgr (by have := N01.out; simp; omega) F0.out)
    have D2 := Lib.hid (grown_block hgr (by have := N12.out; simp; omega) F2.out)
    have T7 := Lib.hid (keep.out g1 W1 W2 L1.out T6.out hgr)
    clear hg hgr hW2 F0 F1 F2 T6
    refine hK.out _ _ (T7.out) ?_
    clear hK K
    simp only [Act.put]
    refine planG_t (by rfl) (fun K hK => ?_)
    refine wp_store_row 27 (.tmp 10) (.tmp 29) rfl g2 (W8 b2) rfl rfl 27 (W8 (zerosL 64)) D2.out Y2.out (by rw [W8_size, W8_size, LB2.out]; rfl) (W8_one _) ?_
    obtain ⟨hg, hgr⟩ := st.out g2 W2 b2 D2.out
    obtain ⟨W3, hW3⟩ : ∃ W3, W3 = W2.setRow g2 (W8 b2) := ⟨_, rfl⟩
    rw [← hW3] at hg hgr ⊢
    have E2 := Lib.hid hg
    have E0 := Lib.hid (grown_block hgr (by have := N02.out; simp; omega) D0.out)
    have E1 := Lib.hid (grown_block hgr (by have := N12.out; simp; omega) D1.out)
    have T8 := Lib.hid (keep.out g2 W2 W3 L2.out T7.out hgr)
    clear hg hgr hW3 D0 D1 D2 T7
    refine hK.out _ _ (T8.out) ?_
    clear hK K
    simp only [Act.put]
    refine planG_nil ?_
    clear keep st Y0 Y1 Y2 N01 N02 N12 L0 L1 L2 H4 H5 H2 H2b
    go_upto_region 3 with fail
    obtain ⟨A5, hX5, hR5, _⟩ := cut_mid (P := Try.prog) 30 5 Try.underlying30 I0.out I2.out A4 150 c4 64 128 (by omega) (by omega) L4.out
    obtain ⟨A6, hX6, hR6, _⟩ := cut_from (P := Try.prog) 30 5 Try.underlying30 I0.out I2.out A4 150 c4 128 (by omega)
    have X5 := Lib.hid hX5
    have X6 := Lib.hid hX6
    have R5 := Lib.hid (fun W (h : RdB W A4 x) => (show RdB W A5 b1 by have := hR5 W x XL.out h; rw [Z1.out, ← B1.out] at this; exact this))
    have R6 := Lib.hid (fun W (h : RdB W A4 x) => (show RdB W A6 (b2.take 22) by have := hR6 W x XL.out L4.out h; rw [Z2.out, ← B2.out] at this; exact this))
    have R4 := Lib.hid (fun W (h : RdB W A4 x) => (show RdB W A4 b0 by have := h.take 64; rw [Z0.out, ← B0.out] at this; exact this))
    clear hX5 hX6 hR5 hR6
    have T9 := Lib.hid (show LsW w k n A4 x W3.drew ∧ W3.drew.heap[g0]? = some (.cells (W8 b0) 27 (0, 0)) ∧ W3.drew.heap[g1]? = some (.cells (W8 b1) 27 (0, 0)) ∧ W3.drew.heap[g2]? = some (.cells (W8 b2) 27 (0, 0)) from ⟨T8.out.below (Below.refl _ _).drew, E0.out, E1.out, E2.out⟩)
    clear T8 E0 E1 E2
    refine wp_region_plan (fun W => LsW w k n A4 x W ∧ W.heap[g0]? = some (.cells (W8 b0) 27 (0, 0)) ∧ W.heap[g1]? = some (.cells (W8 b1) 27 (0, 0)) ∧ W.heap[g2]? = some (.cells (W8 b2) 27 (0, 0))) [0, 1, 2, 3, 4, 5, 6, 7, 8, 9, 10, 11, 12, 13, 14, 15, 16, 17, 18, 19, 20, 21, 22, 23, 24, 25, 26, 27] [28, 29, 30] (by kernel_rfl) (by kernel_rfl) (fun _ _ d _ _ h => by cases d <;> exact h) (T9.out) ?_
    simp only [List.filterMap_cons, List.filterMap_nil, List.getElem?_toArray, List.getElem?_cons_zero, List.getElem?_cons_succ]
    refine planQ_cons (v := ?_) (by rfl) ?_ ?_
    rotate_left
    · intro W hW
      go_simp
      with_reducible rfl
    simp only [Act.put, List.setIfInBounds_toArray, List.set_cons_zero, List.set_cons_succ]
    refine planQ_cons (v := ?_) (by rfl) ?_ ?_
    rotate_left
    · intro W hW
      go_simp
      with_reducible rfl
    simp only [Act.put, List.setIfInBounds_toArray, List.set_cons_zero, List.set_cons_succ]
    refine planQ_cons (v := ?_) (by rfl) ?_ ?_
    rotate_left
    · intro W hW
      go_simp
      with_reducible rfl
    simp only [Act.put, List.setIfInBounds_toArray, List.set_cons_zero, List.set_cons_succ]
    refine planQ_cons (v := ?_) (by rfl) ?_ ?_
    rotate_left
    · intro W hW
      go_simp
      with_reducible rfl
    simp only [Act.put, List.setIfInBounds_toArray, List.set_cons_zero, List.set_cons_succ]
    refine planQ_cons (v := ?_) (by rfl) ?_ ?_
    rotate_left
    · intro W hW
      go_simp
      with_reducible rfl
    simp only [Act.put, List.setIfInBounds_toArray, List.set_cons_zero, List.set_cons_succ]
    refine planQ_cons (by rfl) (fun W hW => run_cut_to 30 (.tmp 34) (.const (.int .i64 64)) rfl 5 Try.underlying30 I0.out I2.out A4 150 c4 64 rfl rfl (by have := L4.out; omega) W) ?_
    simp only [Act.put, List.setIfInBounds_toArray, List.set_cons_zero, List.set_cons_succ]
    refine planQ_cons (by rfl) (fun W hW => run_str 30 9 (.tmp 35) rfl Try.underlying30 Try.underlying5 Try.underlying9 (R4.out W hW.1.r1) 64 c4 LB0.out rfl) ?_
    simp only [Act.put, List.setIfInBounds_toArray, List.set_cons_zero, List.set_cons_succ]
    refine planQ_cons (by rfl) (fun W hW => run_arr_all 27 (.tmp 8) rfl 64 5 Try.underlying27 I0.out g0 rfl W) ?_
    simp only [Act.put, List.setIfInBounds_toArray, List.set_cons_zero, List.set_cons_succ]
    refine planQ_cons (by rfl) (fun W hW => run_str 30 9 (.tmp 37) rfl Try.underlying30 Try.underlying5 Try.underlying9 (RdB.row hW.2.1) 64 64 LB0.out rfl) ?_
    simp only [Act.put, List.setIfInBounds_toArray, List.set_cons_zero, List.set_cons_succ]
    refine planQ_cons (v := ?_) (by rfl) ?_ ?_
    rotate_left
    · intro W hW
      go_simp
      with_reducible rfl
    simp only [Act.put, List.setIfInBounds_toArray, List.set_cons_zero, List.set_cons_succ]
    refine planQ_cons (v := ?_) (by rfl) ?_ ?_
    rotate_left
    · intro W hW
      go_simp
      with_reducible rfl
    simp only [Act.put, List.setIfInBounds_toArray, List.set_cons_zero, List.set_cons_succ]
    refine planQ_cons (v := ?_) (by rfl) ?_ ?_
    rotate_left
    · intro W hW
      go_simp
      with_reducible rfl
    simp only [Act.put, List.setIfInBounds_toArray, List.set_cons_zero, List.set_cons_succ]
    refine planQ_cons (v := ?_) (by rfl) ?_ ?_
    rotate_left
    · intro W hW
      go_simp
      with_reducible rfl
    simp only [Act.put, List.setIfInBounds_toArray, List.set_cons_zero, List.set_cons_succ]
    refine planQ_cons (by rfl) (fun W hW => run_cut_mid 30 (.tmp 42) (.const (.int .i64 64)) (.const (.int .i64 128)) rfl Try.underlying30 X5.out rfl rfl rfl W) ?_
    simp only [Act.put, List.setIfInBounds_toArray, List.set_cons_zero, List.set_cons_succ]
    refine planQ_cons (by rfl) (fun W hW => run_str 30 9 (.tmp 43) rfl Try.underlying30 Try.underlying5 Try.underlying9 (R5.out W hW.1.r1) 64 (c4 - 64) LB1.out rfl) ?_
    simp only [Act.put, List.setIfInBounds_toArray, List.set_cons_zero, List.set_cons_succ]
    refine planQ_cons (by rfl) (fun W hW => run_arr_all 27 (.tmp 9) rfl 64 5 Try.underlying27 I0.out g1 rfl W) ?_
    simp only [Act.put, List.setIfInBounds_toArray, List.set_cons_zero, List.set_cons_succ]
    refine planQ_cons (by rfl) (fun W hW => run_str 30 9 (.tmp 45) rfl Try.underlying30 Try.underlying5 Try.underlying9 (RdB.row hW.2.2.1) 64 64 LB1.out rfl) ?_
    simp only [Act.put, List.setIfInBounds_toArray, List.set_cons_zero, List.set_cons_succ]
    refine planQ_cons (v := ?_) (by rfl) ?_ ?_
    rotate_left
    · intro W hW
      go_simp
      with_reducible rfl
    simp only [Act.put, List.setIfInBounds_toArray, List.set_cons_zero, List.set_cons_succ]
    refine planQ_cons (v := ?_) (by rfl) ?_ ?_
    rotate_left
    · intro W hW
      go_simp
      with_reducible rfl
    simp only [Act.put, List.setIfInBounds_toArray, List.set_cons_zero, List.set_cons_succ]
    refine planQ_cons (v := ?_) (by rfl) ?_ ?_
    rotate_left
    · intro W hW
      go_simp
      with_reducible rfl
    simp only [Act.put, List.setIfInBounds_toArray, List.set_cons_zero, List.set_cons_succ]
    refine planQ_cons (v := ?_) (by rfl) ?_ ?_
    rotate_left
    · intro W hW
      go_simp
      with_reducible rfl
    simp only [Act.put, List.setIfInBounds_toArray, List.set_cons_zero, List.set_cons_succ]
    refine planQ_cons (by rfl) (fun W hW => run_cut_from 30 (.tmp 50) (.const (.int .i64 128)) rfl Try.underlying30 X6.out rfl rfl W) ?_
    simp only [Act.put, List.setIfInBounds_toArray, List.set_cons_zero, List.set_cons_succ]
    refine planQ_cons (by rfl) (fun W hW => run_str 30 9 (.tmp 51) rfl Try.underlying30 Try.underlying5 Try.underlying9 (R6.out W hW.1.r1) 22 (c4 - 128) (by rw [List.length_take, LB2.out]; rfl) rfl) ?_
    simp only [Act.put, List.setIfInBounds_toArray, List.set_cons_zero, List.set_cons_succ]
    refine planQ_cons (by rfl) (fun W hW => run_arr_to 27 (.tmp 10) (.const (.int .i64 22)) rfl 64 5 Try.underlying27 I0.out g2 22 (by omega) rfl rfl W) ?_
    simp only [Act.put, List.setIfInBounds_toArray, List.set_cons_zero, List.set_cons_succ]
    refine planQ_cons (by rfl) (fun W hW => run_str 30 9 (.tmp 53) rfl Try.underlying30 Try.underlying5 Try.underlying9 ((RdB.row hW.2.2.2).take 22) 22 64 (by rw [List.length_take, LB2.out]; rfl) rfl) ?_
    simp only [Act.put, List.setIfInBounds_toArray, List.set_cons_zero, List.set_cons_succ]
    refine planQ_cons (v := ?_) (by rfl) ?_ ?_
    rotate_left
    · intro W hW
      go_simp
      with_reducible rfl
    simp only [Act.put, List.setIfInBounds_toArray, List.set_cons_zero, List.set_cons_succ]
    refine planQ_cons (v := ?_) (by rfl) ?_ ?_
    rotate_left
    · intro W hW
      go_simp
      with_reducible rfl
    simp only [Act.put, List.setIfInBounds_toArray, List.set_cons_zero, List.set_cons_succ]
    refine planQ_cons (v := ?_) (by rfl) ?_ ?_
    rotate_left
    · intro W hW
      go_simp
      with_reducible rfl
    simp only [Act.put, List.setIfInBounds_toArray, List.set_cons_zero, List.set_cons_succ]
    refine planQ_nil ?_
    refine planT_cons (by rfl) (fun K hK => ?_)
    go_simp
    refine (one_true _).mono ?_
    rintro e w9 ⟨rfl, hb9⟩
    have T10 := Lib.hid (show LsW w k n A4 x w9 ∧ w9.heap[g0]? = some (.cells (W8 b0) 27 (0, 0)) ∧ w9.heap[g1]? = some (.cells (W8 b1) 27 (0, 0)) ∧ w9.heap[g2]? = some (.cells (W8 b2) 27 (0, 0)) from
      ⟨T9.out.1.below hb9, below_block hb9 (row_lt T9.out.2.1) T9.out.2.1, below_block hb9 (row_lt T9.out.2.2.1) T9.out.2.2.1, below_block hb9 (row_lt T9.out.2.2.2) T9.out.2.2.2⟩)
    clear hb9
    refine hK.out _ _ (T10.out) ?_
    clear hK K
    refine planT_val (v := ?_) (by rfl) (T10.out) ?_ ?_
    rotate_left
    · go_simp
      with_reducible rfl
    simp only [Act.put, List.setIfInBounds_toArray, List.set_cons_zero, List.set_cons_succ]
    refine planT_val (v := ?_) (by rfl) (T10.out) ?_ ?_
    rotate_left
    · go_simp
      with_reducible rfl
    simp only [Act.put, List.setIfInBounds_toArray, List.set_cons_zero, List.set_cons_succ]
    refine planT_nil ?_
    go_wp2_with fail
    go_ret
    exact ⟨rfl, T10.out.1.s.bel⟩
end Go.Proofs.Ytmdalhndmmobdaa
