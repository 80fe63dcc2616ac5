/- Part 5 of what the law LawBoxPlays needs. No condition but those each theorem states. -/
import Derived.Test.YtldjiigkebkgcaaProg
import Derived.Test.YtldjiigkebkgcaaPkLawBoxPlaysD
/- The document's quarter round: the same as the program's. -/
namespace Go.Proofs.Ytldjiigkebkgcaa
set_option linter.unusedVariables false
set_option linter.unusedSimpArgs false
open Go.RowKit

theorem turned_any (x : UInt32) (r : Nat) (w : World) (hr : r < 32) (h0 : 0 < r) :
    Calls Try.prog 89 #[.int .u32 (x.toNat : Int), .int .u64 (r : Int)] w fun e w' => e = .returned (.int .u32 ((rotl x r).toNat : Int)) ∧ w' = w := by
  have hc := rot_core x r hr h0
  have e1 : (r : Int) ≤ 32 := by omega
  have e2 : (0 : Int) ≤ 32 - (r : Int) := by omega
  have e3 : (32 - (r : Int)) ≤ 32 := by omega
  have e4 : (32 - (r : Int)).toNat = 32 - r := by omega
  have e5 : (32 - (r : Int)) % 18446744073709551616 = 32 - (r : Int) := by omega
  go_enter Try.func89, Try.ntmps89
  go_wp2_with fail
  go_ret
  exact ⟨rfl, rfl⟩

/-- What is known of a world in which only block g was written, and which holds l there (an array of sixteen words). -/
def StR (w : World) (g : Nat) (l : List UInt32) (W : World) : Prop := W.heap[g]? = some (.cells (W32 l) 105 (0, 0)) ∧ w.grownBy W (some g)
theorem StR.cell {w W : World} {g : Nat} {l : List UInt32} (h : StR w g l W) (i : Nat) (hi : i < l.length) : W.cell? ⟨g, i, none⟩ = some (.int .u32 ((l.getD i 0).toNat : Int)) := row_cell h.1 i (W32_get l i hi)
theorem StR.pick {w W : World} {g : Nat} {l : List UInt32} (h : StR w g l W) (i : Nat) (hi : i < l.length) : ∃ x : UInt32, Hid (x = l.getD i 0) ∧ W.cell? ⟨g, i, none⟩ = some (.int .u32 (x.toNat : Int)) := ⟨_, rfl, h.cell i hi⟩
theorem StR.free {w W : World} {g : Nat} {l : List UInt32} (h : StR w g l W) (i : Nat) : W.frozen? ⟨g, i, none⟩ = false := row_free h.1 i
theorem StR.set {w W : World} {g : Nat} {l : List UInt32} (h : StR w g l W) (i : Nat) (x : UInt32) (v : Int) (hv : v = (x.toNat : Int)) : StR w g (l.set i x) (W.setCell ⟨g, i, none⟩ (.int .u32 v)) := by
  subst hv
  exact ⟨by rw [heap_setCell_same _ _ _ _ _ _ h.1, W32_set], grown_set h.2 _ _⟩
theorem StR.drew {w W : World} {g : Nat} {l : List UInt32} (h : StR w g l W) : StR w g l W.drew := ⟨h.1, grown_drew h.2⟩
theorem StR.refl {w : World} {g : Nat} {l : List UInt32} (h : w.heap[g]? = some (.cells (W32 l) 105 (0, 0))) : StR w g l w := ⟨h, World.grownBy.refl _ _⟩
theorem StR.trans {w W W' : World} {g : Nat} {l l' : List UInt32} (h : StR w g l W) (h' : StR W g l' W') : StR w g l' W' := ⟨h'.1, World.grownBy.trans h.2 h'.2⟩
def zero16w : List UInt32 := [0, 0, 0, 0, 0, 0, 0, 0, 0, 0, 0, 0, 0, 0, 0, 0]

set_option maxRecDepth 100000 in
set_option maxHeartbeats 2000000 in
theorem refQuarter_any (l : List UInt32) (hl : l.length = 16) (w : World) (a b c d : Nat) (ha : (a : Int) < 16) (hb : (b : Int) < 16) (hc : (c : Int) < 16) (hd : (d : Int) < 16) :
    Calls Try.prog 77 #[.agg (W32 l), .int .i64 (a : Int), .int .i64 (b : Int), .int .i64 (c : Int), .int .i64 (d : Int)] w fun e w' =>
      e = .returned (.agg (W32 (quarterL l a b c d))) ∧ Below w.heap.size w w' := by
  have N0 := Lib.hid hl
  have LQ := Lib.hid (show (quarterL l a b c d).length = 16 by rw [quarterL_length]; exact hl)
  go_enter Try.func77, Try.ntmps77
  go_upto_region 1 with fail
  obtain ⟨g, hg⟩ : ∃ g, g = w.heap.size := ⟨_, rfl⟩
  refine wp_abs (fun W => W.heap[g]? = some (.cells (W32 l) 105 (0, 0)) ∧ W.heap[g + 1]? = some (.cells (W32 zero16w) 105 (0, 0)) ∧ Below w.heap.size w W) ⟨ha_old _ _ _ (by simp; omega) (ha_new _ _ _ hg), ha_new _ _ _ (by simp; omega), ((Below.refl _ _).alloc (Nat.le_refl _) _).alloc (by simp) _⟩ ?_
  rw [← hg]
  have HG := Lib.hid hg
  clear hg hl
  rintro w0 ⟨hs, hz, hb0⟩
  have Z0 := Lib.hid hz
  have B0 := Lib.hid hb0
  have H0 := Lib.hid (StR.refl hs)
  clear hs hz hb0
  obtain ⟨l0, hl0⟩ : ∃ l0, l0 = l := ⟨_, rfl⟩
  have HL0 := Lib.hid hl0
  rw [← hl0] at N0 H0
  obtain ⟨wr0, hw0⟩ : ∃ wr0, wr0 = w0 := ⟨_, rfl⟩
  rw [← hw0] at H0 ⊢
  replace H0 : Hid (StR w0 g l0 wr0) := Lib.hid (by rw [hw0]; exact StR.refl (by rw [← hw0]; exact H0.out.1))
  clear hw0 hl0
  obtain ⟨x0, hx, a1⟩ := H0.out.pick a (by have := N0.out; omega)
  obtain ⟨y0, hy, a2⟩ := H0.out.pick b (by have := N0.out; omega)
  have a3 := H0.out.free a
  go_region
  go_wp2_with fail
  clear a1 a2 a3
  refine wp_abs (fun W => StR w0 g (l0.set a (l0.getD a 0 + l0.getD b 0)) W) ((H0.out.set a _ _ (by rw [← hx.out, ← hy.out]; exact u32_add _ _)).drew) ?_
  clear hx hy
  generalize hl1 : l0.set a (l0.getD a 0 + l0.getD b 0) = l1
  have HL1 := Lib.hid hl1
  have N1 := Lib.hid (show l1.length = 16 by rw [← hl1]; simpa using N0.out)
  clear hl1 H0 wr0
  rintro wr1 H1'
  have H1 := Lib.hid H1'
  clear H1' 
  obtain ⟨x1, hx, a1⟩ := H1.out.pick d (by have := N1.out; omega)
  obtain ⟨y1, hy, a2⟩ := H1.out.pick a (by have := N1.out; omega)
  have a3 := H1.out.free d
  obtain ⟨z1, hz, X⟩ := u32_xor_ex x1 y1
  go_still_tail 10, (by kernel_rfl)
  still_call (turned_any _ 16 _ (by omega) (by omega))
  repeat still_step
  refine wpStill_nil ?_
  change wpList _ _ _ _ _ wr1.drew
  go_wp2_with fail
  clear a1 a2 a3 X
  refine wp_abs (fun W => StR w0 g (l1.set d (rotl (l1.getD d 0 ^^^ l1.getD a 0) 16)) W) (by rw [← hx.out, ← hy.out, ← hz.out]; exact (H1.out.set d _ _ rfl).drew) ?_
  clear hx hy hz
  generalize hl2 : l1.set d (rotl (l1.getD d 0 ^^^ l1.getD a 0) 16) = l2
  have HL2 := Lib.hid hl2
  have N2 := Lib.hid (show l2.length = 16 by rw [← hl2]; simpa using N1.out)
  clear hl2 H1 wr1
  rintro wr2 H2'
  have H2 := Lib.hid H2'
  clear H2' 
  obtain ⟨x2, hx, a1⟩ := H2.out.pick c (by have := N2.out; omega)
  obtain ⟨y2, hy, a2⟩ := H2.out.pick d (by have := N2.out; omega)
  have a3 := H2.out.free c
  go_region
  go_wp2_with fail
  clear a1 a2 a3
  refine wp_abs (fun W => StR w0 g (l2.set c (l2.getD c 0 + l2.getD d 0)) W) ((H2.out.set c _ _ (by rw [← hx.out, ← hy.out]; exact u32_add _ _)).drew) ?_
  clear hx hy
  generalize hl3 : l2.set c (l2.getD c 0 + l2.getD d 0) = l3
  have HL3 := Lib.hid hl3
  have N3 := Lib.hid (show l3.length = 16 by rw [← hl3]; simpa using N2.out)
  clear hl3 H2 wr2
  rintro wr3 H3'
  have H3 := Lib.hid H3'
  clear H3' 
  obtain ⟨x3, hx, a1⟩ := H3.out.pick b (by have := N3.out; omega)
  obtain ⟨y3, hy, a2⟩ := H3.out.pick c (by have := N3.out; omega)
  have a3 := H3.out.free b
  obtain ⟨z3, hz, X⟩ := u32_xor_ex x3 y3
  go_still_tail 10, (by kernel_rfl)
  still_call (turned_any _ 12 _ (by omega) (by omega))
  repeat still_step
  refine wpStill_nil ?_
  change wpList _ _ _ _ _ wr3.drew
  go_wp2_with fail
  clear a1 a2 a3 X
  refine wp_abs (fun W => StR w0 g (l3.set b (rotl (l3.getD b 0 ^^^ l3.getD c 0) 12)) W) (by rw [← hx.out, ← hy.out, ← hz.out]; exact (H3.out.set b _ _ rfl).drew) ?_
  clear hx hy hz
  generalize hl4 : l3.set b (rotl (l3.getD b 0 ^^^ l3.getD c 0) 12) = l4
  have HL4 := Lib.hid hl4
  have N4 := Lib.hid (show l4.length = 16 by rw [← hl4]; simpa using N3.out)
  clear hl4 H3 wr3
  rintro wr4 H4'
  have H4 := Lib.hid H4'
  clear H4' 
  obtain ⟨x4, hx, a1⟩ := H4.out.pick a (by have := N4.out; omega)
  obtain ⟨y4, hy, a2⟩ := H4.out.pick b (by have := N4.out; omega)
  have a3 := H4.out.free a
  go_region
  go_wp2_with fail
  clear a1 a2 a3
  refine wp_abs (fun W => StR w0 g (l4.set a (l4.getD a 0 + l4.getD b 0)) W) ((H4.out.set a _ _ (by rw [← hx.out, ← hy.out]; exact u32_add _ _)).drew) ?_
  clear hx hy
  generalize hl5 : l4.set a (l4.getD a 0 + l4.getD b 0) = l5
  have HL5 := Lib.hid hl5
  have N5 := Lib.hid (show l5.length = 16 by rw [← hl5]; simpa using N4.out)
  clear hl5 H4 wr4
  rintro wr5 H5'
  have H5 := Lib.hid H5'
  clear H5' 
  obtain ⟨x5, hx, a1⟩ := H5.out.pick d (by have := N5.out; omega)
  obtain ⟨y5, hy, a2⟩ := H5.out.pick a (by have := N5.out; omega)
  have a3 := H5.out.free d
  obtain ⟨z5, hz, X⟩ := u32_xor_ex x5 y5
  go_still_tail 10, (by kernel_rfl)
  still_call (turned_any _ 8 _ (by omega) (by omega))
  repeat still_step
  refine wpStill_nil ?_
  change wpList _ _ _ _ _ wr5.drew
  go_wp2_with fail
  clear a1 a2 a3 X
  refine wp_abs (fun W => StR w0 g (l5.set d (rotl (l5.getD d 0 ^^^ l5.getD a 0) 8)) W) (by rw [← hx.out, ← hy.out, ← hz.out]; exact (H5.out.set d _ _ rfl).drew) ?_
  clear hx hy hz
  generalize hl6 : l5.set d (rotl (l5.getD d 0 ^^^ l5.getD a 0) 8) = l6
  have HL6 := Lib.hid hl6
  have N6 := Lib.hid (show l6.length = 16 by rw [← hl6]; simpa using N5.out)
  clear hl6 H5 wr5
  rintro wr6 H6'
  have H6 := Lib.hid H6'
  clear H6' 
  obtain ⟨x6, hx, a1⟩ := H6.out.pick c (by have := N6.out; omega)
  obtain ⟨y6, hy, a2⟩ := H6.out.pick d (by have := N6.out; omega)
  have a3 := H6.out.free c
  go_region
  go_wp2_with fail
  clear a1 a2 a3
  refine wp_abs (fun W => StR w0 g (l6.set c (l6.getD c 0 + l6.getD d 0)) W) ((H6.out.set c _ _ (by rw [← hx.out, ← hy.out]; exact u32_add _ _)).drew) ?_
  clear hx hy
  generalize hl7 : l6.set c (l6.getD c 0 + l6.getD d 0) = l7
  have HL7 := Lib.hid hl7
  have N7 := Lib.hid (show l7.length = 16 by rw [← hl7]; simpa using N6.out)
  clear hl7 H6 wr6
  rintro wr7 H7'
  have H7 := Lib.hid H7'
  clear H7' 
  obtain ⟨x7, hx, a1⟩ := H7.out.pick b (by have := N7.out; omega)
  obtain ⟨y7, hy, a2⟩ := H7.out.pick c (by have := N7.out; omega)
  have a3 := H7.out.free b
  obtain ⟨z7, hz, X⟩ := u32_xor_ex x7 y7
  go_still_tail 10, (by kernel_rfl)
  still_call (turned_any _ 7 _ (by omega) (by omega))
  repeat still_step
  refine wpStill_nil ?_
  change wpList _ _ _ _ _ wr7.drew
  go_upto_region 9 with fail
  clear a1 a2 a3 X
  refine wp_abs (fun W => StR w0 g (l7.set b (rotl (l7.getD b 0 ^^^ l7.getD c 0) 7)) W) (by rw [← hx.out, ← hy.out, ← hz.out]; exact (H7.out.set b _ _ rfl).drew) ?_
  clear hx hy hz
  generalize hl8 : l7.set b (rotl (l7.getD b 0 ^^^ l7.getD c 0) 7) = l8
  have HL8 := Lib.hid hl8
  have N8 := Lib.hid (show l8.length = 16 by rw [← hl8]; simpa using N7.out)
  clear hl8 H7 wr7
  rintro wr8 H8'
  have H8 := Lib.hid H8'
  clear H8' 
  have E : l8 = quarterL l a b c d := by
    rw [← HL8.out, ← HL7.out, ← HL6.out, ← HL5.out, ← HL4.out, ← HL3.out, ← HL2.out, ← HL1.out, HL0.out]; rfl
  have HE := Lib.hid E
  have ZQ := Lib.hid (show (Try.prog.info? 105).map (·.size) = some (W32 l8).size by rw [W32_size, N8.out]; kernel_rfl)
  clear E HL1 HL2 HL3 HL4 HL5 HL6 HL7 HL8 HL0
  have R8 := Lib.hid (grown_block H8.out.2 (by simp) Z0.out)
  go_wp2_with (first
    | (refine wpList_load_row rfl 105 (.tmp 5) rfl g rfl 105 (W32 l8) (0, 0) _ H8.out.1 Try.underlying105 rfl ZQ.out ?_)
    | (refine wpList_store_whole rfl rfl 105 (.tmp 10) (.tmp 87) rfl (g + 1) (W32 l8) rfl rfl 105 (W32 zero16w) R8.out ZQ.out (by rw [W32_size, W32_size, N8.out]; rfl) (W32_one _) ?_; intro w9 hg9 hgr9 hs9))
  have G9 := Lib.hid hg9
  have B9 := Lib.hid ((B0.out.trans (grown_below H8.out.2 (by rw [HG.out]; exact B0.out.size) (fun k e => by simp at e; have := HG.out; omega))).trans (grown_below hgr9 (by have := row_lt H8.out.1; have := HG.out; omega) (fun k e => by simp at e; have := HG.out; omega)))
  clear hg9 hgr9 hs9 H8 R8 B0 Z0
  go_wp2_with fail
  refine bodyPost_ret (results_cell_row rfl _ _ (g + 1) 105 (W32 l8) (0, 0) _ rfl G9.out Try.underlying105 rfl ZQ.out) rfl ?_
  rw [← HE.out]
  exact ⟨rfl, by rw [← HG.out]; exact B9.out⟩
end Go.Proofs.Ytldjiigkebkgcaa

/- The document's word of four bytes. -/
namespace Go.Proofs.Ytldjiigkebkgcaa
set_option linter.unusedVariables false
set_option linter.unusedSimpArgs false
open Go.RowKit
attribute [local go_sem ↓] Go.wp_at_zero Go.wp_at_succ

def wordL (b : List UInt8) (i : Nat) : UInt32 := (b.getD (4 * i) 0).toUInt32 + (b.getD (4 * i + 1) 0).toUInt32 <<< 8 + (b.getD (4 * i + 2) 0).toUInt32 <<< 16 + (b.getD (4 * i + 3) 0).toUInt32 <<< 24

theorem word_val (x0 x1 x2 x3 : UInt8) : IntKind.u32.wrap (IntKind.u32.wrap (IntKind.u32.wrap (IntKind.u32.wrap (x0.toNat : Int) + IntKind.u32.wrap (IntKind.u32.wrap (x1.toNat : Int) * 256)) + IntKind.u32.wrap (IntKind.u32.wrap (x2.toNat : Int) * 65536)) + IntKind.u32.wrap (IntKind.u32.wrap (x3.toNat : Int) * 16777216)) = ((x0.toUInt32 + x1.toUInt32 <<< 8 + x2.toUInt32 <<< 16 + x3.toUInt32 <<< 24).toNat : Int) := by
  have h0 := x0.toNat_lt
  have h1 := x1.toNat_lt
  have h2 := x2.toNat_lt
  have h3 := x3.toNat_lt
  simp only [IntKind.wrap_u32, UInt32.toNat_add, UInt32.toNat_shiftLeft, UInt8.toNat_toUInt32, Nat.shiftLeft_eq]
  have e1 : (8 : UInt32).toNat % 32 = 8 := rfl
  have e2 : (16 : UInt32).toNat % 32 = 16 := rfl
  have e3 : (24 : UInt32).toNat % 32 = 24 := rfl
  rw [e1, e2, e3]
  omega
set_option maxRecDepth 100000 in
set_option maxHeartbeats 1000000 in
theorem word_any (b : List UInt8) (i : Nat) (w : World) (h : 4 * i + 3 < b.length) (hi : i ≤ 1000) :
    Calls Try.prog 76 #[.string (strB b), .int .i64 (i : Int)] w fun e w' => e = .returned (.int .u32 ((wordL b i).toNat : Int)) ∧ w' = w.drew := by
  have H := Lib.hid h
  have e0 : Hid (IntKind.i64.wrap (4 * (i : Int)) = ((4 * i : Nat) : Int)) := by show _ = _; rw [IntKind.wrap_i64]; omega
  have e1 : Hid (IntKind.i64.wrap (IntKind.i64.wrap (4 * (i : Int)) + 1) = ((4 * i + 1 : Nat) : Int)) := by show _ = _; rw [e0.out, IntKind.wrap_i64]; omega
  have e2 : Hid (IntKind.i64.wrap (IntKind.i64.wrap (4 * (i : Int)) + 2) = ((4 * i + 2 : Nat) : Int)) := by show _ = _; rw [e0.out, IntKind.wrap_i64]; omega
  have e3 : Hid (IntKind.i64.wrap (IntKind.i64.wrap (4 * (i : Int)) + 3) = ((4 * i + 3 : Nat) : Int)) := by show _ = _; rw [e0.out, IntKind.wrap_i64]; omega
  obtain ⟨x0, h0⟩ : ∃ x, x = b.getD (4 * i) 0 := ⟨_, rfl⟩
  obtain ⟨x1, h1⟩ : ∃ x, x = b.getD (4 * i + 1) 0 := ⟨_, rfl⟩
  obtain ⟨x2, h2⟩ : ∃ x, x = b.getD (4 * i + 2) 0 := ⟨_, rfl⟩
  obtain ⟨x3, h3⟩ : ∃ x, x = b.getD (4 * i + 3) 0 := ⟨_, rfl⟩
  have X : Hid (wordL b i = x0.toUInt32 + x1.toUInt32 <<< 8 + x2.toUInt32 <<< 16 + x3.toUInt32 <<< 24) := by show _ = _; rw [h0, h1, h2, h3]; rfl
  have H0 := Lib.hid h0
  have H1 := Lib.hid h1
  have H2 := Lib.hid h2
  have H3 := Lib.hid h3
  clear h h0 h1 h2 h3
  go_enter Try.func76, Try.ntmps76
  go_upto_region 1 with fail
  refine wp_region_plan (fun W => W = w.drew) [0, 1, 2, 3, 4, 5, 6, 7, 8, 9, 10, 11, 12, 13, 14, 15, 16, 17, 18, 19, 20, 21, 22, 23, 24, 25, 26, 27, 28] [29] (by kernel_rfl) (by kernel_rfl) (fun _ _ d _ _ h => by cases d <;> exact h) (rfl) ?_
  simp only [List.filterMap_cons, List.filterMap_nil, List.getElem?_toArray, List.getElem?_cons_zero, List.getElem?_cons_succ]
  refine planQ_cons (v := ?_) (by rfl) ?_ ?_
  rotate_left
  · intro W hW
    go_simp
    with_reducible rfl
  simp only [Act.put, List.setIfInBounds_toArray, List.set_cons_zero, List.set_cons_succ]
  refine planQ_cons (v := ?_) (by rfl) ?_ ?_
  rotate_left
  · intro W hW
    go_simp
    with_reducible rfl
  simp only [Act.put, List.setIfInBounds_toArray, List.set_cons_zero, List.set_cons_succ]
  refine planQ_cons (v := ?_) (by rfl) ?_ ?_
  rotate_left
  · intro W hW
    go_simp
    with_reducible rfl
  simp only [Act.put, List.setIfInBounds_toArray, List.set_cons_zero, List.set_cons_succ]
  refine planQ_cons (by rfl) (fun W hW => run_idx_str 9 (.tmp 5) (.tmp 7) rfl Try.underlying9 b (4 * i) x0 H0.out (by have := H.out; omega) .i64 _ e0.out rfl rfl W) ?_
  simp only [Act.put, List.setIfInBounds_toArray, List.set_cons_zero, List.set_cons_succ]
  refine planQ_cons (v := ?_) (by rfl) ?_ ?_
  rotate_left
  · intro W hW
    go_simp
    with_reducible rfl
  simp only [Act.put, List.setIfInBounds_toArray, List.set_cons_zero, List.set_cons_succ]
  refine planQ_cons (v := ?_) (by rfl) ?_ ?_
  rotate_left
  · intro W hW
    go_simp
    with_reducible rfl
  simp only [Act.put, List.setIfInBounds_toArray, List.set_cons_zero, List.set_cons_succ]
  refine planQ_cons (v := ?_) (by rfl) ?_ ?_
  rotate_left
  · intro W hW
    go_simp
    with_reducible rfl
  simp only [Act.put, List.setIfInBounds_toArray, List.set_cons_zero, List.set_cons_succ]
  refine planQ_cons (v := ?_) (by rfl) ?_ ?_
  rotate_left
  · intro W hW
    go_simp
    with_reducible rfl
  simp only [Act.put, List.setIfInBounds_toArray, List.set_cons_zero, List.set_cons_succ]
  refine planQ_cons (v := ?_) (by rfl) ?_ ?_
  rotate_left
  · intro W hW
    go_simp
    with_reducible rfl
  simp only [Act.put, List.setIfInBounds_toArray, List.set_cons_zero, List.set_cons_succ]
  refine planQ_cons (by rfl) (fun W hW => run_idx_str 9 (.tmp 10) (.tmp 13) rfl Try.underlying9 b (4 * i + 1) x1 H1.out (by have := H.out; omega) .i64 _ e1.out rfl rfl W) ?_
  simp only [Act.put, List.setIfInBounds_toArray, List.set_cons_zero, List.set_cons_succ]
  refine planQ_cons (v := ?_) (by rfl) ?_ ?_
  rotate_left
  · intro W hW
    go_simp
    with_reducible rfl
  simp only [Act.put, List.setIfInBounds_toArray, List.set_cons_zero, List.set_cons_succ]
  refine planQ_cons (v := ?_) (by rfl) ?_ ?_
  rotate_left
  · intro W hW
    go_simp
    with_reducible rfl
  simp only [Act.put, List.setIfInBounds_toArray, List.set_cons_zero, List.set_cons_succ]
  refine planQ_cons (v := ?_) (by rfl) ?_ ?_
  rotate_left
  · intro W hW
    go_simp
    with_reducible rfl
  simp only [Act.put, List.setIfInBounds_toArray, List.set_cons_zero, List.set_cons_succ]
  refine planQ_cons (v := ?_) (by rfl) ?_ ?_
  rotate_left
  · intro W hW
    go_simp
    with_reducible rfl
  simp only [Act.put, List.setIfInBounds_toArray, List.set_cons_zero, List.set_cons_succ]
  refine planQ_cons (v := ?_) (by rfl) ?_ ?_
  rotate_left
  · intro W hW
    go_simp
    with_reducible rfl
  simp only [Act.put, List.setIfInBounds_toArray, List.set_cons_zero, List.set_cons_succ]
  refine planQ_cons (v := ?_) (by rfl) ?_ ?_
  rotate_left
  · intro W hW
    go_simp
    with_reducible rfl
  simp only [Act.put, List.setIfInBounds_toArray, List.set_cons_zero, List.set_cons_succ]
  refine planQ_cons (v := ?_) (by rfl) ?_ ?_
  rotate_left
  · intro W hW
    go_simp
    with_reducible rfl
  simp only [Act.put, List.setIfInBounds_toArray, List.set_cons_zero, List.set_cons_succ]
  refine planQ_cons (by rfl) (fun W hW => run_idx_str 9 (.tmp 18) (.tmp 21) rfl Try.underlying9 b (4 * i + 2) x2 H2.out (by have := H.out; omega) .i64 _ e2.out rfl rfl W) ?_
  simp only [Act.put, List.setIfInBounds_toArray, List.set_cons_zero, List.set_cons_succ]
  refine planQ_cons (v := ?_) (by rfl) ?_ ?_
  rotate_left
  · intro W hW
    go_simp
    with_reducible rfl
  simp only [Act.put, List.setIfInBounds_toArray, List.set_cons_zero, List.set_cons_succ]
  refine planQ_cons (v := ?_) (by rfl) ?_ ?_
  rotate_left
  · intro W hW
    go_simp
    with_reducible rfl
  simp only [Act.put, List.setIfInBounds_toArray, List.set_cons_zero, List.set_cons_succ]
  refine planQ_cons (v := ?_) (by rfl) ?_ ?_
  rotate_left
  · intro W hW
    go_simp
    with_reducible rfl
  simp only [Act.put, List.setIfInBounds_toArray, List.set_cons_zero, List.set_cons_succ]
  refine planQ_cons (v := ?_) (by rfl) ?_ ?_
  rotate_left
  · intro W hW
    go_simp
    with_reducible rfl
  simp only [Act.put, List.setIfInBounds_toArray, List.set_cons_zero, List.set_cons_succ]
  refine planQ_cons (v := ?_) (by rfl) ?_ ?_
  rotate_left
  · intro W hW
    go_simp
    with_reducible rfl
  simp only [Act.put, List.setIfInBounds_toArray, List.set_cons_zero, List.set_cons_succ]
  refine planQ_cons (v := ?_) (by rfl) ?_ ?_
  rotate_left
  · intro W hW
    go_simp
    with_reducible rfl
  simp only [Act.put, List.setIfInBounds_toArray, List.set_cons_zero, List.set_cons_succ]
  refine planQ_cons (v := ?_) (by rfl) ?_ ?_
  rotate_left
  · intro W hW
    go_simp
    with_reducible rfl
  simp only [Act.put, List.setIfInBounds_toArray, List.set_cons_zero, List.set_cons_succ]
  refine planQ_cons (by rfl) (fun W hW => run_idx_str 9 (.tmp 26) (.tmp 29) rfl Try.underlying9 b (4 * i + 3) x3 H3.out (by have := H.out; omega) .i64 _ e3.out rfl rfl W) ?_
  simp only [Act.put, List.setIfInBounds_toArray, List.set_cons_zero, List.set_cons_succ]
  refine planQ_cons (v := ?_) (by rfl) ?_ ?_
  rotate_left
  · intro W hW
    go_simp
    with_reducible rfl
  simp only [Act.put, List.setIfInBounds_toArray, List.set_cons_zero, List.set_cons_succ]
  refine planQ_cons (v := ?_) (by rfl) ?_ ?_
  rotate_left
  · intro W hW
    go_simp
    with_reducible rfl
  simp only [Act.put, List.setIfInBounds_toArray, List.set_cons_zero, List.set_cons_succ]
  refine planQ_cons (v := ?_) (by rfl) ?_ ?_
  rotate_left
  · intro W hW
    go_simp
    with_reducible rfl
  simp only [Act.put, List.setIfInBounds_toArray, List.set_cons_zero, List.set_cons_succ]
  refine planQ_nil ?_
  refine planT_cons (by rfl) (fun K hK => ?_)
  go_simp
  refine hK.out _ _ (rfl) ?_
  clear hK K
  refine planT_nil ?_
  go_wp2_with fail
  go_ret
  rw [X.out]
  exact ⟨congrArg (fun z => Ending.returned (.int .u32 z)) (word_val x0 x1 x2 x3), rfl⟩
end Go.Proofs.Ytldjiigkebkgcaa

/- The document's starting words are the program's. No program. -/
namespace Go.Proofs.Ytldjiigkebkgcaa
set_option linter.unusedVariables false
set_option linter.unusedSimpArgs false
open Go.RowKit

def wordK (l : List UInt32) (p : Nat) (b : List UInt8) : Nat → List UInt32
  | 0 => l
  | i + 1 => (wordK l p b i).set (p + i) (wordL b i)
theorem wordK_length (l : List UInt32) (p : Nat) (b : List UInt8) (i : Nat) : (wordK l p b i).length = l.length := by
  induction i with
  | zero => rfl
  | succ i ih => simp [wordK, ih]
def refInit (k n : List UInt8) (count : UInt32) : List UInt32 := wordK ((wordK headL 4 k 8).set 12 count) 13 n 3
theorem refInit_length (k n : List UInt8) (count : UInt32) : (refInit k n count).length = 16 := by simp [refInit, wordK_length, headL]

theorem or4 (a b c d : UInt8) : ((((0 : UInt32) ||| a.toUInt32 <<< 0) ||| b.toUInt32 <<< 8) ||| c.toUInt32 <<< 16) ||| d.toUInt32 <<< 24 = a.toUInt32 + b.toUInt32 <<< 8 + c.toUInt32 <<< 16 + d.toUInt32 <<< 24 := by
  have h0 := a.toNat_lt
  have h1 := b.toNat_lt
  have h2 := c.toNat_lt
  have h3 := d.toNat_lt
  apply UInt32.toNat_inj.1
  simp only [UInt32.toNat_or, UInt32.toNat_add, UInt32.toNat_shiftLeft, UInt8.toNat_toUInt32]
  have e0 : (0 : UInt32).toNat = 0 := rfl
  have e1 : (8 : UInt32).toNat % 32 = 8 := rfl
  have e2 : (16 : UInt32).toNat % 32 = 16 := rfl
  have e3 : (24 : UInt32).toNat % 32 = 24 := rfl
  rw [e0, e1, e2, e3]
  generalize a.toNat = a at *
  generalize b.toNat = b at *
  generalize c.toNat = c at *
  generalize d.toNat = d at *
  have m1 : b <<< 8 % 2 ^ 32 = b <<< 8 := Nat.mod_eq_of_lt (by rw [Nat.shiftLeft_eq]; omega)
  have m2 : c <<< 16 % 2 ^ 32 = c <<< 16 := Nat.mod_eq_of_lt (by rw [Nat.shiftLeft_eq]; omega)
  have m3 : d <<< 24 % 2 ^ 32 = d <<< 24 := Nat.mod_eq_of_lt (by rw [Nat.shiftLeft_eq]; omega)
  have m0 : a <<< (0 % 32) % 2 ^ 32 = a := by simp; omega
  rw [m0, m1, m2, m3, Nat.zero_or]
  have s1 : a ||| b <<< 8 = b * 256 + a := by rw [Nat.or_comm, ← Nat.shiftLeft_add_eq_or_of_lt h0, Nat.shiftLeft_eq]
  have s2 : b * 256 + a ||| c <<< 16 = c * 65536 + (b * 256 + a) := by rw [Nat.or_comm, ← Nat.shiftLeft_add_eq_or_of_lt (by omega), Nat.shiftLeft_eq]
  have s3 : c * 65536 + (b * 256 + a) ||| d <<< 24 = d * 16777216 + (c * 65536 + (b * 256 + a)) := by rw [Nat.or_comm, ← Nat.shiftLeft_add_eq_or_of_lt (by omega), Nat.shiftLeft_eq]
  rw [s1, s2, s3]
  simp only [Nat.shiftLeft_eq]
  omega

theorem set4 (L : List UInt32) (q : Nat) (x0 x1 x2 x3 : UInt32) (hq : q < L.length) (h0 : L.getD q 0 = 0) :
    ((((L.set q (L.getD q 0 ||| x0)).set q ((L.set q (L.getD q 0 ||| x0)).getD q 0 ||| x1)).set q (((L.set q (L.getD q 0 ||| x0)).set q ((L.set q (L.getD q 0 ||| x0)).getD q 0 ||| x1)).getD q 0 ||| x2)).set q
      ((((L.set q (L.getD q 0 ||| x0)).set q ((L.set q (L.getD q 0 ||| x0)).getD q 0 ||| x1)).set q (((L.set q (L.getD q 0 ||| x0)).set q ((L.set q (L.getD q 0 ||| x0)).getD q 0 ||| x1)).getD q 0 ||| x2)).getD q 0 ||| x3))
      = L.set q ((((0 ||| x0) ||| x1) ||| x2) ||| x3) := by
  have g : ∀ (M : List UInt32) (v : UInt32), q < M.length → (M.set q v).getD q 0 = v := fun M v h => by simp [List.getD_eq_getElem?_getD, h]
  simp only [List.set_set, h0]
  rw [g L _ hq, g L _ hq, g L _ hq]

def oneL (p : Nat) (b : List UInt8) (M : List UInt32) (k : Nat) : List UInt32 := M.set (p + k / 4) (M.getD (p + k / 4) 0 ||| (b.getD k 0).toUInt32 <<< (UInt32.ofNat (8 * (k % 4))))
theorem oneL_four (p : Nat) (b : List UInt8) (M : List UInt32) (i : Nat) (hq : p + i < M.length) (h0 : M.getD (p + i) 0 = 0) : oneL p b (oneL p b (oneL p b (oneL p b M (4 * i)) (4 * i + 1)) (4 * i + 2)) (4 * i + 3) = M.set (p + i) (wordL b i) := by
  unfold oneL
  rw [show (4 * i + 3) / 4 = i by omega, show (4 * i + 2) / 4 = i by omega, show (4 * i + 1) / 4 = i by omega, show (4 * i) / 4 = i by omega,
    show (4 * i + 3) % 4 = 3 by omega, show (4 * i + 2) % 4 = 2 by omega, show (4 * i + 1) % 4 = 1 by omega, show (4 * i) % 4 = 0 by omega]
  have o0 : UInt32.ofNat (8 * 0) = 0 := rfl
  have o1 : UInt32.ofNat (8 * 1) = 8 := rfl
  have o2 : UInt32.ofNat (8 * 2) = 16 := rfl
  have o3 : UInt32.ofNat (8 * 3) = 24 := rfl
  rw [o0, o1, o2, o3]
  obtain ⟨x0, h0'⟩ : ∃ x, x = b.getD (4 * i) 0 := ⟨_, rfl⟩
  obtain ⟨x1, h1'⟩ : ∃ x, x = b.getD (4 * i + 1) 0 := ⟨_, rfl⟩
  obtain ⟨x2, h2'⟩ : ∃ x, x = b.getD (4 * i + 2) 0 := ⟨_, rfl⟩
  obtain ⟨x3, h3'⟩ : ∃ x, x = b.getD (4 * i + 3) 0 := ⟨_, rfl⟩
  rw [wordL, ← h0', ← h1', ← h2', ← h3', ← or4 x0 x1 x2 x3]
  exact set4 M (p + i) _ _ _ _ hq h0
theorem loadK_word (l : List UInt32) (p : Nat) (b : List UInt8) (i : Nat) (hp : p + i ≤ l.length) (hz : ∀ j, j < i → l.getD (p + j) 0 = 0) : loadK l p b (4 * i) = wordK l p b i ∧ ∀ j, i ≤ j → (wordK l p b i).getD (p + j) 0 = l.getD (p + j) 0 := by
  induction i with
  | zero => exact ⟨rfl, fun j _ => rfl⟩
  | succ i ih =>
    obtain ⟨ih1, ih2⟩ := ih (by omega) (fun j hj => hz j (by omega))
    refine ⟨?_, fun j hj => ?_⟩
    · have e : loadK l p b (4 * (i + 1)) = oneL p b (oneL p b (oneL p b (oneL p b (loadK l p b (4 * i)) (4 * i)) (4 * i + 1)) (4 * i + 2)) (4 * i + 3) := rfl
      rw [e, ih1, oneL_four _ _ _ _ (by rw [wordK_length]; omega) (by rw [ih2 i (Nat.le_refl _)]; exact hz i (by omega)), wordK]
    · rw [wordK, ← ih2 j (by omega)]
      simp only [List.getD_eq_getElem?_getD]
      rw [List.getElem?_set_ne (by omega)]
theorem headL_zero (j : Nat) (h4 : 4 ≤ j) : headL.getD j 0 = 0 := by
  by_cases h : j < 16
  · have : ∀ j, j < 16 → 4 ≤ j → headL.getD j 0 = 0 := by decide
    exact this j h h4
  · simp [List.getD_eq_getElem?_getD, headL]
    rw [List.getElem?_eq_none (by simp; omega)]
    rfl
theorem wordK_set (l : List UInt32) (p : Nat) (b : List UInt8) (i q : Nat) (x : UInt32) (hq : q < p) : wordK (l.set q x) p b i = (wordK l p b i).set q x := by
  induction i with
  | zero => rfl
  | succ i ih => rw [wordK, wordK, ih, List.set_comm _ _ (by omega)]
theorem refInit_eq (k n : List UInt8) (count : UInt32) : refInit k n count = initL k n count := by
  have h1 := (loadK_word headL 4 k 8 (by simp [headL]) (fun j _ => headL_zero _ (by omega)))
  have h2 := (loadK_word (wordK headL 4 k 8) 13 n 3 (by rw [wordK_length]; simp [headL]) (fun j hj => by
    have := h1.2 (9 + j) (by omega)
    rw [show 4 + (9 + j) = 13 + j by omega] at this
    rw [this]
    exact headL_zero _ (by omega)))
  rw [refInit, initL, wordK_set _ _ _ _ _ _ (by omega), ← h2.1, ← h1.1]
theorem dblK_eight (l : List UInt32) : dblK l 8 = quarterL (quarterL (quarterL (quarterL (quarterL (quarterL (quarterL (quarterL l 0 4 8 12) 1 5 9 13) 2 6 10 14) 3 7 11 15) 0 5 10 15) 1 6 11 12) 2 7 8 13) 3 4 9 14 := rfl
end Go.Proofs.Ytldjiigkebkgcaa

/- The document's block is the program's. -/
namespace Go.Proofs.Ytldjiigkebkgcaa
set_option linter.unusedVariables false
set_option linter.unusedSimpArgs false
open Go.RowKit
attribute [local go_sem ↓] Go.wp_at_zero Go.wp_at_succ

/-- The call's own variables: the answer's, the starting words. -/
structure RkbW (w : World) (s : List UInt32) (W : World) : Prop where
  bz : W.heap[w.heap.size]? = some (.cells (W8 (List.replicate 64 0)) 94 (0, 0))
  bs : W.heap[w.heap.size + 1]? = some (.cells (W32 s) 105 (0, 0))
  bel : Below w.heap.size w W
theorem RkbW.lt {w W : World} {s : List UInt32} (h : RkbW w s W) : w.heap.size + 1 < W.heap.size := row_lt h.bs
theorem RkbW.set {w W : World} {s : List UInt32} (h : RkbW w s W) (i : Nat) (x : UInt32) : RkbW w (s.set i x) (W.setCell ⟨w.heap.size + 1, i, none⟩ (.int .u32 (x.toNat : Int))) where
  bz := grown_block (grown_set (World.grownBy.refl _ _) _ _) (by simp) h.bz
  bs := by rw [heap_setCell_same _ _ _ _ _ _ h.bs, W32_set]
  bel := h.bel.trans (grown_below (grown_set (World.grownBy.refl W (some (w.heap.size + 1))) _ _) (Nat.le_of_lt (row_lt h.bz)) (by rintro g ⟨⟩; omega))
theorem RkbW.grown {w W W' : World} {s : List UInt32} {M : Nat} (h : RkbW w s W) (h' : W.grownBy W' (some M)) (hM : w.heap.size + 1 < M) : RkbW w s W' where
  bz := grown_block h' (by simp; omega) h.bz
  bs := grown_block h' (by simp; omega) h.bs
  bel := h.bel.trans (grown_below h' (Nat.le_of_lt (row_lt h.bz)) (by rintro g ⟨⟩; omega))
theorem RkbW.keep {w W W' : World} {s : List UInt32} (h : RkbW w s W) (h' : Below W.heap.size W W') : RkbW w s W' where
  bz := below_block h' (row_lt h.bz) h.bz
  bs := below_block h' (row_lt h.bs) h.bs
  bel := h.bel.trans (h'.mono (Nat.le_of_lt (row_lt h.bz)))
theorem rb_start (w : World) : RkbW w headL ((w.alloc (.cells (W8 (List.replicate 64 0)) 94)).alloc (.cells (W32 headL) 105)) where
  bz := ha_old _ _ _ (by simp) (ha_new _ _ _ rfl)
  bs := ha_new _ _ _ (by simp)
  bel := ((Below.refl _ _).alloc (Nat.le_refl _) _).alloc (by simp) _
theorem dblN_succ (s : List UInt32) (j : Nat) : dblN s (j + 1) = quarterL (quarterL (quarterL (quarterL (quarterL (quarterL (quarterL (quarterL (dblN s j) 0 4 8 12) 1 5 9 13) 2 6 10 14) 3 7 11 15) 0 5 10 15) 1 6 11 12) 2 7 8 13) 3 4 9 14 := rfl

set_option maxRecDepth 100000 in
set_option maxHeartbeats 4000000 in
theorem refBlock_any (k n : List UInt8) (hk : k.length = 32) (hn : n.length = 12) (count : UInt32) (w : World) :
    Calls Try.prog 64 #[.string (strB k), .string (strB n), .int .u32 (count.toNat : Int)] w fun e w' => e = .returned (.agg (W8 (blockL k n count))) ∧ Below w.heap.size w w' := by
  have HK := Lib.hid hk
  have HN := Lib.hid hn
  have ZH := Lib.hid (show (Try.prog.info? 105).map (·.size) = some (W32 headL).size by kernel_rfl)
  clear hk hn
  go_enter Try.func64, Try.ntmps64
  go_wp2_with (refine wpList_store_new rfl rfl 105 (.tmp 7) (.tmp 14) rfl (W32 headL) rfl rfl ZH.out rfl (W32_one _) ?_)
  refine wp_abs (fun W => RkbW w headL W) (rb_start w) ?_
  intro w1 H1'
  have H1 := Lib.hid H1'
  have L1 := Lib.hid (H1'.lt)
  clear H1'
  go_loopw [8] (fun i wr => ∃ j : Nat, j ≤ 8 ∧ i = .int .i64 (j : Int) ∧ RkbW w (wordK headL 4 k j) wr) (fun i _ => 8 - (intOf i).toNat)
  case atStart => exact ⟨0, by omega, rfl, H1.out⟩
  case round =>
    obtain ⟨j, hj, rfl, H2'⟩ := hrel
    have H2 := Lib.hid H2'
    clear H2' H1 L1 w1
    by_cases hlt : j < 8
    · have hD : decide ((j : Int) < 8) = true := by simp; omega
      go_wp2_with fail
      refine (word_any k j _ (by rw [HK.out]; omega) (by omega)).mono ?_
      rintro e w3 ⟨rfl, rfl⟩
      have a1 := row_cell H2.out.bs (4 + j) (W32_get _ _ (by rw [wordK_length]; simp [headL]; omega))
      have a2 := row_free H2.out.bs (4 + j)
      have b1 : (4 + (j : Int)) < 16 := by omega
      obtain ⟨x, hx⟩ : ∃ x, x = wordL k j := ⟨_, rfl⟩
      rw [← hx]
      have HX := Lib.hid hx
      clear hx
      replace a1 : wr.drew.cell? ⟨w.heap.size + 1, 4 + j, none⟩ = _ := a1
      replace a2 : wr.drew.frozen? ⟨w.heap.size + 1, 4 + j, none⟩ = _ := a2
      have H3 : Hid (RkbW w (wordK headL 4 k j) wr.drew) := H2.out.keep ((Below.refl _ _).drew)
      obtain ⟨w4, hw4⟩ : ∃ w4, w4 = wr.drew := ⟨_, rfl⟩
      rw [← hw4] at a1 a2 H3 ⊢
      clear hw4
      go_wp2_with fail
      go_roundw
      case rel =>
        refine ⟨j + 1, by omega, by go_num, ?_⟩
        rw [wordK, ← HX.out]
        exact H3.out.set (4 + j) x
      case measure => simp [intOf]; omega
    · have hj8 : Hid (j = 8) := show j = 8 by omega
      have hD : decide ((j : Int) < 8) = false := by simp; omega
      have a2 := row_free H2.out.bs 12
      have a1 := row_cell H2.out.bs 12 (W32_get _ _ (by rw [wordK_length]; simp [headL]))
      go_upto_region 7 with fail
      refine wp_abs (fun W => RkbW w ((wordK headL 4 k 8).set 12 count) W) (by rw [hj8.out] at H2; exact H2.out.set 12 count) ?_
      clear a1 a2 H2 hD hj hlt wr
      intro w1 H1'
      have H1 := Lib.hid H1'
      clear H1'
      obtain ⟨s0, hs0⟩ : ∃ s, s = (wordK headL 4 k 8).set 12 count := ⟨_, rfl⟩
      rw [← hs0] at H1
      have S0 := Lib.hid hs0
      have SL := Lib.hid (show s0.length = 16 by rw [hs0]; simp [wordK_length, headL])
      clear hs0
      go_wp2_with fail
      go_loopw [9] (fun i wr => ∃ j : Nat, j ≤ 3 ∧ i = .int .i64 (j : Int) ∧ RkbW w (wordK s0 13 n j) wr) (fun i _ => 3 - (intOf i).toNat)
      case atStart => exact ⟨0, by omega, rfl, H1.out⟩
      case round =>
        obtain ⟨j, hj, rfl, H2'⟩ := hrel
        have H2 := Lib.hid H2'
        clear H2' H1 w1
        by_cases hlt : j < 3
        · have hD : decide ((j : Int) < 3) = true := by simp; omega
          go_wp2_with fail
          refine (word_any n j _ (by rw [HN.out]; omega) (by omega)).mono ?_
          rintro e w3 ⟨rfl, rfl⟩
          have a1 := row_cell H2.out.bs (13 + j) (W32_get _ _ (by rw [wordK_length, SL.out]; omega))
          have a2 := row_free H2.out.bs (13 + j)
          have b1 : (13 + (j : Int)) < 16 := by omega
          obtain ⟨x, hx⟩ : ∃ x, x = wordL n j := ⟨_, rfl⟩
          rw [← hx]
          have HX := Lib.hid hx
          clear hx
          replace a1 : wr.drew.cell? ⟨w.heap.size + 1, 13 + j, none⟩ = _ := a1
          replace a2 : wr.drew.frozen? ⟨w.heap.size + 1, 13 + j, none⟩ = _ := a2
          have H3 : Hid (RkbW w (wordK s0 13 n j) wr.drew) := H2.out.keep ((Below.refl _ _).drew)
          obtain ⟨w4, hw4⟩ : ∃ w4, w4 = wr.drew := ⟨_, rfl⟩
          rw [← hw4] at a1 a2 H3 ⊢
          clear hw4
          go_wp2_with fail
          go_roundw
          case rel =>
            refine ⟨j + 1, by omega, by go_num, ?_⟩
            rw [wordK, ← HX.out]
            exact H3.out.set (13 + j) x
          case measure => simp [intOf]; omega
        · have hj3 : Hid (j = 3) := show j = 3 by omega
          have hD : decide ((j : Int) < 3) = false := by simp; omega
          obtain ⟨s, hs⟩ : ∃ s, s = initL k n count := ⟨_, rfl⟩
          have ES := Lib.hid hs
          have H3 : Hid (RkbW w s wr) := by
            have := H2.out
            rw [hj3.out, S0.out] at this
            show RkbW w s wr
            rw [hs, ← refInit_eq]
            exact this
          have HS := Lib.hid (show s.length = 16 by rw [hs, initL_length])
          have Z := Lib.hid (show (Try.prog.info? 105).map (·.size) = some (W32 s).size by rw [W32_size, HS.out]; kernel_rfl)
          clear hs H2 S0 SL
          go_upto_region 12 with (first
            | (refine wpList_load_row rfl 105 (.tmp 7) rfl (w.heap.size + 1) rfl 105 (W32 s) (0, 0) _ H3.out.bs Try.underlying105 rfl Z.out ?_)
            | (refine wpList_store_new rfl rfl 105 (.tmp 10) (.tmp 37) rfl (W32 s) rfl rfl Z.out (by rw [W32_size, HS.out]; rfl) (W32_one _) ?_))
          clear Z hD hj hlt
          obtain ⟨M, hM⟩ : ∃ M, M = wr.heap.size := ⟨_, rfl⟩
          have hMl : w.heap.size + 1 < M := by rw [hM]; exact H3.out.lt
          refine wp_abs (fun W => RkbW w s W ∧ W.heap[M]? = some (.cells (W32 s) 105 (0, 0))) ⟨H3.out.keep ((Below.refl _ _).alloc (Nat.le_refl _) _), ha_new _ _ _ hM⟩ ?_
          rw [← hM]
          clear hM
          have HM := Lib.hid hMl
          clear hMl
          rintro w4 ⟨H4', S4'⟩
          have H4 := Lib.hid H4'
          have S4 := Lib.hid S4'
          clear H4' S4' H3 wr
          go_wp2_with fail
          go_loopw [11] (fun i wr => ∃ j : Nat, j ≤ 10 ∧ i = .int .i64 (j : Int) ∧ RkbW w s wr ∧ wr.heap[M]? = some (.cells (W32 (dblN s j)) 105 (0, 0))) (fun i _ => 10 - (intOf i).toNat)
          case atStart => exact ⟨0, by omega, rfl, H4.out, S4.out⟩
          case round =>
            obtain ⟨j, hj, rfl, H5', S5'⟩ := hrel
            have H5 := Lib.hid H5'
            have S5 := Lib.hid S5'
            clear H5' S5' H4 S4 w4
            by_cases hlt : j < 10
            · have hD : decide ((j : Int) < 10) = true := by simp; omega
              obtain ⟨v0, hv0⟩ : ∃ v, v = dblN s j := ⟨_, rfl⟩
              have V0 := Lib.hid hv0
              rw [← hv0] at S5
              have N0 := Lib.hid (show v0.length = 16 by rw [hv0, dblN_length, HS.out])
              clear hv0
              obtain ⟨wr0, hwr0⟩ : ∃ wr0, wr0 = wr := ⟨_, rfl⟩
              rw [← hwr0] at H5 S5 ⊢
              clear hwr0
              have Z0 := Lib.hid (show (Try.prog.info? 105).map (·.size) = some (W32 v0).size by rw [W32_size, N0.out]; kernel_rfl)
              go_wp2_with (refine wpList_load_row rfl 105 (.tmp 10) rfl M rfl 105 (W32 v0) (0, 0) _ S5.out Try.underlying105 rfl Z0.out ?_)
              refine (refQuarter_any v0 N0.out _ 0 4 8 12 (by omega) (by omega) (by omega) (by omega)).mono ?_
              rintro e w0' ⟨rfl, hb0⟩
              obtain ⟨v1, hv1⟩ : ∃ v, v = quarterL v0 0 4 8 12 := ⟨_, rfl⟩
              rw [← hv1]
              have V1 := Lib.hid hv1
              have N1 := Lib.hid (show v1.length = 16 by rw [hv1, quarterL_length]; exact N0.out)
              have Y0 := Lib.hid (show (Try.prog.info? 105).map (·.size) = some (W32 v1).size by rw [W32_size, N1.out]; kernel_rfl)
              have T0 := Lib.hid (below_block hb0 (row_lt S5.out) S5.out)
              have G0 := Lib.hid (H5.out.keep hb0)
              clear hv1 hb0 H5 S5 Z0 wr0
              go_upto_region 16 with (refine wpList_store_whole rfl rfl 105 (.tmp 10) (.tmp 43) rfl M (W32 v1) rfl rfl 105 (W32 v0) T0.out Y0.out (by rw [W32_size, W32_size, N0.out, N1.out]) (W32_one _) ?_; intro wr1 hg0 hgr0 hs0)
              have I1 := Lib.hid (G0.out.grown hgr0 HM.out)
              have R1 := Lib.hid hg0
              clear hg0 hgr0 hs0 G0 T0 Y0 w0' 
              have Z1 := Lib.hid (show (Try.prog.info? 105).map (·.size) = some (W32 v1).size by rw [W32_size, N1.out]; kernel_rfl)
              go_wp2_with (refine wpList_load_row rfl 105 (.tmp 10) rfl M rfl 105 (W32 v1) (0, 0) _ R1.out Try.underlying105 rfl Z1.out ?_)
              refine (refQuarter_any v1 N1.out _ 1 5 9 13 (by omega) (by omega) (by omega) (by omega)).mono ?_
              rintro e w1' ⟨rfl, hb1⟩
              obtain ⟨v2, hv2⟩ : ∃ v, v = quarterL v1 1 5 9 13 := ⟨_, rfl⟩
              rw [← hv2]
              have V2 := Lib.hid hv2
              have N2 := Lib.hid (show v2.length = 16 by rw [hv2, quarterL_length]; exact N1.out)
              have Y1 := Lib.hid (show (Try.prog.info? 105).map (·.size) = some (W32 v2).size by rw [W32_size, N2.out]; kernel_rfl)
              have T1 := Lib.hid (below_block hb1 (row_lt R1.out) R1.out)
              have G1 := Lib.hid (I1.out.keep hb1)
              clear hv2 hb1 I1 R1 Z1 wr1
              go_upto_region 17 with (refine wpList_store_whole rfl rfl 105 (.tmp 10) (.tmp 45) rfl M (W32 v2) rfl rfl 105 (W32 v1) T1.out Y1.out (by rw [W32_size, W32_size, N1.out, N2.out]) (W32_one _) ?_; intro wr2 hg1 hgr1 hs1)
              have I2 := Lib.hid (G1.out.grown hgr1 HM.out)
              have R2 := Lib.hid hg1
              clear hg1 hgr1 hs1 G1 T1 Y1 w1' 
              have Z2 := Lib.hid (show (Try.prog.info? 105).map (·.size) = some (W32 v2).size by rw [W32_size, N2.out]; kernel_rfl)
              go_wp2_with (refine wpList_load_row rfl 105 (.tmp 10) rfl M rfl 105 (W32 v2) (0, 0) _ R2.out Try.underlying105 rfl Z2.out ?_)
              refine (refQuarter_any v2 N2.out _ 2 6 10 14 (by omega) (by omega) (by omega) (by omega)).mono ?_
              rintro e w2' ⟨rfl, hb2⟩
              obtain ⟨v3, hv3⟩ : ∃ v, v = quarterL v2 2 6 10 14 := ⟨_, rfl⟩
              rw [← hv3]
              have V3 := Lib.hid hv3
              have N3 := Lib.hid (show v3.length = 16 by rw [hv3, quarterL_length]; exact N2.out)
              have Y2 := Lib.hid (show (Try.prog.info? 105).map (·.size) = some (W32 v3).size by rw [W32_size, N3.out]; kernel_rfl)
              have T2 := Lib.hid (below_block hb2 (row_lt R2.out) R2.out)
              have G2 := Lib.hid (I2.out.keep hb2)
              clear hv3 hb2 I2 R2 Z2 wr2
              go_upto_region 18 with (refine wpList_store_whole rfl rfl 105 (.tmp 10) (.tmp 47) rfl M (W32 v3) rfl rfl 105 (W32 v2) T2.out Y2.out (by rw [W32_size, W32_size, N2.out, N3.out]) (W32_one _) ?_; intro wr3 hg2 hgr2 hs2)
              have I3 := Lib.hid (G2.out.grown hgr2 HM.out)
              have R3 := Lib.hid hg2
              clear hg2 hgr2 hs2 G2 T2 Y2 w2' 
              have Z3 := Lib.hid (show (Try.prog.info? 105).map (·.size) = some (W32 v3).size by rw [W32_size, N3.out]; kernel_rfl)
              go_wp2_with (refine wpList_load_row rfl 105 (.tmp 10) rfl M rfl 105 (W32 v3) (0, 0) _ R3.out Try.underlying105 rfl Z3.out ?_)
              refine (refQuarter_any v3 N3.out _ 3 7 11 15 (by omega) (by omega) (by omega) (by omega)).mono ?_
              rintro e w3' ⟨rfl, hb3⟩
              obtain ⟨v4, hv4⟩ : ∃ v, v = quarterL v3 3 7 11 15 := ⟨_, rfl⟩
              rw [← hv4]
              have V4 := Lib.hid hv4
              have N4 := Lib.hid (show v4.length = 16 by rw [hv4, quarterL_length]; exact N3.out)
              have Y3 := Lib.hid (show (Try.prog.info? 105).map (·.size) = some (W32 v4).size by rw [W32_size, N4.out]; kernel_rfl)
              have T3 := Lib.hid (below_block hb3 (row_lt R3.out) R3.out)
              have G3 := Lib.hid (I3.out.keep hb3)
              clear hv4 hb3 I3 R3 Z3 wr3
              go_upto_region 19 with (refine wpList_store_whole rfl rfl 105 (.tmp 10) (.tmp 49) rfl M (W32 v4) rfl rfl 105 (W32 v3) T3.out Y3.out (by rw [W32_size, W32_size, N3.out, N4.out]) (W32_one _) ?_; intro wr4 hg3 hgr3 hs3)
              have I4 := Lib.hid (G3.out.grown hgr3 HM.out)
              have R4 := Lib.hid hg3
              clear hg3 hgr3 hs3 G3 T3 Y3 w3' 
              have Z4 := Lib.hid (show (Try.prog.info? 105).map (·.size) = some (W32 v4).size by rw [W32_size, N4.out]; kernel_rfl)
              go_wp2_with (refine wpList_load_row rfl 105 (.tmp 10) rfl M rfl 105 (W32 v4) (0, 0) _ R4.out Try.underlying105 rfl Z4.out ?_)
              refine (refQuarter_any v4 N4.out _ 0 5 10 15 (by omega) (by omega) (by omega) (by omega)).mono ?_
              rintro e w4' ⟨rfl, hb4⟩
              obtain ⟨v5, hv5⟩ : ∃ v, v = quarterL v4 0 5 10 15 := ⟨_, rfl⟩
              rw [← hv5]
              have V5 := Lib.hid hv5
              have N5 := Lib.hid (show v5.length = 16 by rw [hv5, quarterL_length]; exact N4.out)
              have Y4 := Lib.hid (show (Try.prog.info? 105).map (·.size) = some (W32 v5).size by rw [W32_size, N5.out]; kernel_rfl)
              have T4 := Lib.hid (below_block hb4 (row_lt R4.out) R4.out)
              have G4 := Lib.hid (I4.out.keep hb4)
              clear hv5 hb4 I4 R4 Z4 wr4
              go_upto_region 20 with (refine wpList_store_whole rfl rfl 105 (.tmp 10) (.tmp 51) rfl M (W32 v5) rfl rfl 105 (W32 v4) T4.out Y4.out (by rw [W32_size, W32_size, N4.out, N5.out]) (W32_one _) ?_; intro wr5 hg4 hgr4 hs4)
              have I5 := Lib.hid (G4.out.grown hgr4 HM.out)
              have R5 := Lib.hid hg4
              clear hg4 hgr4 hs4 G4 T4 Y4 w4' 
              have Z5 := Lib.hid (show (Try.prog.info? 105).map (·.size) = some (W32 v5).size by rw [W32_size, N5.out]; kernel_rfl)
              go_wp2_with (refine wpList_load_row rfl 105 (.tmp 10) rfl M rfl 105 (W32 v5) (0, 0) _ R5.out Try.underlying105 rfl Z5.out ?_)
              refine (refQuarter_any v5 N5.out _ 1 6 11 12 (by omega) (by omega) (by omega) (by omega)).mono ?_
              rintro e w5' ⟨rfl, hb5⟩
              obtain ⟨v6, hv6⟩ : ∃ v, v = quarterL v5 1 6 11 12 := ⟨_, rfl⟩
              rw [← hv6]
              have V6 := Lib.hid hv6
              have N6 := Lib.hid (show v6.length = 16 by rw [hv6, quarterL_length]; exact N5.out)
              have Y5 := Lib.hid (show (Try.prog.info? 105).map (·.size) = some (W32 v6).size by rw [W32_size, N6.out]; kernel_rfl)
              have T5 := Lib.hid (below_block hb5 (row_lt R5.out) R5.out)
              have G5 := Lib.hid (I5.out.keep hb5)
              clear hv6 hb5 I5 R5 Z5 wr5
              go_upto_region 21 with (refine wpList_store_whole rfl rfl 105 (.tmp 10) (.tmp 53) rfl M (W32 v6) rfl rfl 105 (W32 v5) T5.out Y5.out (by rw [W32_size, W32_size, N5.out, N6.out]) (W32_one _) ?_; intro wr6 hg5 hgr5 hs5)
              have I6 := Lib.hid (G5.out.grown hgr5 HM.out)
              have R6 := Lib.hid hg5
              clear hg5 hgr5 hs5 G5 T5 Y5 w5' 
              have Z6 := Lib.hid (show (Try.prog.info? 105).map (·.size) = some (W32 v6).size by rw [W32_size, N6.out]; kernel_rfl)
              go_wp2_with (refine wpList_load_row rfl 105 (.tmp 10) rfl M rfl 105 (W32 v6) (0, 0) _ R6.out Try.underlying105 rfl Z6.out ?_)
              refine (refQuarter_any v6 N6.out _ 2 7 8 13 (by omega) (by omega) (by omega) (by omega)).mono ?_
              rintro e w6' ⟨rfl, hb6⟩
              obtain ⟨v7, hv7⟩ : ∃ v, v = quarterL v6 2 7 8 13 := ⟨_, rfl⟩
              rw [← hv7]
              have V7 := Lib.hid hv7
              have N7 := Lib.hid (show v7.length = 16 by rw [hv7, quarterL_length]; exact N6.out)
              have Y6 := Lib.hid (show (Try.prog.info? 105).map (·.size) = some (W32 v7).size by rw [W32_size, N7.out]; kernel_rfl)
              have T6 := Lib.hid (below_block hb6 (row_lt R6.out) R6.out)
              have G6 := Lib.hid (I6.out.keep hb6)
              clear hv7 hb6 I6 R6 Z6 wr6
              go_upto_region 22 with (refine wpList_store_whole rfl rfl 105 (.tmp 10) (.tmp 55) rfl M (W32 v7) rfl rfl 105 (W32 v6) T6.out Y6.out (by rw [W32_size, W32_size, N6.out, N7.out]) (W32_one _) ?_; intro wr7 hg6 hgr6 hs6)
              have I7 := Lib.hid (G6.out.grown hgr6 HM.out)
              have R7 := Lib.hid hg6
              clear hg6 hgr6 hs6 G6 T6 Y6 w6' 
              have Z7 := Lib.hid (show (Try.prog.info? 105).map (·.size) = some (W32 v7).size by rw [W32_size, N7.out]; kernel_rfl)
              go_wp2_with (refine wpList_load_row rfl 105 (.tmp 10) rfl M rfl 105 (W32 v7) (0, 0) _ R7.out Try.underlying105 rfl Z7.out ?_)
              refine (refQuarter_any v7 N7.out _ 3 4 9 14 (by omega) (by omega) (by omega) (by omega)).mono ?_
              rintro e w7' ⟨rfl, hb7⟩
              obtain ⟨v8, hv8⟩ : ∃ v, v = quarterL v7 3 4 9 14 := ⟨_, rfl⟩
              rw [← hv8]
              have V8 := Lib.hid hv8
              have N8 := Lib.hid (show v8.length = 16 by rw [hv8, quarterL_length]; exact N7.out)
              have Y7 := Lib.hid (show (Try.prog.info? 105).map (·.size) = some (W32 v8).size by rw [W32_size, N8.out]; kernel_rfl)
              have T7 := Lib.hid (below_block hb7 (row_lt R7.out) R7.out)
              have G7 := Lib.hid (I7.out.keep hb7)
              clear hv8 hb7 I7 R7 Z7 wr7
              go_upto_region 14 with (refine wpList_store_whole rfl rfl 105 (.tmp 10) (.tmp 57) rfl M (W32 v8) rfl rfl 105 (W32 v7) T7.out Y7.out (by rw [W32_size, W32_size, N7.out, N8.out]) (W32_one _) ?_; intro wr8 hg7 hgr7 hs7)
              have I8 := Lib.hid (G7.out.grown hgr7 HM.out)
              have R8 := Lib.hid hg7
              clear hg7 hgr7 hs7 G7 T7 Y7 w7' 
              go_wp2_with fail
              go_roundw
              case rel =>
                refine ⟨j + 1, by omega, by go_num, I8.out, ?_⟩
                rw [dblN_succ, ← V0.out, ← V1.out, ← V2.out, ← V3.out, ← V4.out, ← V5.out, ← V6.out, ← V7.out, ← V8.out]
                exact R8.out
              case measure => simp [intOf]; omega
            · have hj10 : Hid (j = 10) := show j = 10 by omega
              have hD : decide ((j : Int) < 10) = false := by simp; omega
              go_upto_region 24 with fail
              obtain ⟨O, hO⟩ : ∃ O, O = wr.heap.size := ⟨_, rfl⟩
              have hMO : M < O := by rw [hO]; exact row_lt S5.out
              refine wp_abs (fun W => RkbW w s W ∧ W.heap[M]? = some (.cells (W32 (dblN s 10)) 105 (0, 0)) ∧ W.heap[O]? = some (.cells (W8 (outK (dblN s 10) s 0)) 94 (0, 0)))
                ⟨H5.out.keep ((Below.refl _ _).alloc (Nat.le_refl _) _), ha_old _ _ _ (row_lt S5.out) (by rw [hj10.out] at S5; exact S5.out), ha_new _ _ _ hO⟩ ?_
              rw [← hO]
              have HO := Lib.hid hMO
              clear hO hMO hD hlt hj
              rintro w6 ⟨H6', S6', O6'⟩
              have H6 := Lib.hid H6'
              have S6 := Lib.hid S6'
              have O6 := Lib.hid O6'
              clear H6' S6' O6' H5 S5 wr
              generalize hv : dblN s 10 = v at S6 O6
              have HV := Lib.hid (show v.length = 16 by rw [← hv, dblN_length, HS.out])
              have EV := Lib.hid hv
              clear hv
              go_wp2_with fail
              go_loopw [13] (fun i wr => ∃ j : Nat, j ≤ 64 ∧ i = .int .i64 (j : Int) ∧ RkbW w s wr ∧ wr.heap[M]? = some (.cells (W32 v) 105 (0, 0)) ∧ wr.heap[O]? = some (.cells (W8 (outK v s j)) 94 (0, 0))) (fun i _ => 64 - (intOf i).toNat)
              case atStart => exact ⟨0, by omega, rfl, H6.out, S6.out, O6.out⟩
              case round =>
                obtain ⟨j, hj, rfl, H7', S7', O7'⟩ := hrel
                have H7 := Lib.hid H7'
                have S7 := Lib.hid S7'
                have O7 := Lib.hid O7'
                clear H7' S7' O7' H6 S6 O6 w6
                by_cases hlt : j < 64
                · have a1 := row_cell S7.out (j / 4) (W32_get _ _ (by rw [HV.out]; omega))
                  have a2 := row_cell H7.out.bs (j / 4) (W32_get _ _ (by rw [HS.out]; omega))
                  obtain ⟨x, hx⟩ : ∃ x, x = v.getD (j / 4) 0 := ⟨_, rfl⟩
                  obtain ⟨y, hy⟩ : ∃ y, y = s.getD (j / 4) 0 := ⟨_, rfl⟩
                  rw [← hx] at a1
                  rw [← hy] at a2
                  have HX := Lib.hid hx
                  have HY := Lib.hid hy
                  clear hx hy
                  have a3 := row_cell O7.out j (W8_get _ j (by rw [outK_length]; exact hlt))
                  have a4 := row_free O7.out j
                  obtain ⟨z, hz, e1⟩ := sum_ex x y
                  obtain ⟨q, hq, e2⟩ := byte_ex z (8 * (j % 4)) (by omega)
                  have hD : decide ((j : Int) < 64) = true := by simp; omega
                  go_wp2_with fail
                  have b0 : (j : Int) < 64 := by omega
                  have b1 : (0 : Int) ≤ (j : Int) / 4 := by omega
                  have b2 : (j : Int) / 4 < 16 := by omega
                  have b3 : (0 : Int) ≤ 8 * ((j : Int) % 4) := by omega
                  have e3 : IntKind.i64.wrap ((j : Int) / 4) = (j : Int) / 4 := IntWalk.i64_in _ (by omega)
                  have e4 : ((j : Int) / 4).toNat = j / 4 := by omega
                  have e5 : (j : Int).tmod 4 = (j : Int) % 4 := Int.tmod_eq_emod_of_nonneg (by omega)
                  have e6 : IntKind.i64.wrap ((j : Int) % 4) = (j : Int) % 4 := IntWalk.i64_in _ (by omega)
                  have e7 : IntKind.i64.wrap (8 * ((j : Int) % 4)) = 8 * ((j : Int) % 4) := IntWalk.i64_in _ (by omega)
                  have e8 : (8 * ((j : Int) % 4)).toNat = 8 * (j % 4) := by omega
                  have e9 : IntKind.u64.wrap (8 * ((j : Int) % 4)) = 8 * ((j : Int) % 4) := by rw [IntKind.wrap_u64]; omega
                  go_still_tail 17, (by kernel_rfl)
                  clear e1 e2 e3 e4 e5 e6 e7 e8 e9
                  change wpList _ _ _ _ _ wr.drew
                  go_wp2_with fail
                  go_roundw
                  case rel =>
                    refine ⟨j + 1, by omega, by go_num, ?_⟩
                    have G : wr.grownBy ((wr.setCell ⟨O, j, none⟩ (.int .u8 (q.toNat : Int))).drew) (some O) := grown_drew (grown_set (World.grownBy.refl _ _) _ _)
                    refine ⟨H7.out.grown G (by have := HM.out; have := HO.out; omega), grown_block G (by have := HO.out; simp; omega) S7.out, ?_⟩
                    show (wr.setCell ⟨O, j, none⟩ (.int .u8 (q.toNat : Int))).heap[O]? = _
                    rw [heap_setCell_same _ _ _ _ _ _ O7.out, W8_set, outK, byteOf, ← HX.out, ← HY.out, ← hz.out, ← hq.out]
                  case measure => simp [intOf]; omega
                · have hj64 : Hid (j = 64) := show j = 64 by omega
                  have hD : decide ((j : Int) < 64) = false := by simp; omega
                  have Z8 := Lib.hid (show (Try.prog.info? 94).map (·.size) = some (W8 (outK v s j)).size by rw [W8_size, outK_length]; kernel_rfl)
                  have Z9 := Lib.hid (show (W8 (List.replicate 64 0)).size = (W8 (outK v s j)).size by rw [W8_size, W8_size, outK_length]; rfl)
                  clear hlt hj
                  go_wp2_with (first
                    | (refine wpList_load_row rfl 94 (.tmp 12) rfl O rfl 94 (W8 (outK v s j)) (0, 0) _ O7.out Try.underlying94 rfl Z8.out ?_)
                    | (refine wpList_store_whole rfl rfl 94 (.tmp 6) (.tmp 79) rfl w.heap.size (W8 (outK v s j)) rfl rfl 94 _ H7.out.bz Z8.out Z9.out (W8_one _) ?_; intro w8 hz8 hg8 _))
                  refine bodyPost_ret (results_cell_row rfl _ _ w.heap.size 94 (W8 (outK v s j)) (0, 0) _ rfl hz8 Try.underlying94 rfl Z8.out) rfl ⟨?_, ?_⟩
                  · rw [blockL, hj64.out, ← EV.out, ES.out]
                  · exact H7.out.bel.trans (grown_below hg8 (Nat.le_of_lt (row_lt H7.out.bz)) (by rintro g ⟨⟩; omega))
end Go.Proofs.Ytldjiigkebkgcaa

/- The document's text laid over the key's bytes is the program's. -/
namespace Go.Proofs.Ytldjiigkebkgcaa
set_option linter.unusedVariables false
set_option linter.unusedSimpArgs false
open Go.RowKit
attribute [local go_sem ↓] Go.wp_at_zero Go.wp_at_succ

theorem strB_nil : strB [] = ByteArray.empty := rfl
theorem strB_snoc (l : List UInt8) (z : UInt8) : strB l ++ strB [z] = strB (l ++ [z]) := by
  apply ByteArray.ext
  rw [ByteArray.data_append]
  simp [strB]
theorem count_j (count : UInt32) (j : Nat) (hj : j ≤ 1000) : IntKind.u32.wrap ((count.toNat : Int) + IntKind.u32.wrap (IntKind.i64.wrap ((j : Int) / 64))) = ((count + UInt32.ofNat (j / 64)).toNat : Int) := by
  have e : (j : Int) / 64 = ((j / 64 : Nat) : Int) := by omega
  have e2 : (IntKind.i64.wrap ((j / 64 : Nat) : Int)) = ((j / 64 : Nat) : Int) := by rw [IntKind.wrap_i64]; omega
  have e4 : (IntKind.u32.wrap ((j / 64 : Nat) : Int)) = ((j / 64 : Nat) : Int) := by rw [IntKind.wrap_u32]; omega
  rw [e, e2, e4, IntKind.wrap_u32, UInt32.toNat_add, UInt32.toNat_ofNat']
  simp only [Nat.reducePow]
  omega
theorem count_j' (count : UInt32) (j : Nat) (hj : j ≤ 1000) : ((count.toNat : Int) + (j : Int) / 64) % 4294967296 = ((count + UInt32.ofNat (j / 64)).toNat : Int) := by
  rw [UInt32.toNat_add, UInt32.toNat_ofNat']
  simp only [Nat.reducePow]
  omega
/-- The call's own variable: the block at which it is. -/
structure RsW (w : World) (b : List UInt8) (W : World) : Prop where
  bb : W.heap[w.heap.size]? = some (.cells (W8 b) 94 (0, 0))
  bel : Below w.heap.size w W
theorem RsW.below {w W W' : World} {b : List UInt8} (h : RsW w b W) (hb : Below W.heap.size W W') : RsW w b W' := ⟨below_block hb (row_lt h.bb) h.bb, h.bel.trans (hb.mono (Nat.le_of_lt (row_lt h.bb)))⟩

theorem zero64 : W8 (List.replicate 64 0) = #[.int .u8 0, .int .u8 0, .int .u8 0, .int .u8 0, .int .u8 0, .int .u8 0, .int .u8 0, .int .u8 0, .int .u8 0, .int .u8 0, .int .u8 0, .int .u8 0, .int .u8 0, .int .u8 0, .int .u8 0, .int .u8 0,
    .int .u8 0, .int .u8 0, .int .u8 0, .int .u8 0, .int .u8 0, .int .u8 0, .int .u8 0, .int .u8 0, .int .u8 0, .int .u8 0, .int .u8 0, .int .u8 0, .int .u8 0, .int .u8 0, .int .u8 0, .int .u8 0,
    .int .u8 0, .int .u8 0, .int .u8 0, .int .u8 0, .int .u8 0, .int .u8 0, .int .u8 0, .int .u8 0, .int .u8 0, .int .u8 0, .int .u8 0, .int .u8 0, .int .u8 0, .int .u8 0, .int .u8 0, .int .u8 0,
    .int .u8 0, .int .u8 0, .int .u8 0, .int .u8 0, .int .u8 0, .int .u8 0, .int .u8 0, .int .u8 0, .int .u8 0, .int .u8 0, .int .u8 0, .int .u8 0, .int .u8 0, .int .u8 0, .int .u8 0, .int .u8 0] := rfl
set_option maxRecDepth 100000 in
set_option maxHeartbeats 2000000 in
theorem refStream_any (k n : List UInt8) (hk : k.length = 32) (hn : n.length = 12) (count : UInt32) (bs : List UInt8) (hb : bs.length ≤ 1000) (w : World) :
    Calls Try.prog 51 #[.string (strB k), .string (strB n), .int .u32 (count.toNat : Int), .string (strB bs)] w fun e w' => e = .returned (.string (strB (streamL k n count bs))) ∧ Below w.heap.size w w' := by
  have HK := Lib.hid hk
  have HN := Lib.hid hn
  have HBB := Lib.hid hb
  obtain ⟨N, hN⟩ : ∃ N, N = bs.length := ⟨_, rfl⟩
  have hs : (strB bs).size = N := by rw [strB_size, hN]
  have NV := Lib.hid hN
  have N1 := Lib.hid (show N ≤ 1000 by rw [hN]; exact hb)
  clear hk hn hb hN
  go_enter Try.func51, Try.ntmps51
  go_wp2_with fail
  rw [← zero64]
  obtain ⟨i0, hi, hz0, hz1, hz2⟩ := info_parts (show (Try.prog.info? 5).map (fun i => (i.zero, i.size, i.bytes)) = some (some (.int .u8 0), 1, 1) by kernel_rfl)
  have I0 := Lib.hid hi
  have I2 := Lib.hid hz1
  clear hi hz0 hz1 hz2
  refine wp_abs (fun W => RsW w (List.replicate 64 0) W) ⟨ha_new _ _ _ rfl, (Below.refl _ _).alloc (Nat.le_refl _) _⟩ ?_
  intro w1 h1
  have H1 := Lib.hid h1
  clear h1
  go_loopw [9, 11] (fun o i wr => ∃ (j : Nat) (b : List UInt8), j ≤ N ∧ b.length = 64 ∧ i = .int .i64 (j : Int) ∧ o = .string (strB ((streamL k n count bs).take j)) ∧ (j % 64 ≠ 0 → b = blockL k n (count + UInt32.ofNat (j / 64))) ∧ RsW w b wr) (fun _ i _ => N - (intOf i).toNat)
  case atStart => exact ⟨0, List.replicate 64 0, by omega, by simp, rfl, rfl, by omega, H1.out⟩
  case round =>
    obtain ⟨j, b, hj, hbl, rfl, rfl, hbk, ht⟩ := hrel
    have J := Lib.hid hj
    have BL := Lib.hid hbl
    have BK := Lib.hid hbk
    have H2 := Lib.hid ht
    have hn1 := N1.out
    clear hj hbl hbk ht H1 w1
    by_cases hlt : j < N
    · have hD : decide ((j : Int) < (N : Int)) = true := by simp; omega
      go_upto_if 20 with fail
      go_cut [11] (fun i wx => i = .int .i64 (j : Int) ∧ RsW w (blockL k n (count + UInt32.ofNat (j / 64))) wx)
      case first =>
        by_cases h64 : j % 64 = 0
        · have e5 : (((j : Int) % 64) == 0) = true := by simp; omega
          go_wp2_with fail
          rw [count_j' count j (by omega)]
          obtain ⟨cq, hcq⟩ : ∃ cq, cq = count + UInt32.ofNat (j / 64) := ⟨_, rfl⟩
          rw [← hcq]
          refine (refBlock_any k n HK.out HN.out cq _).mono ?_
          rintro e w2 ⟨rfl, hb2⟩
          have H3 := Lib.hid (H2.out.below hb2)
          clear hb2
          obtain ⟨B, hB⟩ : ∃ B, B = blockL k n cq := ⟨_, rfl⟩
          rw [← hB]
          have LB := Lib.hid (show B.length = 64 by rw [hB, blockL_length])
          have EB := Lib.hid hB
          clear hB
          have Z1 := Lib.hid (show (Try.prog.info? 94).map (·.size) = some (W8 B).size by rw [W8_size, LB.out]; kernel_rfl)
          go_wp2_with (refine wpList_store_whole rfl rfl 94 (.tmp 10) (.tmp 28) rfl w.heap.size (W8 B) rfl rfl 94 (W8 b) H3.out.bb Z1.out (by rw [W8_size, W8_size, BL.out, LB.out]) (W8_one _) ?_; intro w3 hg3 hgr3 hs3)
          go_meet
          refine ⟨rfl, ?_⟩
          rw [← hcq, ← EB.out]
          exact ⟨hg3, H3.out.bel.trans (grown_below hgr3 (Nat.le_of_lt (row_lt H3.out.bb)) (fun g e => by simp at e; omega))⟩
        · have e5 : (((j : Int) % 64) == 0) = false := by simp; omega
          go_wp2_with fail
          go_meet
          exact ⟨rfl, by rw [← BK.out h64]; exact H2.out⟩
      case rest =>
        obtain ⟨rfl, h3⟩ := hcut
        go_upto_region 8 with fail
        clear BK BL
        obtain ⟨B, hB⟩ : ∃ B, B = blockL k n (count + UInt32.ofNat (j / 64)) := ⟨_, rfl⟩
        rw [← hB] at h3
        have H3 := Lib.hid h3
        have BL := Lib.hid (show B.length = 64 by rw [hB, blockL_length])
        have EB := Lib.hid hB
        clear hB h3
        obtain ⟨x, hx⟩ : ∃ x, x = bs.getD j 0 := ⟨_, rfl⟩
        obtain ⟨y, hy⟩ : ∃ y, y = B.getD (j % 64) 0 := ⟨_, rfl⟩
        have X := Lib.hid hx
        have Y := Lib.hid hy
        obtain ⟨z, hz, e1⟩ := xor_ex x y
        have e2 : Hid ((j : Int).tmod 64 = ((j % 64 : Nat) : Int)) := by show _ = _; rw [Int.tmod_eq_emod_of_nonneg (by omega)]; omega
        have C1 := Lib.hid (fun W (hW : RsW w B W) => (show W.cell? ⟨w.heap.size, j % 64, none⟩ = some (.int .u8 (y.toNat : Int)) by
          have := row_cell hW.bb (j % 64) (W8_get B (j % 64) (by rw [BL.out]; omega))
          rw [this, Y.out]))
        clear hx hy hlt
        have hlt2 := Lib.hid (show j < bs.length by have := NV.out; have := J.out; simp at hD; omega)
        refine wp_region_plan (RsW w B) [0, 1, 2, 3, 4, 5, 6, 7, 8] [9, 10, 11, 12] (by kernel_rfl) (by kernel_rfl) (fun _ _ d _ _ h => by cases d <;> exact h) (H3.out.below (Below.refl _ _).drew) ?_
        simp only [List.filterMap_cons, List.filterMap_nil, List.getElem?_toArray, List.getElem?_cons_zero, List.getElem?_cons_succ]
        refine planQ_cons (v := ?_) (by rfl) ?_ ?_
        rotate_left
        · intro W hW
          go_simp
          with_reducible rfl
        simp only [Act.put, List.setIfInBounds_toArray, List.set_cons_zero, List.set_cons_succ]
        refine planQ_cons (v := ?_) (by rfl) ?_ ?_
        rotate_left
        · intro W hW
          go_simp
          with_reducible rfl
        simp only [Act.put, List.setIfInBounds_toArray, List.set_cons_zero, List.set_cons_succ]
        refine planQ_cons (v := ?_) (by rfl) ?_ ?_
        rotate_left
        · intro W hW
          go_simp
          with_reducible rfl
        simp only [Act.put, List.setIfInBounds_toArray, List.set_cons_zero, List.set_cons_succ]
        refine planQ_cons (by rfl) (fun W hW => run_idx_str 9 (.tmp 30) (.tmp 31) rfl Try.underlying9 bs j x X.out hlt2.out .i64 _ rfl rfl rfl W) ?_
        simp only [Act.put, List.setIfInBounds_toArray, List.set_cons_zero, List.set_cons_succ]
        refine planQ_cons (v := ?_) (by rfl) ?_ ?_
        rotate_left
        · intro W hW
          go_simp
          with_reducible rfl
        simp only [Act.put, List.setIfInBounds_toArray, List.set_cons_zero, List.set_cons_succ]
        refine planQ_cons (v := ?_) (by rfl) ?_ ?_
        rotate_left
        · intro W hW
          go_simp
          with_reducible rfl
        simp only [Act.put, List.setIfInBounds_toArray, List.set_cons_zero, List.set_cons_succ]
        refine planQ_cons (by rfl) (fun W hW => run_iaddr_arr 94 (.tmp 10) (.tmp 34) rfl 64 5 Try.underlying94 I0.out I2.out w.heap.size (j % 64) (by omega) .i64 _ e2.out rfl rfl W) ?_
        simp only [Act.put, List.setIfInBounds_toArray, List.set_cons_zero, List.set_cons_succ]
        refine planQ_cons (by rfl) (fun W hW => run_cell 5 (.tmp 35) rfl _ Try.underlying5 rfl rfl (C1.out W hW)) ?_
        simp only [Act.put, List.setIfInBounds_toArray, List.set_cons_zero, List.set_cons_succ]
        refine planQ_cons (v := ?_) (by rfl) ?_ ?_
        rotate_left
        · intro W hW
          go_simp
          with_reducible rfl
        simp only [Act.put, List.setIfInBounds_toArray, List.set_cons_zero, List.set_cons_succ]
        clear e1
        refine planQ_nil ?_
        refine planT_cons (by rfl) (fun K hK => ?_)
        go_simp
        have H4 := Lib.hid (show RsW w B (wc.drew.alloc (.cells #[.int .u8 (z.toNat : Int)] 5)) from H3.out.below ((Below.refl _ _).drew.alloc (Nat.le_refl _) _))
        refine hK.out _ _ (H4.out) ?_
        clear hK K
        refine planT_val (by rfl) (H4.out) (run_str 23 9 (.tmp 38) rfl Try.underlying23 Try.underlying5 Try.underlying9 (RdB.one (y := z) (row_cell (fr := (0, 0)) (ha_new _ _ _ rfl) 0 rfl)) 1 1 rfl rfl) ?_
        simp only [Act.put, List.setIfInBounds_toArray, List.set_cons_zero, List.set_cons_succ]
        refine planT_val (by rfl) (H4.out) (run_cat 9 _ (.tmp 29) (.tmp 39) rfl ((streamL k n count bs).take j) [z] rfl rfl (by have := N1.out; have := NV.out; rw [List.length_take, streamL_length]; simp; omega) _) ?_
        simp only [Act.put, List.setIfInBounds_toArray, List.set_cons_zero, List.set_cons_succ]
        refine planT_val (v := ?_) (by rfl) (H4.out) ?_ ?_
        rotate_left
        · go_simp
          with_reducible rfl
        simp only [Act.put, List.setIfInBounds_toArray, List.set_cons_zero, List.set_cons_succ]
        refine planT_nil ?_
        have hj1 : j < 1000 := by have := hlt2.out; have := HBB.out; omega
        go_wp2_with fail
        go_roundw
        case rel =>
          refine ⟨j + 1, B, by have := hlt2.out; have := NV.out; omega, BL.out, by go_num, ?_, fun h => ?_, H4.out⟩
          · congr 2
            rw [streamL_snoc _ _ _ _ _ hlt2.out, ← X.out, keyByte, ← EB.out, ← Y.out, ← hz.out]
          · rw [EB.out]
            congr 3
            omega
        case measure => have := hlt2.out; have := NV.out; simp [intOf]; omega
    · have hjn : Hid (j = N) := show j = N by have := J.out; omega
      have hD : decide ((j : Int) < (N : Int)) = false := by simp; omega
      go_wp2_with fail
      go_ret
      refine ⟨?_, H2.out.bel⟩
      show Ending.returned (.string (strB ((streamL k n count bs).take j))) = _
      rw [List.take_of_length_le (by rw [streamL_length, hjn.out, NV.out]; exact Nat.le_refl _)]
end Go.Proofs.Ytldjiigkebkgcaa

/- The document's sealing: zeros, length. No condition but those each theorem states. -/
namespace Go.Proofs.Ytldjiigkebkgcaa
set_option linter.unusedVariables false
set_option linter.unusedSimpArgs false
open Go.RowKit
attribute [local go_sem ↓] Go.wp_at_zero Go.wp_at_succ

def zerosL (n : Nat) : List UInt8 := List.replicate ((16 - n % 16) % 16) 0
theorem padB_zeros (l : List UInt8) : padB l = l ++ zerosL l.length := rfl
theorem zerosL_length (n : Nat) : (zerosL n).length = (16 - n % 16) % 16 := by simp [zerosL]
def strLen : Value → Nat
  | .string s => s.size
  | _ => 0
set_option maxRecDepth 100000 in
set_option maxHeartbeats 1000000 in
theorem zeros_any (n : Nat) (hn : n ≤ 100000) (w : World) :
    Calls Try.prog 66 #[.int .i64 (n : Int)] w fun e w' => e = .returned (.string (strB (zerosL n))) ∧ w' = w := by
  have nb : (n : Int) ≤ 100000 := by omega
  have N := Lib.hid hn
  clear hn
  obtain ⟨P, hP⟩ : ∃ P, P = (16 - n % 16) % 16 := ⟨_, rfl⟩
  have PE := Lib.hid hP
  have P16 := Lib.hid (show P ≤ 15 by omega)
  clear hP
  go_enter Try.func66, Try.ntmps66
  go_wp2_with fail
  go_loopw [3] (fun u wr => ∃ j : Nat, j ≤ P ∧ u = .string (strB (List.replicate j 0)) ∧ wr = w) (fun u _ => P - strLen u)
  case atStart => exact ⟨0, by omega, rfl, rfl⟩
  case round =>
    obtain ⟨j, hj, rfl, hw⟩ := hrel
    rw [hw]
    clear hw wr
    obtain ⟨q, hq⟩ : ∃ q : List UInt8, q = List.replicate j 0 := ⟨_, rfl⟩
    have SS := strB_size q
    rw [show q.length = j by rw [hq]; simp] at SS
    rw [← hq]
    have QE := Lib.hid hq
    have JP := Lib.hid hj
    have jb : (j : Int) ≤ 15 := by have := P16.out; omega
    clear hq hj
    by_cases h16 : (n + j) % 16 = 0
    · have e1 : ((((n : Int) + (j : Int)) % 16) == 0) = true := by simp; omega
      have e2 : ((((n : Int) + (j : Int)) % 16) != 0) = false := by simp; omega
      have hD : decide (((n : Int) + (j : Int)) % 16 = 0) = true := by simp; omega
      have JE := Lib.hid (show q = zerosL n by rw [QE.out, zerosL]; congr 1; have := PE.out; have := JP.out; omega)
      clear h16
      go_wp2_with fail
      go_ret
      exact ⟨by rw [← JE.out]; rfl, rfl⟩
    · have e1 : ((((n : Int) + (j : Int)) % 16) == 0) = false := by simp; omega
      have e2 : ((((n : Int) + (j : Int)) % 16) != 0) = true := by simp; omega
      have hD : decide (((n : Int) + (j : Int)) % 16 = 0) = false := by simp; omega
      have MP := Lib.hid (show j < P by have := PE.out; have := JP.out; omega)
      have QL := Lib.hid (show q.length = j by rw [QE.out]; simp)
      clear h16
      go_upto_region 3 with fail
      clear SS
      go_wp2_with (refine wpList_val rfl (run_cat 9 _ (.tmp 10) (.const (.string { data := #[0] })) rfl q [0] rfl rfl (by have := QL.out; have := MP.out; have := P16.out; simp; omega) _) ?_)
      go_roundw
      case rel => exact ⟨j + 1, by have := MP.out; omega, by rw [QE.out, List.replicate_succ'], trivial⟩
      case measure =>
        have h1 : strLen (.string (strB (q ++ [0]))) = j + 1 := by show (strB (q ++ [0])).size = _; rw [strB_size, List.length_append, QL.out]; rfl
        have h2 : strLen (.string (strB q)) = j := by show (strB q).size = _; rw [strB_size, QL.out]
        have := MP.out
        show P - strLen (.string (strB (q ++ [0]))) < P - strLen (.string (strB q))
        rw [h1, h2]
        omega
set_option maxRecDepth 100000 in
set_option maxHeartbeats 1000000 in
theorem length_any (n : Nat) (hn : n ≤ 1000000) (w : World) :
    Calls Try.prog 67 #[.int .i64 (n : Int)] w fun e w' => e = .returned (.string (strB (leL 8 n))) ∧ Below w.heap.size w w' := by
  have HN := Lib.hid hn
  have nb : (n : Int) ≤ 1000000 := by omega
  have e0 : IntKind.u64.wrap (n : Int) = (n : Int) := by rw [IntKind.wrap_u64]; omega
  clear hn
  go_enter Try.func67, Try.ntmps67
  go_wp2_with fail
  go_loopw [3, 4] (fun u i wr => ∃ r : Nat, r ≤ 8 ∧ i = .int .i64 (r : Int) ∧ u = .string (strB (leL r n)) ∧ Below w.heap.size w wr) (fun _ i _ => 8 - (intOf i).toNat)
  case atStart => exact ⟨0, by omega, rfl, rfl, Below.refl _ _⟩
  case round =>
    obtain ⟨r, hr, rfl, rfl, hb⟩ := hrel
    have R := Lib.hid hr
    have S := Lib.hid hb
    obtain ⟨q, hq⟩ : ∃ q, q = leL r n := ⟨_, rfl⟩
    rw [← hq]
    have QE := Lib.hid hq
    have QL := Lib.hid (show q.length ≤ 8 by rw [hq, leL_length]; exact hr)
    clear hr hb hq
    by_cases hlt : r < 8
    · have hD : decide ((r : Int) < 8) = true := by simp; omega
      have R8 := Lib.hid hlt
      have rb : (r : Int) ≤ 7 := by omega
      have e2 : 8 * (r : Int) ≤ 64 := by omega
      have e4 : (8 * (r : Int)).toNat = 8 * r := by omega
      have e5 : IntKind.u64.wrap (8 * (r : Int)) = 8 * (r : Int) := by rw [IntKind.wrap_u64]; omega
      obtain ⟨z, hz, e3⟩ := le_byte_ex n r HN.out
      have RZ := Lib.hid (RdB.one (w := wr.alloc (.cells #[.int .u8 (z.toNat : Int)] 5)) (y := z) (row_cell (fr := (0, 0)) (ha_new wr _ _ rfl) 0 rfl))
      clear hlt
      go_wp2_with (first
        | (refine wpList_val rfl (run_str 23 9 (.tmp 17) rfl Try.underlying23 Try.underlying5 Try.underlying9 RZ.out 1 1 rfl rfl) ?_)
        | (refine wpList_val rfl (run_cat 9 _ (.tmp 9) (.tmp 18) rfl q [z] rfl rfl (by have := QL.out; simp; omega) _) ?_))
      have S2 := Lib.hid (show Below w.heap.size w (wr.alloc (.cells #[.int .u8 (z.toNat : Int)] 5)) from S.out.alloc S.out.size _)
      have ZE := Lib.hid (show q ++ [z] = leL (r + 1) n by rw [QE.out, leL_succ, ← hz.out])
      clear hD e2 e3 e4 e5
      go_wp2_with fail
      go_roundw
      case rel => exact ⟨r + 1, by have := R8.out; omega, by go_num, by rw [ZE.out], S2.out⟩
      case measure => have := R8.out; simp [intOf]; omega
    · have hD : decide ((r : Int) < 8) = false := by simp; omega
      have RE := Lib.hid (show q = leL 8 n by rw [QE.out]; congr 1; have := R.out; omega)
      go_wp2_with fail
      go_ret
      exact ⟨by rw [← RE.out]; rfl, S.out⟩

theorem over_cat (l l2 : List UInt8) : ((((l ++ zerosL l.length) ++ l2) ++ zerosL l2.length) ++ leL 8 l.length) ++ leL 8 l2.length = overL l l2 := by
  rw [overL, padB_zeros, padB_zeros, List.append_assoc (l ++ zerosL l.length)]
theorem zero32g : W8 (List.replicate 32 0) = #[.int .u8 0, .int .u8 0, .int .u8 0, .int .u8 0, .int .u8 0, .int .u8 0, .int .u8 0, .int .u8 0, .int .u8 0, .int .u8 0, .int .u8 0, .int .u8 0, .int .u8 0, .int .u8 0, .int .u8 0, .int .u8 0, .int .u8 0, .int .u8 0, .int .u8 0, .int .u8 0, .int .u8 0, .int .u8 0, .int .u8 0, .int .u8 0, .int .u8 0, .int .u8 0, .int .u8 0, .int .u8 0, .int .u8 0, .int .u8 0, .int .u8 0, .int .u8 0] := rfl
/-- Two blocks of the call's own. -/
structure RgW (w : World) (M : Nat) (B : List UInt8) (M2 : Nat) (k : List UInt8) (W : World) : Prop where
  bel : Below w.heap.size w W
  b1 : W.heap[M]? = some (.cells (W8 B) 94 (0, 0))
  b2 : W.heap[M2]? = some (.cells (W8 k) 36 (0, 0))
  h1 : w.heap.size ≤ M
  h2 : M < M2
set_option maxRecDepth 100000 in
set_option maxHeartbeats 8000000 in
theorem rtag_any (k n : List UInt8) (hk : k.length = 32) (hn : n.length = 12) (l l2 : List UInt8) (hl : l.length ≤ 1000) (hl2 : l2.length ≤ 1000) (w : World) :
    Calls Try.prog 52 #[.string (strB k), .string (strB n), .string (strB l), .string (strB l2)] w fun e w' => e = .returned (.string (strB (tagL k n l l2))) ∧ Below w.heap.size w w' := by
  obtain ⟨i0, hi0, hz0, hz1, hz2⟩ := info_parts (show (Try.prog.info? 5).map (fun i => (i.zero, i.size, i.bytes)) = some (some (.int .u8 0), 1, 1) by kernel_rfl)
  have I0 := Lib.hid hi0
  have HK := Lib.hid hk
  have HN := Lib.hid hn
  have HL := Lib.hid hl
  have HL2 := Lib.hid hl2
  have Z := Lib.hid zero16
  have Z32 := Lib.hid zero32g
  obtain ⟨T, hT⟩ : ∃ T, T = tagL k n l l2 := ⟨_, rfl⟩
  rw [← hT]
  have TE := Lib.hid hT
  obtain ⟨B, hB⟩ : ∃ B, B = blockL k n 0 := ⟨_, rfl⟩
  have BE := Lib.hid hB
  have BL := Lib.hid (show B.length = 64 by rw [hB, blockL_length])
  have ZB := Lib.hid (show (Try.prog.info? 94).map (·.size) = some (W8 B).size by rw [W8_size, BL.out]; kernel_rfl)
  obtain ⟨Kh, hKh⟩ : ∃ K, K = B.take 32 := ⟨_, rfl⟩
  have KE := Lib.hid hKh
  have KL := Lib.hid (show Kh.length = 32 by rw [hKh, List.length_take, BL.out]; rfl)
  have ZK := Lib.hid (show (Try.prog.info? 36).map (·.size) = some (W8 Kh).size by rw [W8_size, KL.out]; kernel_rfl)
  have TL := Lib.hid (show T.length = 16 by rw [hT, tagL_length])
  have TP := Lib.hid (show polyL Kh (l ++ (zerosL l.length ++ (l2 ++ (zerosL l2.length ++ (leL 8 l.length ++ leL 8 l2.length))))) = T by rw [show l ++ (zerosL l.length ++ (l2 ++ (zerosL l2.length ++ (leL 8 l.length ++ leL 8 l2.length)))) = overL l l2 by rw [← over_cat]; simp only [List.append_assoc], hT, hKh, hB]; rfl)
  clear hk hn hl hl2 hT hB hKh hi0 hz0 hz1 hz2
  go_enter Try.func52, Try.ntmps52
  go_wp2_with fail
  refine (refBlock_any k n HK.out HN.out 0 w).mono ?_
  rw [← BE.out]
  rintro e w1 ⟨rfl, hb⟩
  have S0 := Lib.hid hb
  clear hb
  go_upto_block 0 with (refine wpList_store_new rfl rfl 94 (.tmp 9) (.tmp 15) rfl (W8 B) rfl rfl ZB.out ?c1 (W8_one _) ?_)
  case c1 => rw [W8_size, BL.out]; rfl
  rw [← Z32.out]
  generalize hM : Array.size (World.heap w1) = M
  generalize hw2 : World.alloc w1 _ = w2
  generalize hM2 : M + 1 = M2
  generalize hw3 : World.alloc w2 _ = w3
  have S := Lib.hid (show RgW w M B M2 (partB Kh 0) w3 by
    have s2 : w2.heap.size = M2 := by rw [← hw2, ha_size, hM, hM2]
    have e0 : partB Kh 0 = List.replicate 32 0 := by rw [partB_zero, KL.out]
    have hb : Below w.heap.size w w3 := by rw [← hw3]; exact (show Below w.heap.size w w2 by rw [← hw2]; exact S0.out.alloc S0.out.size _).alloc (by rw [s2, ← hM2, ← hM]; have := S0.out.size; omega) _
    rw [e0]
    refine ⟨hb, ?_, ?_, by rw [← hM]; exact S0.out.size, by omega⟩
    · rw [← hw3]; exact ha_old _ _ _ (by omega) (by rw [← hw2]; exact ha_new _ _ _ hM.symm)
    · rw [← hw3]; exact ha_new _ _ _ s2.symm)
  clear hM hw2 hM2 hw3 S0
  go_cut [10] (fun v wx => v = .pointer (some ⟨M2, 0, none⟩) ∧ RgW w M B M2 Kh wx)
  case first =>
    go_wp2_with fail
    go_loopw [11] (fun i wr => ∃ j : Nat, j ≤ 32 ∧ i = .int .i64 (j : Int) ∧ RgW w M B M2 (partB Kh j) wr) (fun i _ => 32 - (intOf i).toNat)
    case atStart => exact ⟨0, by omega, rfl, S.out⟩
    case round =>
      obtain ⟨j, hj, rfl, hs⟩ := hrel
      have J := Lib.hid hj
      have S2 := Lib.hid hs
      clear hj hs
      by_cases hlt : j < 32
      · have hD : decide ((j : Int) < 32) = true := by simp; omega
        obtain ⟨x, hx⟩ : ∃ x, x = B.getD j 0 := ⟨_, rfl⟩
        have XE := Lib.hid (show x = Kh.getD j 0 by rw [hx, KE.out]; simp [List.getD_eq_getElem?_getD, List.getElem?_take, hlt])
        have a1 := row_cell S2.out.b1 j (W8_get _ j (by rw [BL.out]; omega))
        rw [← hx] at a1
        have a2 := row_cell S2.out.b2 j (W8_get _ j (by rw [partB_length, KL.out]; omega))
        have f2 := row_free S2.out.b2 j
        have jb : (j : Int) < 32 := by omega
        have J32 := Lib.hid hlt
        clear hx hlt
        go_upto_region 5 with fail
        obtain ⟨w4, hw4⟩ : ∃ w4, w4 = wr.setCell ⟨M2, j, none⟩ (.int .u8 (x.toNat : Int)) := ⟨_, rfl⟩
        rw [← hw4]
        have S3 := Lib.hid (show RgW w M B M2 (partB Kh (j + 1)) w4 by
          have hg : wr.grownBy w4 (some M2) := by rw [hw4]; exact grown1 _ _ _ _
          have h2 := S2.out.h2
          have h1 := S2.out.h1
          refine ⟨S2.out.bel.trans (grown_below hg S2.out.bel.size (by rintro g ⟨⟩; omega)), grown_block hg (by simp; omega) S2.out.b1, ?_, h1, h2⟩
          rw [hw4, ← partB_set _ _ (by rw [KL.out]; exact J32.out), ← XE.out, heap_setCell_same _ _ _ _ _ _ S2.out.b2, W8_set])
        clear hw4 a1 a2 f2 hD
        go_wp2_with fail
        go_roundw
        case rel => exact ⟨j + 1, by have := J32.out; omega, by go_num, S3.out⟩
        case measure => have := J32.out; simp [intOf]; omega
      · have hD : decide ((j : Int) < 32) = false := by simp; omega
        have J32 := Lib.hid (show j = 32 by have := J.out; omega)
        go_wp2_with fail
        go_meet
        refine ⟨rfl, ?_⟩
        have h := S2.out
        rw [J32.out, ← KL.out, partB_full] at h
        exact h
  case rest =>
  obtain ⟨rfl, hs⟩ := hcut
  have S := Lib.hid hs
  clear hs
  obtain ⟨w4, hw4⟩ : ∃ x : World, x = wc := ⟨_, rfl⟩
  rw [← hw4] at S ⊢
  clear hw4
  go_upto_region 7 with fail
  go_cut [12] (fun v wx => ∃ M, v = .pointer (some ⟨M, 0, none⟩) ∧ wx.heap[M]? = some (.cells (W8 T) 82 (0, 0)) ∧ Below w4.heap.size w4 wx)
  case first =>
    have s1 := strB_size l
    have s2 := strB_size l2
    refine wp_region_tree (fun W => Below w4.heap.size w4 W) (.q 0 (.q 1 (.q 2 (.q 3 (.q 6 (.q 8 (.q 9 (.q 12 (.q 13 (.q 16 (.q 17 (.two 4 (.q 5 (.q 7 (.two 10 (.q 11 (.two 14 (.q 15 (.two 18 (.q 19 (.two 20 (.t 21 (.t 22 .done)) 21 (.t 20 (.t 22 .done)))) 21 (.t 18 (.q 19 (.t 20 (.t 22 .done)))))) 21 (.t 14 (.q 15 (.t 18 (.q 19 (.t 20 (.t 22 .done)))))))) 21 (.t 10 (.q 11 (.t 14 (.q 15 (.t 18 (.q 19 (.t 20 (.t 22 .done))))))))))) 21 (.t 4 (.q 5 (.q 7 (.t 10 (.q 11 (.t 14 (.q 15 (.t 18 (.q 19 (.t 20 (.t 22 .done))))))))))))))))))))))) (by kernel_rfl) (by kernel_rfl) (fun _ _ d _ _ h => by cases d <;> exact h) ?_
    have S0 := Lib.hid S.out
    have S := Lib.hid (show Below w4.heap.size w4 w4.drew from (Below.refl _ _).drew)
    generalize World.drew w4 = w5 at *
    refine road_q rfl rfl (S.out) (fun W hW => run_load_row 36 (.tmp 10) rfl M2 rfl 36 (W8 Kh) (0, 0) _ (below_block hW (row_lt S0.out.b2) S0.out.b2) Try.underlying36 rfl ZK.out) ?_
    simp only [Act.put, List.setIfInBounds_toArray, List.set_cons_zero, List.set_cons_succ]
    refine road_q (v := ?_) rfl rfl (S.out) ?_ ?_
    rotate_left
    · intro W hW
      go_simp
      with_reducible rfl
    simp only [Act.put, List.setIfInBounds_toArray, List.set_cons_zero, List.set_cons_succ]
    refine road_q (v := ?_) rfl rfl (S.out) ?_ ?_
    rotate_left
    · intro W hW
      go_simp
      with_reducible rfl
    simp only [Act.put, List.setIfInBounds_toArray, List.set_cons_zero, List.set_cons_succ]
    refine road_q (v := ?_) rfl rfl (S.out) ?_ ?_
    rotate_left
    · intro W hW
      go_simp
      with_reducible rfl
    simp only [Act.put, List.setIfInBounds_toArray, List.set_cons_zero, List.set_cons_succ]
    refine road_q (v := ?_) rfl rfl (S.out) ?_ ?_
    rotate_left
    · intro W hW
      go_simp
      with_reducible rfl
    simp only [Act.put, List.setIfInBounds_toArray, List.set_cons_zero, List.set_cons_succ]
    refine road_q (v := ?_) rfl rfl (S.out) ?_ ?_
    rotate_left
    · intro W hW
      go_simp
      with_reducible rfl
    simp only [Act.put, List.setIfInBounds_toArray, List.set_cons_zero, List.set_cons_succ]
    refine road_q (v := ?_) rfl rfl (S.out) ?_ ?_
    rotate_left
    · intro W hW
      go_simp
      with_reducible rfl
    simp only [Act.put, List.setIfInBounds_toArray, List.set_cons_zero, List.set_cons_succ]
    refine road_q (v := ?_) rfl rfl (S.out) ?_ ?_
    rotate_left
    · intro W hW
      go_simp
      with_reducible rfl
    simp only [Act.put, List.setIfInBounds_toArray, List.set_cons_zero, List.set_cons_succ]
    refine road_q (v := ?_) rfl rfl (S.out) ?_ ?_
    rotate_left
    · intro W hW
      go_simp
      with_reducible rfl
    simp only [Act.put, List.setIfInBounds_toArray, List.set_cons_zero, List.set_cons_succ]
    refine road_q (v := ?_) rfl rfl (S.out) ?_ ?_
    rotate_left
    · intro W hW
      go_simp
      with_reducible rfl
    simp only [Act.put, List.setIfInBounds_toArray, List.set_cons_zero, List.set_cons_succ]
    refine road_q (v := ?_) rfl rfl (S.out) ?_ ?_
    rotate_left
    · intro W hW
      go_simp
      with_reducible rfl
    simp only [Act.put, List.setIfInBounds_toArray, List.set_cons_zero, List.set_cons_succ]
    clear s1 s2
    refine road_two ?_ ?_
    ·
      refine road_t rfl rfl (fun K hK => ?_)
      go_simp
      refine (zeros_any l.length (by have := HL.out; have := HL2.out; omega) _).mono ?_
      rintro e wd ⟨rfl, hw⟩
      rw [hw]
      clear hw wd
      refine hK.out _ _ (S.out) ?_
      clear hK K
      refine road_q rfl rfl (S.out) (fun W hW => run_cat 9 _ (.tmp 26) (.tmp 29) rfl _ _ rfl rfl (by have := HL.out; have := HL2.out; have := zerosL_length l.length; have := zerosL_length l2.length; (try simp only [List.length_append, leL_length]); omega) W) ?_
      simp only [Act.put, List.setIfInBounds_toArray, List.set_cons_zero, List.set_cons_succ]
      refine road_q rfl rfl (S.out) (fun W hW => run_cat 9 _ (.tmp 30) (.tmp 31) rfl _ _ rfl rfl (by have := HL.out; have := HL2.out; have := zerosL_length l.length; have := zerosL_length l2.length; (try simp only [List.length_append, leL_length]); omega) W) ?_
      simp only [Act.put, List.setIfInBounds_toArray, List.set_cons_zero, List.set_cons_succ]
      refine road_two ?_ ?_
      ·
        refine road_t rfl rfl (fun K hK => ?_)
        go_simp
        refine (zeros_any l2.length (by have := HL.out; have := HL2.out; omega) _).mono ?_
        rintro e wd ⟨rfl, hw⟩
        rw [hw]
        clear hw wd
        refine hK.out _ _ (S.out) ?_
        clear hK K
        refine road_q rfl rfl (S.out) (fun W hW => run_cat 9 _ (.tmp 32) (.tmp 35) rfl _ _ rfl rfl (by have := HL.out; have := HL2.out; have := zerosL_length l.length; have := zerosL_length l2.length; (try simp only [List.length_append, leL_length]); omega) W) ?_
        simp only [Act.put, List.setIfInBounds_toArray, List.set_cons_zero, List.set_cons_succ]
        refine road_two ?_ ?_
        ·
          refine road_t rfl rfl (fun K hK => ?_)
          go_simp
          refine (length_any l.length (by have := HL.out; have := HL2.out; omega) _).mono ?_
          rintro e w5 ⟨rfl, hb⟩
          have S := Lib.hid (S.out.trans (hb.mono S.out.size))
          try have R := Lib.hid (below_block hb (row_lt R.out) R.out)
          clear hb
          refine hK.out _ _ (S.out) ?_
          clear hK K
          refine road_q rfl rfl (S.out) (fun W hW => run_cat 9 _ (.tmp 36) (.tmp 39) rfl _ _ rfl rfl (by have := HL.out; have := HL2.out; have := zerosL_length l.length; have := zerosL_length l2.length; (try simp only [List.length_append, leL_length]); omega) W) ?_
          simp only [Act.put, List.setIfInBounds_toArray, List.set_cons_zero, List.set_cons_succ]
          refine road_two ?_ ?_
          ·
            refine road_t rfl rfl (fun K hK => ?_)
            go_simp
            refine (length_any l2.length (by have := HL.out; have := HL2.out; omega) _).mono ?_
            rintro e w5 ⟨rfl, hb⟩
            have S := Lib.hid (S.out.trans (hb.mono S.out.size))
            try have R := Lib.hid (below_block hb (row_lt R.out) R.out)
            clear hb
            refine hK.out _ _ (S.out) ?_
            clear hK K
            refine road_q rfl rfl (S.out) (fun W hW => run_cat 9 _ (.tmp 40) (.tmp 43) rfl _ _ rfl rfl (by have := HL.out; have := HL2.out; have := zerosL_length l.length; have := zerosL_length l2.length; (try simp only [List.length_append, leL_length]); omega) W) ?_
            simp only [Act.put, List.setIfInBounds_toArray, List.set_cons_zero, List.set_cons_succ]
            refine road_two ?_ ?_
            ·
              refine road_t rfl rfl (fun K hK => ?_)
              go_simp
              refine (rpsum_any Kh KL.out _ _ rfl (by have := HL.out; have := HL2.out; have := zerosL_length l.length; have := zerosL_length l2.length; (try simp only [List.length_append, leL_length]); omega) _).mono ?_
              rw [TP.out]
              rintro e w5 ⟨rfl, hb⟩
              have S := Lib.hid (S.out.trans (hb.mono S.out.size))
              try have R := Lib.hid (below_block hb (row_lt R.out) R.out)
              clear hb
              refine hK.out _ _ (S.out) ?_
              clear hK K
              refine road_t rfl rfl (fun K hK => ?_)
              go_simp
              rw [← Z.out]
              generalize hM : Array.size (World.heap w5) = M9
              generalize hw : World.alloc w5 _ = w6
              have MS := Lib.hid (show w4.heap.size ≤ M9 by rw [← hM]; exact S.out.size)
              have R := Lib.hid (show w6.heap[M9]? = some (.cells (W8 Z16) 82 (0, 0)) by rw [← hw]; exact ha_new _ _ _ hM.symm)
              have S := Lib.hid (show Below w4.heap.size w4 w6 by rw [← hw]; exact S.out.alloc S.out.size _)
              clear hM hw
              generalize hww : w6 = w5 at *
              clear hww
              refine hK.out _ _ (S.out) ?_
              clear hK K
              refine road_t rfl rfl (fun K hK => ?_)
              refine storeW_wp 82 (.tmp 12) (.tmp 45) rfl M9 (W8 T) rfl rfl _ _ R.out (info_16 TL.out) (by rw [W8_size, W8_size, TL.out]; rfl) (W8_one _) ?_
              intro w9 hz9 hg9 _
              have R := Lib.hid hz9
              have S := Lib.hid (S.out.trans (grown_below hg9 S.out.size (by rintro g ⟨⟩; exact MS.out)))
              clear hz9 hg9
              refine hK.out _ _ (S.out) ?_
              clear hK K
              refine road_done ?_
              simp only [Act.put]
              go_wp2_with fail
              go_meet
              exact ⟨M9, rfl, R.out, S.out⟩
            ·
              refine road_t rfl rfl (fun K hK => ?_)
              go_simp
              rw [← Z.out]
              generalize hM : Array.size (World.heap w5) = M9
              generalize hw : World.alloc w5 _ = w6
              have MS := Lib.hid (show w4.heap.size ≤ M9 by rw [← hM]; exact S.out.size)
              have R := Lib.hid (show w6.heap[M9]? = some (.cells (W8 Z16) 82 (0, 0)) by rw [← hw]; exact ha_new _ _ _ hM.symm)
              have S := Lib.hid (show Below w4.heap.size w4 w6 by rw [← hw]; exact S.out.alloc S.out.size _)
              clear hM hw
              generalize hww : w6 = w5 at *
              clear hww
              refine hK.out _ _ (S.out) ?_
              clear hK K
              refine road_t rfl rfl (fun K hK => ?_)
              go_simp
              refine (rpsum_any Kh KL.out _ _ rfl (by have := HL.out; have := HL2.out; have := zerosL_length l.length; have := zerosL_length l2.length; (try simp only [List.length_append, leL_length]); omega) _).mono ?_
              rw [TP.out]
              rintro e w5 ⟨rfl, hb⟩
              have S := Lib.hid (S.out.trans (hb.mono S.out.size))
              try have R := Lib.hid (below_block hb (row_lt R.out) R.out)
              clear hb
              refine hK.out _ _ (S.out) ?_
              clear hK K
              refine road_t rfl rfl (fun K hK => ?_)
              refine storeW_wp 82 (.tmp 12) (.tmp 45) rfl M9 (W8 T) rfl rfl _ _ R.out (info_16 TL.out) (by rw [W8_size, W8_size, TL.out]; rfl) (W8_one _) ?_
              intro w9 hz9 hg9 _
              have R := Lib.hid hz9
              have S := Lib.hid (S.out.trans (grown_below hg9 S.out.size (by rintro g ⟨⟩; exact MS.out)))
              clear hz9 hg9
              refine hK.out _ _ (S.out) ?_
              clear hK K
              refine road_done ?_
              simp only [Act.put]
              go_wp2_with fail
              go_meet
              exact ⟨M9, rfl, R.out, S.out⟩
          ·
            refine road_t rfl rfl (fun K hK => ?_)
            go_simp
            rw [← Z.out]
            generalize hM : Array.size (World.heap w5) = M9
            generalize hw : World.alloc w5 _ = w6
            have MS := Lib.hid (show w4.heap.size ≤ M9 by rw [← hM]; exact S.out.size)
            have R := Lib.hid (show w6.heap[M9]? = some (.cells (W8 Z16) 82 (0, 0)) by rw [← hw]; exact ha_new _ _ _ hM.symm)
            have S := Lib.hid (show Below w4.heap.size w4 w6 by rw [← hw]; exact S.out.alloc S.out.size _)
            clear hM hw
            generalize hww : w6 = w5 at *
            clear hww
            refine hK.out _ _ (S.out) ?_
            clear hK K
            refine road_t rfl rfl (fun K hK => ?_)
            go_simp
            refine (length_any l2.length (by have := HL.out; have := HL2.out; omega) _).mono ?_
            rintro e w5 ⟨rfl, hb⟩
            have S := Lib.hid (S.out.trans (hb.mono S.out.size))
            try have R := Lib.hid (below_block hb (row_lt R.out) R.out)
            clear hb
            refine hK.out _ _ (S.out) ?_
            clear hK K
            refine road_q rfl rfl (S.out) (fun W hW => run_cat 9 _ (.tmp 40) (.tmp 43) rfl _ _ rfl rfl (by have := HL.out; have := HL2.out; have := zerosL_length l.length; have := zerosL_length l2.length; (try simp only [List.length_append, leL_length]); omega) W) ?_
            simp only [Act.put, List.setIfInBounds_toArray, List.set_cons_zero, List.set_cons_succ]
            refine road_t rfl rfl (fun K hK => ?_)
            go_simp
            refine (rpsum_any Kh KL.out _ _ rfl (by have := HL.out; have := HL2.out; have := zerosL_length l.length; have := zerosL_length l2.length; (try simp only [List.length_append, leL_length]); omega) _).mono ?_
            rw [TP.out]
            rintro e w5 ⟨rfl, hb⟩
            have S := Lib.hid (S.out.trans (hb.mono S.out.size))
            try have R := Lib.hid (below_block hb (row_lt R.out) R.out)
            clear hb
            refine hK.out _ _ (S.out) ?_
            clear hK K
            refine road_t rfl rfl (fun K hK => ?_)
            refine storeW_wp 82 (.tmp 12) (.tmp 45) rfl M9 (W8 T) rfl rfl _ _ R.out (info_16 TL.out) (by rw [W8_size, W8_size, TL.out]; rfl) (W8_one _) ?_
            intro w9 hz9 hg9 _
            have R := Lib.hid hz9
            have S := Lib.hid (S.out.trans (grown_below hg9 S.out.size (by rintro g ⟨⟩; exact MS.out)))
            clear hz9 hg9
            refine hK.out _ _ (S.out) ?_
            clear hK K
            refine road_done ?_
            simp only [Act.put]
            go_wp2_with fail
            go_meet
            exact ⟨M9, rfl, R.out, S.out⟩
        ·
          refine road_t rfl rfl (fun K hK => ?_)
          go_simp
          rw [← Z.out]
          generalize hM : Array.size (World.heap w5) = M9
          generalize hw : World.alloc w5 _ = w6
          have MS := Lib.hid (show w4.heap.size ≤ M9 by rw [← hM]; exact S.out.size)
          have R := Lib.hid (show w6.heap[M9]? = some (.cells (W8 Z16) 82 (0, 0)) by rw [← hw]; exact ha_new _ _ _ hM.symm)
          have S := Lib.hid (show Below w4.heap.size w4 w6 by rw [← hw]; exact S.out.alloc S.out.size _)
          clear hM hw
          generalize hww : w6 = w5 at *
          clear hww
          refine hK.out _ _ (S.out) ?_
          clear hK K
          refine road_t rfl rfl (fun K hK => ?_)
          go_simp
          refine (length_any l.length (by have := HL.out; have := HL2.out; omega) _).mono ?_
          rintro e w5 ⟨rfl, hb⟩
          have S := Lib.hid (S.out.trans (hb.mono S.out.size))
          try have R := Lib.hid (below_block hb (row_lt R.out) R.out)
          clear hb
          refine hK.out _ _ (S.out) ?_
          clear hK K
          refine road_q rfl rfl (S.out) (fun W hW => run_cat 9 _ (.tmp 36) (.tmp 39) rfl _ _ rfl rfl (by have := HL.out; have := HL2.out; have := zerosL_length l.length; have := zerosL_length l2.length; (try simp only [List.length_append, leL_length]); omega) W) ?_
          simp only [Act.put, List.setIfInBounds_toArray, List.set_cons_zero, List.set_cons_succ]
          refine road_t rfl rfl (fun K hK => ?_)
          go_simp
          refine (length_any l2.length (by have := HL.out; have := HL2.out; omega) _).mono ?_
          rintro e w5 ⟨rfl, hb⟩
          have S := Lib.hid (S.out.trans (hb.mono S.out.size))
          try have R := Lib.hid (below_block hb (row_lt R.out) R.out)
          clear hb
          refine hK.out _ _ (S.out) ?_
          clear hK K
          refine road_q rfl rfl (S.out) (fun W hW => run_cat 9 _ (.tmp 40) (.tmp 43) rfl _ _ rfl rfl (by have := HL.out; have := HL2.out; have := zerosL_length l.length; have := zerosL_length l2.length; (try simp only [List.length_append, leL_length]); omega) W) ?_
          simp only [Act.put, List.setIfInBounds_toArray, List.set_cons_zero, List.set_cons_succ]
          refine road_t rfl rfl (fun K hK => ?_)
          go_simp
          refine (rpsum_any Kh KL.out _ _ rfl (by have := HL.out; have := HL2.out; have := zerosL_length l.length; have := zerosL_length l2.length; (try simp only [List.length_append, leL_length]); omega) _).mono ?_
          rw [TP.out]
          rintro e w5 ⟨rfl, hb⟩
          have S := Lib.hid (S.out.trans (hb.mono S.out.size))
          try have R := Lib.hid (below_block hb (row_lt R.out) R.out)
          clear hb
          refine hK.out _ _ (S.out) ?_
          clear hK K
          refine road_t rfl rfl (fun K hK => ?_)
          refine storeW_wp 82 (.tmp 12) (.tmp 45) rfl M9 (W8 T) rfl rfl _ _ R.out (info_16 TL.out) (by rw [W8_size, W8_size, TL.out]; rfl) (W8_one _) ?_
          intro w9 hz9 hg9 _
          have R := Lib.hid hz9
          have S := Lib.hid (S.out.trans (grown_below hg9 S.out.size (by rintro g ⟨⟩; exact MS.out)))
          clear hz9 hg9
          refine hK.out _ _ (S.out) ?_
          clear hK K
          refine road_done ?_
          simp only [Act.put]
          go_wp2_with fail
          go_meet
          exact ⟨M9, rfl, R.out, S.out⟩
      ·
        refine road_t rfl rfl (fun K hK => ?_)
        go_simp
        rw [← Z.out]
        generalize hM : Array.size (World.heap w5) = M9
        generalize hw : World.alloc w5 _ = w6
        have MS := Lib.hid (show w4.heap.size ≤ M9 by rw [← hM]; exact S.out.size)
        have R := Lib.hid (show w6.heap[M9]? = some (.cells (W8 Z16) 82 (0, 0)) by rw [← hw]; exact ha_new _ _ _ hM.symm)
        have S := Lib.hid (show Below w4.heap.size w4 w6 by rw [← hw]; exact S.out.alloc S.out.size _)
        clear hM hw
        generalize hww : w6 = w5 at *
        clear hww
        refine hK.out _ _ (S.out) ?_
        clear hK K
        refine road_t rfl rfl (fun K hK => ?_)
        go_simp
        refine (zeros_any l2.length (by have := HL.out; have := HL2.out; omega) _).mono ?_
        rintro e wd ⟨rfl, hw⟩
        rw [hw]
        clear hw wd
        refine hK.out _ _ (S.out) ?_
        clear hK K
        refine road_q rfl rfl (S.out) (fun W hW => run_cat 9 _ (.tmp 32) (.tmp 35) rfl _ _ rfl rfl (by have := HL.out; have := HL2.out; have := zerosL_length l.length; have := zerosL_length l2.length; (try simp only [List.length_append, leL_length]); omega) W) ?_
        simp only [Act.put, List.setIfInBounds_toArray, List.set_cons_zero, List.set_cons_succ]
        refine road_t rfl rfl (fun K hK => ?_)
        go_simp
        refine (length_any l.length (by have := HL.out; have := HL2.out; omega) _).mono ?_
        rintro e w5 ⟨rfl, hb⟩
        have S := Lib.hid (S.out.trans (hb.mono S.out.size))
        try have R := Lib.hid (below_block hb (row_lt R.out) R.out)
        clear hb
        refine hK.out _ _ (S.out) ?_
        clear hK K
        refine road_q rfl rfl (S.out) (fun W hW => run_cat 9 _ (.tmp 36) (.tmp 39) rfl _ _ rfl rfl (by have := HL.out; have := HL2.out; have := zerosL_length l.length; have := zerosL_length l2.length; (try simp only [List.length_append, leL_length]); omega) W) ?_
        simp only [Act.put, List.setIfInBounds_toArray, List.set_cons_zero, List.set_cons_succ]
        refine road_t rfl rfl (fun K hK => ?_)
        go_simp
        refine (length_any l2.length (by have := HL.out; have := HL2.out; omega) _).mono ?_
        rintro e w5 ⟨rfl, hb⟩
        have S := Lib.hid (S.out.trans (hb.mono S.out.size))
        try have R := Lib.hid (below_block hb (row_lt R.out) R.out)
        clear hb
        refine hK.out _ _ (S.out) ?_
        clear hK K
        refine road_q rfl rfl (S.out) (fun W hW => run_cat 9 _ (.tmp 40) (.tmp 43) rfl _ _ rfl rfl (by have := HL.out; have := HL2.out; have := zerosL_length l.length; have := zerosL_length l2.length; (try simp only [List.length_append, leL_length]); omega) W) ?_
        simp only [Act.put, List.setIfInBounds_toArray, List.set_cons_zero, List.set_cons_succ]
        refine road_t rfl rfl (fun K hK => ?_)
        go_simp
        refine (rpsum_any Kh KL.out _ _ rfl (by have := HL.out; have := HL2.out; have := zerosL_length l.length; have := zerosL_length l2.length; (try simp only [List.length_append, leL_length]); omega) _).mono ?_
        rw [TP.out]
        rintro e w5 ⟨rfl, hb⟩
        have S := Lib.hid (S.out.trans (hb.mono S.out.size))
        try have R := Lib.hid (below_block hb (row_lt R.out) R.out)
        clear hb
        refine hK.out _ _ (S.out) ?_
        clear hK K
        refine road_t rfl rfl (fun K hK => ?_)
        refine storeW_wp 82 (.tmp 12) (.tmp 45) rfl M9 (W8 T) rfl rfl _ _ R.out (info_16 TL.out) (by rw [W8_size, W8_size, TL.out]; rfl) (W8_one _) ?_
        intro w9 hz9 hg9 _
        have R := Lib.hid hz9
        have S := Lib.hid (S.out.trans (grown_below hg9 S.out.size (by rintro g ⟨⟩; exact MS.out)))
        clear hz9 hg9
        refine hK.out _ _ (S.out) ?_
        clear hK K
        refine road_done ?_
        simp only [Act.put]
        go_wp2_with fail
        go_meet
        exact ⟨M9, rfl, R.out, S.out⟩
    ·
      refine road_t rfl rfl (fun K hK => ?_)
      go_simp
      rw [← Z.out]
      generalize hM : Array.size (World.heap w5) = M9
      generalize hw : World.alloc w5 _ = w6
      have MS := Lib.hid (show w4.heap.size ≤ M9 by rw [← hM]; exact S.out.size)
      have R := Lib.hid (show w6.heap[M9]? = some (.cells (W8 Z16) 82 (0, 0)) by rw [← hw]; exact ha_new _ _ _ hM.symm)
      have S := Lib.hid (show Below w4.heap.size w4 w6 by rw [← hw]; exact S.out.alloc S.out.size _)
      clear hM hw
      generalize hww : w6 = w5 at *
      clear hww
      refine hK.out _ _ (S.out) ?_
      clear hK K
      refine road_t rfl rfl (fun K hK => ?_)
      go_simp
      refine (zeros_any l.length (by have := HL.out; have := HL2.out; omega) _).mono ?_
      rintro e wd ⟨rfl, hw⟩
      rw [hw]
      clear hw wd
      refine hK.out _ _ (S.out) ?_
      clear hK K
      refine road_q rfl rfl (S.out) (fun W hW => run_cat 9 _ (.tmp 26) (.tmp 29) rfl _ _ rfl rfl (by have := HL.out; have := HL2.out; have := zerosL_length l.length; have := zerosL_length l2.length; (try simp only [List.length_append, leL_length]); omega) W) ?_
      simp only [Act.put, List.setIfInBounds_toArray, List.set_cons_zero, List.set_cons_succ]
      refine road_q rfl rfl (S.out) (fun W hW => run_cat 9 _ (.tmp 30) (.tmp 31) rfl _ _ rfl rfl (by have := HL.out; have := HL2.out; have := zerosL_length l.length; have := zerosL_length l2.length; (try simp only [List.length_append, leL_length]); omega) W) ?_
      simp only [Act.put, List.setIfInBounds_toArray, List.set_cons_zero, List.set_cons_succ]
      refine road_t rfl rfl (fun K hK => ?_)
      go_simp
      refine (zeros_any l2.length (by have := HL.out; have := HL2.out; omega) _).mono ?_
      rintro e wd ⟨rfl, hw⟩
      rw [hw]
      clear hw wd
      refine hK.out _ _ (S.out) ?_
      clear hK K
      refine road_q rfl rfl (S.out) (fun W hW => run_cat 9 _ (.tmp 32) (.tmp 35) rfl _ _ rfl rfl (by have := HL.out; have := HL2.out; have := zerosL_length l.length; have := zerosL_length l2.length; (try simp only [List.length_append, leL_length]); omega) W) ?_
      simp only [Act.put, List.setIfInBounds_toArray, List.set_cons_zero, List.set_cons_succ]
      refine road_t rfl rfl (fun K hK => ?_)
      go_simp
      refine (length_any l.length (by have := HL.out; have := HL2.out; omega) _).mono ?_
      rintro e w5 ⟨rfl, hb⟩
      have S := Lib.hid (S.out.trans (hb.mono S.out.size))
      try have R := Lib.hid (below_block hb (row_lt R.out) R.out)
      clear hb
      refine hK.out _ _ (S.out) ?_
      clear hK K
      refine road_q rfl rfl (S.out) (fun W hW => run_cat 9 _ (.tmp 36) (.tmp 39) rfl _ _ rfl rfl (by have := HL.out; have := HL2.out; have := zerosL_length l.length; have := zerosL_length l2.length; (try simp only [List.length_append, leL_length]); omega) W) ?_
      simp only [Act.put, List.setIfInBounds_toArray, List.set_cons_zero, List.set_cons_succ]
      refine road_t rfl rfl (fun K hK => ?_)
      go_simp
      refine (length_any l2.length (by have := HL.out; have := HL2.out; omega) _).mono ?_
      rintro e w5 ⟨rfl, hb⟩
      have S := Lib.hid (S.out.trans (hb.mono S.out.size))
      try have R := Lib.hid (below_block hb (row_lt R.out) R.out)
      clear hb
      refine hK.out _ _ (S.out) ?_
      clear hK K
      refine road_q rfl rfl (S.out) (fun W hW => run_cat 9 _ (.tmp 40) (.tmp 43) rfl _ _ rfl rfl (by have := HL.out; have := HL2.out; have := zerosL_length l.length; have := zerosL_length l2.length; (try simp only [List.length_append, leL_length]); omega) W) ?_
      simp only [Act.put, List.setIfInBounds_toArray, List.set_cons_zero, List.set_cons_succ]
      refine road_t rfl rfl (fun K hK => ?_)
      go_simp
      refine (rpsum_any Kh KL.out _ _ rfl (by have := HL.out; have := HL2.out; have := zerosL_length l.length; have := zerosL_length l2.length; (try simp only [List.length_append, leL_length]); omega) _).mono ?_
      rw [TP.out]
      rintro e w5 ⟨rfl, hb⟩
      have S := Lib.hid (S.out.trans (hb.mono S.out.size))
      try have R := Lib.hid (below_block hb (row_lt R.out) R.out)
      clear hb
      refine hK.out _ _ (S.out) ?_
      clear hK K
      refine road_t rfl rfl (fun K hK => ?_)
      refine storeW_wp 82 (.tmp 12) (.tmp 45) rfl M9 (W8 T) rfl rfl _ _ R.out (info_16 TL.out) (by rw [W8_size, W8_size, TL.out]; rfl) (W8_one _) ?_
      intro w9 hz9 hg9 _
      have R := Lib.hid hz9
      have S := Lib.hid (S.out.trans (grown_below hg9 S.out.size (by rintro g ⟨⟩; exact MS.out)))
      clear hz9 hg9
      refine hK.out _ _ (S.out) ?_
      clear hK K
      refine road_done ?_
      simp only [Act.put]
      go_wp2_with fail
      go_meet
      exact ⟨M9, rfl, R.out, S.out⟩
  case rest =>
  obtain ⟨M9, rfl, hr, hb⟩ := hcut
  have R := Lib.hid (RdB.row hr)
  have BF := Lib.hid (S.out.bel.trans (hb.mono S.out.bel.size))
  clear hr hb
  go_wp2_with (first
    | (refine wpList_val rfl (run_arr_all 82 (.tmp 12) rfl 16 5 Try.underlying82 I0.out M9 rfl _) ?_)
    | (refine wpList_val rfl (run_str 23 9 (.tmp 46) rfl Try.underlying23 Try.underlying5 Try.underlying9 R.out 16 16 TL.out rfl) ?_))
  go_ret
  exact ⟨rfl, BF.out⟩

set_option maxRecDepth 100000 in
set_option maxHeartbeats 2000000 in
theorem rseal_any (k n : List UInt8) (hk : k.length = 32) (hn : n.length = 12) (l l2 : List UInt8) (hl : l.length ≤ 1000) (hl2 : l2.length ≤ 1000) (w : World) :
    Calls Try.prog 35 #[.string (strB k), .string (strB n), .string (strB l), .string (strB l2)] w fun e w' => e = .returned (.string (strB (sealL k n l l2))) ∧ Below w.heap.size w w' := by
  have HK := Lib.hid hk
  have HN := Lib.hid hn
  have HL := Lib.hid hl
  have HL2 := Lib.hid hl2
  obtain ⟨X, hX⟩ : ∃ X, X = streamL k n 1 l2 := ⟨_, rfl⟩
  obtain ⟨T, hT⟩ : ∃ T, T = tagL k n l X := ⟨_, rfl⟩
  have XE := Lib.hid hX
  have TE := Lib.hid hT
  have XL := Lib.hid (show X.length ≤ 1000 by rw [hX, streamL_length]; exact hl2)
  have TL := Lib.hid (show T.length = 16 by rw [hT, tagL_length])
  have SE := Lib.hid (show X ++ T = sealL k n l l2 by rw [hT, hX]; rfl)
  rw [← SE.out]
  clear hk hn hl hl2 hX hT
  go_enter Try.func35, Try.ntmps35
  go_wp2_with fail
  refine (refStream_any k n HK.out HN.out 1 l2 HL2.out w).mono ?_
  rw [← XE.out]
  rintro e w1 ⟨rfl, hb⟩
  have S := Lib.hid hb
  clear hb
  go_wp2_with fail
  refine (rtag_any k n HK.out HN.out l X HL.out XL.out w1).mono ?_
  rw [← TE.out]
  rintro e w2 ⟨rfl, hb⟩
  have S := Lib.hid (S.out.trans (hb.mono S.out.size))
  clear hb
  go_wp2_with (refine wpList_val rfl (run_cat 9 _ (.tmp 14) (.tmp 19) rfl X T rfl rfl (by have := XL.out; have := TL.out; omega) _) ?_)
  go_ret
  exact ⟨rfl, S.out⟩
theorem run_neqstr_true {P : Program} {o : Oper} {a : Act} (t t2 : TypeId) (x y : Operand) (ho : o.op = .binOp .neq t x y t2) (l l' : List UInt8) (h : l ≠ l') (hx : a.eval x = .string (strB l)) (hy : a.eval y = .string (strB l')) (W : World) : (execOp a.eval o).run P W = .ok (.value (.bool true)) W := by
  have e : ((strB l).toList == (strB l').toList) = false := by rw [strB_beq]; simpa using h
  unfold execOp
  simp only [ho, hx, hy, Sem.run_bind, Sem.run_pure]
  go_simp
def ROpenP (w : World) (r : Option (List UInt8)) (e : Ending) (w' : World) : Prop := e = .returned (.tuple #[.string (strB (r.getD [])), .bool r.isSome]) ∧ Below w.heap.size w w'
set_option maxRecDepth 100000 in
set_option maxHeartbeats 4000000 in
theorem ropen_any (k n : List UInt8) (hk : k.length = 32) (hn : n.length = 12) (l l2 : List UInt8) (q : Nat) (hq : l2.length = q) (hl : l.length ≤ 1000) (hl2 : q ≤ 1000) (w : World) :
    Calls Try.prog 36 #[.string (strB k), .string (strB n), .string (strB l), .string (strB l2)] w (ROpenP w (openL k n l l2)) := by
  have HK := Lib.hid hk
  have HN := Lib.hid hn
  have HL := Lib.hid hl
  have HQ := Lib.hid hq
  have HQ2 := Lib.hid hl2
  have SZ := strB_size l2
  rw [hq] at SZ
  have qb : (q : Int) ≤ 1000 := by omega
  clear hk hn hl hq hl2
  by_cases h16 : q < 16
  · have OE := Lib.hid (show openL k n l l2 = none by rw [openL, if_pos (by rw [HQ.out]; exact h16)])
    have hD : decide ((q : Int) - 16 < 0) = true := by simp; omega
    rw [OE.out]
    go_enter Try.func36, Try.ntmps36
    go_upto_region 2 with fail
    clear SZ
    have B := Lib.hid (show Below w.heap.size w w.drew from (Below.refl _ _).drew)
    refine wp_region_road (fun W => Below w.heap.size w W) [(true, 0), (true, 1), (true, 2), (true, 3), (true, 4), (true, 5), (true, 6), (true, 7), (true, 8), (true, 10), (true, 11), (true, 12), (false, 9), (true, 13), (true, 14)] (by kernel_rfl) (by kernel_rfl) (fun _ _ d _ _ h => by cases d <;> exact h) ?_
    simp only [List.filterMap_cons, List.filterMap_nil, List.getElem?_toArray, List.getElem?_cons_zero, List.getElem?_cons_succ, Option.map_some]
    refine planG_q (v := ?_) (by rfl) (B.out) ?_ ?_
    rotate_left
    · intro W hW
      go_simp
      with_reducible rfl
    simp only [Act.put, List.setIfInBounds_toArray, List.set_cons_zero, List.set_cons_succ]
    refine planG_q (v := ?_) (by rfl) (B.out) ?_ ?_
    rotate_left
    · intro W hW
      go_simp
      with_reducible rfl
    simp only [Act.put, List.setIfInBounds_toArray, List.set_cons_zero, List.set_cons_succ]
    refine planG_q (v := ?_) (by rfl) (B.out) ?_ ?_
    rotate_left
    · intro W hW
      go_simp
      with_reducible rfl
    simp only [Act.put, List.setIfInBounds_toArray, List.set_cons_zero, List.set_cons_succ]
    refine planG_qs (by rfl) (B.out) ?_
    simp only [Act.put, List.setIfInBounds_toArray, List.set_cons_zero, List.set_cons_succ]
    refine planG_qs (by rfl) (B.out) ?_
    simp only [Act.put, List.setIfInBounds_toArray, List.set_cons_zero, List.set_cons_succ]
    refine planG_qs (by rfl) (B.out) ?_
    simp only [Act.put, List.setIfInBounds_toArray, List.set_cons_zero, List.set_cons_succ]
    refine planG_qs (by rfl) (B.out) ?_
    simp only [Act.put, List.setIfInBounds_toArray, List.set_cons_zero, List.set_cons_succ]
    refine planG_qs (by rfl) (B.out) ?_
    simp only [Act.put, List.setIfInBounds_toArray, List.set_cons_zero, List.set_cons_succ]
    refine planG_qs (by rfl) (B.out) ?_
    simp only [Act.put, List.setIfInBounds_toArray, List.set_cons_zero, List.set_cons_succ]
    refine planG_qs (by rfl) (B.out) ?_
    simp only [Act.put, List.setIfInBounds_toArray, List.set_cons_zero, List.set_cons_succ]
    refine planG_qs (by rfl) (B.out) ?_
    simp only [Act.put, List.setIfInBounds_toArray, List.set_cons_zero, List.set_cons_succ]
    refine planG_qs (by rfl) (B.out) ?_
    simp only [Act.put, List.setIfInBounds_toArray, List.set_cons_zero, List.set_cons_succ]
    refine planG_ts (by rfl) (B.out) ?_
    simp only [Act.put, List.setIfInBounds_toArray, List.set_cons_zero, List.set_cons_succ]
    refine planG_qs (by rfl) (B.out) ?_
    simp only [Act.put, List.setIfInBounds_toArray, List.set_cons_zero, List.set_cons_succ]
    refine planG_q (v := ?_) (by rfl) (B.out) ?_ ?_
    rotate_left
    · intro W hW
      go_simp
      with_reducible rfl
    simp only [Act.put, List.setIfInBounds_toArray, List.set_cons_zero, List.set_cons_succ]
    refine planG_nil ?_
    go_wp2_with fail
    go_ret2
    exact ⟨rfl, B.out⟩
  · obtain ⟨at_, hat⟩ : ∃ a, q = a + 16 := ⟨q - 16, by omega⟩
    have e1 : (q : Int) - 16 = (at_ : Int) := by omega
    have hD : decide ((at_ : Int) < 0) = false := by simp
    have AE := Lib.hid hat
    obtain ⟨X, hX⟩ : ∃ X, X = l2.take at_ := ⟨_, rfl⟩
    obtain ⟨T, hT⟩ : ∃ T, T = tagL k n l X := ⟨_, rfl⟩
    obtain ⟨Y, hY⟩ : ∃ Y, Y = l2.drop at_ := ⟨_, rfl⟩
    have TE := Lib.hid hT
    have XE := Lib.hid hX.symm
    have YE := Lib.hid hY.symm
    have XL := Lib.hid (show X.length ≤ 1000 by rw [hX, List.length_take, HQ.out]; have := HQ2.out; omega)
    have RE := Lib.hid (show openL k n l l2 = if T = Y then some (streamL k n 1 X) else none by
      rw [openL, if_neg (by rw [HQ.out, AE.out]; omega), hT, hY, hX, show l2.length - 16 = at_ by rw [HQ.out, AE.out]; omega])
    rw [RE.out]
    clear hat h16 hX hT hY
    go_enter Try.func36, Try.ntmps36
    go_upto_region 2 with fail
    clear SZ e1
    have B := Lib.hid (show Below w.heap.size w w.drew from (Below.refl _ _).drew)
    by_cases hTY : T = Y
    · rw [if_pos hTY]
      have TY := Lib.hid hTY
      clear hTY
      refine wp_region_road (fun W => Below w.heap.size w W) [(true, 0), (true, 1), (true, 2), (true, 3), (true, 4), (true, 5), (true, 6), (true, 7), (true, 8), (true, 10), (true, 11), (true, 12), (false, 9), (true, 13), (true, 14)] (by kernel_rfl) (by kernel_rfl) (fun _ _ d _ _ h => by cases d <;> exact h) ?_
      simp only [List.filterMap_cons, List.filterMap_nil, List.getElem?_toArray, List.getElem?_cons_zero, List.getElem?_cons_succ, Option.map_some]
      refine planG_q (v := ?_) (by rfl) (B.out) ?_ ?_
      rotate_left
      · intro W hW
        go_simp
        with_reducible rfl
      simp only [Act.put, List.setIfInBounds_toArray, List.set_cons_zero, List.set_cons_succ]
      refine planG_q (v := ?_) (by rfl) (B.out) ?_ ?_
      rotate_left
      · intro W hW
        go_simp
        with_reducible rfl
      simp only [Act.put, List.setIfInBounds_toArray, List.set_cons_zero, List.set_cons_succ]
      refine planG_q (v := ?_) (by rfl) (B.out) ?_ ?_
      rotate_left
      · intro W hW
        go_simp
        with_reducible rfl
      simp only [Act.put, List.setIfInBounds_toArray, List.set_cons_zero, List.set_cons_succ]
      refine planG_q (v := ?_) (by rfl) (B.out) ?_ ?_
      rotate_left
      · intro W hW
        go_simp
        with_reducible rfl
      simp only [Act.put, List.setIfInBounds_toArray, List.set_cons_zero, List.set_cons_succ]
      refine planG_q (v := ?_) (by rfl) (B.out) ?_ ?_
      rotate_left
      · intro W hW
        go_simp
        with_reducible rfl
      simp only [Act.put, List.setIfInBounds_toArray, List.set_cons_zero, List.set_cons_succ]
      refine planG_q (v := ?_) (by rfl) (B.out) ?_ ?_
      rotate_left
      · intro W hW
        go_simp
        with_reducible rfl
      simp only [Act.put, List.setIfInBounds_toArray, List.set_cons_zero, List.set_cons_succ]
      refine planG_q (v := ?_) (by rfl) (B.out) ?_ ?_
      rotate_left
      · intro W hW
        go_simp
        with_reducible rfl
      simp only [Act.put, List.setIfInBounds_toArray, List.set_cons_zero, List.set_cons_succ]
      refine planG_q (v := ?_) (by rfl) (B.out) ?_ ?_
      rotate_left
      · intro W hW
        go_simp
        with_reducible rfl
      simp only [Act.put, List.setIfInBounds_toArray, List.set_cons_zero, List.set_cons_succ]
      refine planG_q (by rfl) (B.out) (fun W hW => run_str_to 9 (.tmp 20) (.tmp 21) rfl Try.underlying9 l2 at_ (by rw [HQ.out, AE.out]; omega) rfl rfl W) ?_
      simp only [Act.put, List.setIfInBounds_toArray, List.set_cons_zero, List.set_cons_succ]
      rw [XE.out]
      refine planG_q (v := ?_) (by rfl) (B.out) ?_ ?_
      rotate_left
      · intro W hW
        go_simp
        with_reducible rfl
      simp only [Act.put, List.setIfInBounds_toArray, List.set_cons_zero, List.set_cons_succ]
      refine planG_q (v := ?_) (by rfl) (B.out) ?_ ?_
      rotate_left
      · intro W hW
        go_simp
        with_reducible rfl
      simp only [Act.put, List.setIfInBounds_toArray, List.set_cons_zero, List.set_cons_succ]
      refine planG_q (by rfl) (B.out) (fun W hW => run_str_from 9 (.tmp 24) (.tmp 25) rfl Try.underlying9 l2 at_ (by rw [HQ.out, AE.out]; omega) rfl rfl W) ?_
      simp only [Act.put, List.setIfInBounds_toArray, List.set_cons_zero, List.set_cons_succ]
      rw [YE.out]
      refine planG_t (by rfl) (fun K hK => ?_)
      go_simp
      refine (rtag_any k n HK.out HN.out l X HL.out XL.out _).mono ?_
      rw [← TE.out]
      rintro e w1 ⟨rfl, hb⟩
      have B := Lib.hid (B.out.trans (hb.mono B.out.size))
      clear hb
      refine hK.out _ _ (B.out) ?_
      clear hK K
      refine planG_q (by rfl) (B.out) (fun W hW => run_neqstr_false 9 9 (.tmp 23) (.tmp 26) rfl T Y TY.out rfl rfl W) ?_
      simp only [Act.put, List.setIfInBounds_toArray, List.set_cons_zero, List.set_cons_succ]
      refine planG_q (v := ?_) (by rfl) (B.out) ?_ ?_
      rotate_left
      · intro W hW
        go_simp
        with_reducible rfl
      simp only [Act.put, List.setIfInBounds_toArray, List.set_cons_zero, List.set_cons_succ]
      refine planG_nil ?_
      go_wp2_with (refine wpList_val rfl (run_str_to 9 (.tmp 31) (.tmp 32) rfl Try.underlying9 l2 at_ (by rw [HQ.out, AE.out]; omega) rfl rfl _) ?_)
      rw [XE.out]
      refine (refStream_any k n HK.out HN.out 1 X XL.out w1).mono ?_
      rintro e w2 ⟨rfl, hb⟩
      have B := Lib.hid (B.out.trans (hb.mono B.out.size))
      clear hb
      go_wp2_with fail
      go_ret2
      exact ⟨rfl, B.out⟩
    · rw [if_neg hTY]
      have TY := Lib.hid hTY
      clear hTY
      refine wp_region_road (fun W => Below w.heap.size w W) [(true, 0), (true, 1), (true, 2), (true, 3), (true, 4), (true, 5), (true, 6), (true, 7), (true, 8), (true, 10), (true, 11), (true, 12), (false, 9), (true, 13), (true, 14)] (by kernel_rfl) (by kernel_rfl) (fun _ _ d _ _ h => by cases d <;> exact h) ?_
      simp only [List.filterMap_cons, List.filterMap_nil, List.getElem?_toArray, List.getElem?_cons_zero, List.getElem?_cons_succ, Option.map_some]
      refine planG_q (v := ?_) (by rfl) (B.out) ?_ ?_
      rotate_left
      · intro W hW
        go_simp
        with_reducible rfl
      simp only [Act.put, List.setIfInBounds_toArray, List.set_cons_zero, List.set_cons_succ]
      refine planG_q (v := ?_) (by rfl) (B.out) ?_ ?_
      rotate_left
      · intro W hW
        go_simp
        with_reducible rfl
      simp only [Act.put, List.setIfInBounds_toArray, List.set_cons_zero, List.set_cons_succ]
      refine planG_q (v := ?_) (by rfl) (B.out) ?_ ?_
      rotate_left
      · intro W hW
        go_simp
        with_reducible rfl
      simp only [Act.put, List.setIfInBounds_toArray, List.set_cons_zero, List.set_cons_succ]
      refine planG_q (v := ?_) (by rfl) (B.out) ?_ ?_
      rotate_left
      · intro W hW
        go_simp
        with_reducible rfl
      simp only [Act.put, List.setIfInBounds_toArray, List.set_cons_zero, List.set_cons_succ]
      refine planG_q (v := ?_) (by rfl) (B.out) ?_ ?_
      rotate_left
      · intro W hW
        go_simp
        with_reducible rfl
      simp only [Act.put, List.setIfInBounds_toArray, List.set_cons_zero, List.set_cons_succ]
      refine planG_q (v := ?_) (by rfl) (B.out) ?_ ?_
      rotate_left
      · intro W hW
        go_simp
        with_reducible rfl
      simp only [Act.put, List.setIfInBounds_toArray, List.set_cons_zero, List.set_cons_succ]
      refine planG_q (v := ?_) (by rfl) (B.out) ?_ ?_
      rotate_left
      · intro W hW
        go_simp
        with_reducible rfl
      simp only [Act.put, List.setIfInBounds_toArray, List.set_cons_zero, List.set_cons_succ]
      refine planG_q (v := ?_) (by rfl) (B.out) ?_ ?_
      rotate_left
      · intro W hW
        go_simp
        with_reducible rfl
      simp only [Act.put, List.setIfInBounds_toArray, List.set_cons_zero, List.set_cons_succ]
      refine planG_q (by rfl) (B.out) (fun W hW => run_str_to 9 (.tmp 20) (.tmp 21) rfl Try.underlying9 l2 at_ (by rw [HQ.out, AE.out]; omega) rfl rfl W) ?_
      simp only [Act.put, List.setIfInBounds_toArray, List.set_cons_zero, List.set_cons_succ]
      rw [XE.out]
      refine planG_q (v := ?_) (by rfl) (B.out) ?_ ?_
      rotate_left
      · intro W hW
        go_simp
        with_reducible rfl
      simp only [Act.put, List.setIfInBounds_toArray, List.set_cons_zero, List.set_cons_succ]
      refine planG_q (v := ?_) (by rfl) (B.out) ?_ ?_
      rotate_left
      · intro W hW
        go_simp
        with_reducible rfl
      simp only [Act.put, List.setIfInBounds_toArray, List.set_cons_zero, List.set_cons_succ]
      refine planG_q (by rfl) (B.out) (fun W hW => run_str_from 9 (.tmp 24) (.tmp 25) rfl Try.underlying9 l2 at_ (by rw [HQ.out, AE.out]; omega) rfl rfl W) ?_
      simp only [Act.put, List.setIfInBounds_toArray, List.set_cons_zero, List.set_cons_succ]
      rw [YE.out]
      refine planG_t (by rfl) (fun K hK => ?_)
      go_simp
      refine (rtag_any k n HK.out HN.out l X HL.out XL.out _).mono ?_
      rw [← TE.out]
      rintro e w1 ⟨rfl, hb⟩
      have B := Lib.hid (B.out.trans (hb.mono B.out.size))
      clear hb
      refine hK.out _ _ (B.out) ?_
      clear hK K
      refine planG_q (by rfl) (B.out) (fun W hW => run_neqstr_true 9 9 (.tmp 23) (.tmp 26) rfl T Y TY.out rfl rfl W) ?_
      simp only [Act.put, List.setIfInBounds_toArray, List.set_cons_zero, List.set_cons_succ]
      refine planG_q (v := ?_) (by rfl) (B.out) ?_ ?_
      rotate_left
      · intro W hW
        go_simp
        with_reducible rfl
      simp only [Act.put, List.setIfInBounds_toArray, List.set_cons_zero, List.set_cons_succ]
      refine planG_nil ?_
      go_wp2_with fail
      go_ret2
      exact ⟨rfl, B.out⟩
end Go.Proofs.Ytldjiigkebkgcaa

/- The document's box: Seal. No condition but those each theorem states. -/
namespace Go.Proofs.Ytldjiigkebkgcaa
set_option linter.unusedVariables false
set_option linter.unusedSimpArgs false
open Go.RowKit
attribute [local go_sem ↓] Go.wp_at_zero Go.wp_at_succ

/-- So many tries. -/
def idealR (k bs t : List UInt8) : Nat → RBx → RBx × Option (List UInt8)
  | 0, s => (s, none)
  | i + 1, s =>
    if knownR s.L (tellS s.F s.u (t.length + 28)) then idealR k bs t i { s with u := s.u + (t.length + 28) }
    else ({ s with u := s.u + (t.length + 28), L := s.L ++ [⟨tellS s.F s.u (t.length + 28), k, bs, t⟩] }, some (tellS s.F s.u (t.length + 28)))
/-- The document's sealing. -/
def sealR8 (s : RBx) (k bs t : List UInt8) : RBx × Option (List UInt8) :=
  if s.mode = 0 then ({ s with u := s.u + 12, L := s.L ++ [⟨tellS s.F s.u 12 ++ sealL k (tellS s.F s.u 12) bs t, [], [], []⟩] }, some (tellS s.F s.u 12 ++ sealL k (tellS s.F s.u 12) bs t))
  else idealR k bs t 8 s
/-- What it hands back. -/
def RSealP (w : World) (A0 : Option Addr) (r : RBx × Option (List UInt8)) (e : Ending) (w' : World) : Prop :=
  ∃ A n c, e = .returned (.tuple #[.agg (RBC r.1.mode r.1.F r.1.u A n c), .string (strB (r.2.getD [])), .int .i64 (if r.2.isSome then 0 else 15)]) ∧ RdV w' A (EC r.1.L) ∧ r.1.L.length = n ∧ n ≤ c ∧ (∀ a, A = some a → (w.heap.size ≤ a.block ∧ a.block < w'.heap.size) ∨ A0 = some a) ∧ Below w.heap.size w w'
theorem EntK : SlK Try.prog 51 57 (.agg #[.string ⟨#[]⟩, .string ⟨#[]⟩, .string ⟨#[]⟩, .string ⟨#[]⟩]) 4 64 := ⟨Try.underlying51, by kernel_rfl, rfl, by omega⟩
theorem strB_nil' : (⟨#[]⟩ : ByteArray) = strB [] := rfl
set_option maxRecDepth 100000 in
set_option maxHeartbeats 4000000 in
theorem rbseal_real (F : List UInt8) (u : Nat) (A : Option Addr) (n c : Nat) (L : List REnt) (hn : L.length = n) (hc : n ≤ c) (w : World) (hR : RdV w A (EC L)) (k bs t : List UInt8) (hk : k.length = 32) (hbs : bs.length ≤ 1000) (ht : t.length ≤ 1000)
    (hF : F.length ≤ 2900) (hu : u ≤ 800000) (hL : n ≤ 10000) :
    Calls Try.prog 18 #[.agg (RBC 0 F u A n c), .string (strB k), .string (strB bs), .string (strB t)] w (RSealP w A (sealR8 ⟨0, F, u, L⟩ k bs t)) := by
  have HN := Lib.hid hn
  have HC := Lib.hid hc
  have RL := Lib.hid hR
  have HK := Lib.hid hk
  have HB := Lib.hid hbs
  have HT := Lib.hid ht
  have HF := Lib.hid hF
  have HU := Lib.hid hu
  have HL := Lib.hid hL
  have s1 := strB_size t
  have s2 := strB_size bs
  have d1 : decide ((65536 : Int) < (t.length : Int)) = false := by simp; omega
  have d2 : decide ((65536 : Int) < (bs.length : Int)) = false := by simp; omega
  have d3 : decide (65536 < t.length) = false := by simp; omega
  have d4 : decide (65536 < bs.length) = false := by simp; omega
  obtain ⟨N, hN⟩ : ∃ N, N = tellS F u 12 := ⟨_, rfl⟩
  have NE := Lib.hid hN
  have NL := Lib.hid (show N.length = 12 by rw [hN, tellS_length])
  obtain ⟨T, hT⟩ : ∃ T, T = sealL k N bs t := ⟨_, rfl⟩
  have TE := Lib.hid hT
  have TL := Lib.hid (show T.length = t.length + 16 by rw [hT, sealL_length])
  obtain ⟨X, hX⟩ : ∃ X, X = N ++ T := ⟨_, rfl⟩
  have XE := Lib.hid hX
  obtain ⟨r, hr⟩ : ∃ r, r = sealR8 ⟨0, F, u, L⟩ k bs t := ⟨_, rfl⟩
  have SE := Lib.hid (show r = (⟨0, F, u + 12, L ++ [⟨X, [], [], []⟩]⟩, some X) by rw [hr, sealR8, if_pos rfl, hX, hT, hN])
  rw [← hr]
  have hcat : ¬ 9223372036854775807 < (strB N).size + (strB T).size := by rw [strB_size, strB_size, NL.out, TL.out]; omega
  obtain ⟨cs, hcs⟩ : ∃ cs, cs = RBC 0 F u A n c := ⟨_, rfl⟩
  have CE := Lib.hid hcs
  have CZ := Lib.hid (show (Try.prog.info? 53).map (·.size) = some cs.size by rw [hcs]; exact info_rbx)
  rw [← hcs]
  clear hn hc hR hk hbs ht hF hu hL hN hT hcs hr hX
  go_enter Try.func18, Try.ntmps18
  go_upto_region 1 with fail
  generalize hw1 : World.alloc w _ = w1
  generalize hw2 : World.alloc w1 _ = w2
  have R2 := Lib.hid (show w2.heap[w.heap.size]? = some (.cells cs 53 (0, 0)) by rw [← hw2, ← hw1]; exact ha_old _ _ _ (by simp) (ha_new _ _ _ rfl))
  have Z2 := Lib.hid (show w2.heap[w.heap.size + 1]? = some (.cells RBZ 53 (0, 0)) by rw [← hw2, ← hw1]; exact ha_new _ _ _ (by simp))
  have B2 := Lib.hid (show Below w.heap.size w w2 by rw [← hw2, ← hw1]; exact (below_new _ _).trans ((below_new _ _).mono (by simp)))
  clear hw1 hw2
  have c0 := row_cell R2.out 0 (show cs[0]? = some (.int .i64 0) by rw [CE.out]; rfl)
  go_upto_region 4 with fail
  clear c0 d1 d2 d3 d4 s1 s2
  go_wp2_with (refine wpList_val rfl (run_load_row 53 (.tmp 4) rfl w.heap.size rfl 53 cs (0, 0) _ R2.out Try.underlying53 rfl CZ.out) ?_)
  rw [CE.out]
  refine (rdraw_any 0 F u A n c HF.out (by have := HU.out; omega) 12 (by omega) w2).mono ?_
  rw [← CE.out, ← NE.out]
  rintro e w3 ⟨rfl, hb3⟩
  obtain ⟨ds, hds⟩ : ∃ ds, ds = RBC 0 F (u + 12) A n c := ⟨_, rfl⟩
  have DE := Lib.hid hds
  have DZ := Lib.hid (show (Try.prog.info? 53).map (·.size) = some ds.size by rw [hds]; exact info_rbx)
  have DO := Lib.hid (show ds.all (·.oneCell') = true by rw [hds]; exact RBC_one _ _ _ _ _ _)
  have DS := Lib.hid (show ds.size = 4 by rw [hds]; rfl)
  rw [← hds]
  have Z3 := Lib.hid (below_block hb3 (row_lt Z2.out) Z2.out)
  have B3 := Lib.hid (B2.out.trans (hb3.mono B2.out.size))
  clear hb3 hds
  go_upto_region 5 with (refine wpList_store_new rfl rfl 53 (.tmp 11) (.tmp 32) rfl ds rfl rfl DZ.out ?c1 DO.out ?_)
  case c1 => rw [DS.out]; rfl
  generalize hM : Array.size (World.heap w3) = M
  generalize hw4 : World.alloc w3 _ = w4
  have R4 := Lib.hid (show w4.heap[M]? = some (.cells ds 53 (0, 0)) by rw [← hw4]; exact ha_new _ _ _ hM.symm)
  have Z4 := Lib.hid (show w4.heap[w.heap.size + 1]? = some (.cells RBZ 53 (0, 0)) by rw [← hw4]; exact ha_old _ _ _ (row_lt Z3.out) Z3.out)
  have B4 := Lib.hid (show Below w.heap.size w w4 by rw [← hw4]; exact B3.out.alloc B3.out.size _)
  have MG := Lib.hid (show w.heap.size + 1 < M by rw [← hM]; exact row_lt Z3.out)
  clear hM hw4
  go_wp2_with fail
  refine (rseal_any k N HK.out NL.out bs t HB.out HT.out w4).mono ?_
  rw [← TE.out]
  rintro e w5 ⟨rfl, hb5⟩
  have R5 := Lib.hid (below_block hb5 (row_lt R4.out) R4.out)
  have Z5 := Lib.hid (below_block hb5 (row_lt Z4.out) Z4.out)
  have B5 := Lib.hid (B4.out.trans (hb5.mono B4.out.size))
  clear hb5
  go_upto_region 6 with fail
  rw [strB_append, ← XE.out]
  clear hcat
  have c3 := row_cell R5.out 3 (show ds[3]? = some (.slice A n c) by rw [DE.out]; rfl)
  have C3 := Lib.hid c3
  have M5 := Lib.hid (row_lt R5.out)
  clear c3
  refine wp_region_list ?_
  simp only [List.toList_toArray]
  refine wpList_op (by rfl) (fun K hK => ?_)
  go_simp
  refine hK.out _ _ ?_
  clear hK K
  refine wpList_val (v := ?_) (by rfl) ?_ ?_
  rotate_left
  · go_simp
    with_reducible rfl
  simp only [Act.put, List.setIfInBounds_toArray, List.set_cons_zero, List.set_cons_succ]
  refine wpList_val (by rfl) (run_cell 51 (.tmp 42) rfl _ Try.underlying51 rfl rfl (cell_alloc C3.out _)) ?_
  simp only [Act.put, List.setIfInBounds_toArray, List.set_cons_zero, List.set_cons_succ]
  refine wpList_op (by rfl) (fun K hK => ?_)
  refine appK_wp EntK (.tmp 41) (.tmp 43) rfl w5.heap.size _ 0 [] (EC L) A n c rfl rfl (by rw [EC_length, HN.out]) (OwnK.made w5 w5.heap.size _ 4 (Nat.le_refl _)) ((RL.out.keep B5.out).keep (below_new _ _)) (EC_one L) (by simp) (by have := HL.out; omega) (by have := HL.out; omega) ?_
  intro v6 w6 ho6 hg6 _
  have O6 := Lib.hid (show OwnK w6 w5.heap.size 57 4 v6 n (EC L) by simpa using ho6)
  have R6 := Lib.hid (show w6.heap[M]? = some (.cells ds 53 (0, 0)) from grown_block hg6 (fun e => by have e : M = w5.heap.size := Option.some.inj e; have := M5.out; omega) (ha_old _ _ _ M5.out R5.out))
  have Z6 := Lib.hid (show w6.heap[w.heap.size + 1]? = some (.cells RBZ 53 (0, 0)) from grown_block hg6 (fun e => by have e : w.heap.size + 1 = w5.heap.size := Option.some.inj e; have := M5.out; have := MG.out; omega) (ha_old _ _ _ (row_lt Z5.out) Z5.out))
  have B6 := Lib.hid (show Below w.heap.size w w6 from (B5.out.alloc B5.out.size _).trans (grown_below hg6 (Nat.le_trans B5.out.size (by simp)) (fun g e => by have e : w5.heap.size = g := Option.some.inj e; have := B5.out.size; omega)))
  have S56 := Lib.hid (show w5.heap.size ≤ w6.heap.size from Nat.le_trans (by simp) hg6.size)
  clear ho6 hg6
  refine hK.out _ _ ?_
  clear hK K
  simp only [Act.put, List.setIfInBounds_toArray, List.set_cons_zero, List.set_cons_succ]
  refine wpList_val (v := ?_) (by rfl) ?_ ?_
  rotate_left
  · go_simp
    with_reducible rfl
  simp only [Act.put, List.setIfInBounds_toArray, List.set_cons_zero, List.set_cons_succ]
  refine wpList_val (v := ?_) (by rfl) ?_ ?_
  rotate_left
  · go_simp
    with_reducible rfl
  simp only [Act.put, List.setIfInBounds_toArray, List.set_cons_zero, List.set_cons_succ]
  refine wpList_op (by rfl) (fun K hK => ?_)
  go_simp
  generalize hw7 : World.alloc w6 _ = w7
  have R7 := Lib.hid (show w7.heap[M]? = some (.cells ds 53 (0, 0)) by rw [← hw7]; exact ha_old _ _ _ (row_lt R6.out) R6.out)
  have Z7 := Lib.hid (show w7.heap[w.heap.size + 1]? = some (.cells RBZ 53 (0, 0)) by rw [← hw7]; exact ha_old _ _ _ (row_lt Z6.out) Z6.out)
  have B7 := Lib.hid (show Below w.heap.size w w7 by rw [← hw7]; exact B6.out.alloc B6.out.size _)
  have O7 := Lib.hid (show OwnK w7 w5.heap.size 57 4 v6 n (EC L) by rw [← hw7]; exact O6.out.below (below_new _ _))
  have E7 := Lib.hid (show RdV w7 (some ⟨w6.heap.size, 0, none⟩) (EC [⟨X, [], [], []⟩]) by rw [← hw7]; exact RdV.row (ha_new _ _ _ rfl))
  have S57 := Lib.hid (show w5.heap.size ≤ w7.heap.size by rw [← hw7]; exact Nat.le_trans S56.out (below_new _ _).size)
  clear hw7
  refine hK.out _ _ ?_
  clear hK K
  refine wpList_op (by rfl) (fun K hK => ?_)
  refine appK_wp EntK (.tmp 44) (.tmp 47) rfl w5.heap.size v6 n (EC L) (EC [⟨X, [], [], []⟩]) (some ⟨w6.heap.size, 0, none⟩) 1 1 rfl rfl rfl O7.out E7.out (EC_one _) S57.out (by have := HL.out; omega) (by have := HL.out; omega) ?_
  intro v8 w8 ho8 hg8 _
  have OL := Lib.hid (fun g (e : v6.ownBlock = some g) => O7.out.lt g e)
  obtain ⟨_, A8, c8, rfl, hr8, hc8, _, _⟩ := ho8.read
  have RE := Lib.hid (show RdV w8 A8 (EC (L ++ [⟨X, [], [], []⟩])) by rw [EC_append]; exact hr8)
  have C8 := Lib.hid hc8
  have R8 := Lib.hid (show w8.heap[M]? = some (.cells ds 53 (0, 0)) from grown_block hg8 (fun e => by have := OL.out M e.symm; have := M5.out; omega) R7.out)
  have Z8 := Lib.hid (show w8.heap[w.heap.size + 1]? = some (.cells RBZ 53 (0, 0)) from grown_block hg8 (fun e => by have := OL.out _ e.symm; have := M5.out; have := MG.out; omega) Z7.out)
  have B8 := Lib.hid (B7.out.trans (grown_below hg8 B7.out.size (fun g e => by have := OL.out g e; have := B5.out.size; omega)))
  have AB := Lib.hid (show ∀ a, A8 = some a → w5.heap.size ≤ a.block ∧ a.block < w8.heap.size from fun a ea => by have := ho8.lt a.block (by rw [ea]; rfl); omega)
  clear ho8 hg8 hr8 hc8
  refine hK.out _ _ ?_
  clear hK K
  simp only [Act.put, List.setIfInBounds_toArray, List.set_cons_zero, List.set_cons_succ]
  have c3 := row_cell R8.out 3 (show ds[3]? = some (.slice A n c) by rw [DE.out]; rfl)
  have f3 := row_free R8.out 3
  refine wpList_val (v := ?_) (by rfl) ?_ ?_
  rotate_left
  · go_simp
    with_reducible rfl
  simp only [Act.put, List.setIfInBounds_toArray, List.set_cons_zero, List.set_cons_succ]
  refine wpList_op (by rfl) (fun K hK => ?_)
  go_simp
  generalize hw9 : World.setCell w8 _ _ = w9
  have G9 := Lib.hid (show w8.grownBy w9 (some M) by rw [← hw9]; exact grown_set (World.grownBy.refl _ _) _ _)
  obtain ⟨es, hes⟩ : ∃ es, es = RBC 0 F (u + 12) A8 (n + 1) c8 := ⟨_, rfl⟩
  have EE := Lib.hid hes
  have EZ := Lib.hid (show (Try.prog.info? 53).map (·.size) = some es.size by rw [hes]; exact info_rbx)
  have EO := Lib.hid (show es.all (·.oneCell') = true by rw [hes]; exact RBC_one _ _ _ _ _ _)
  have ES := Lib.hid (show es.size = 4 by rw [hes]; rfl)
  have R9 := Lib.hid (show w9.heap[M]? = some (.cells es 53 (0, 0)) by rw [← hw9, heap_setCell_same _ _ _ _ _ _ R8.out, DE.out, hes]; rfl)
  have Z9 := Lib.hid (grown_block G9.out (fun e => by have e : w.heap.size + 1 = M := Option.some.inj e; have := MG.out; omega) Z8.out)
  have B9 := Lib.hid (B8.out.trans (grown_below G9.out B8.out.size (fun g e => by have e : M = g := Option.some.inj e; have := MG.out; omega)))
  have RE := Lib.hid (show RdV w9 A8 (EC (L ++ [⟨X, [], [], []⟩])) from RE.out.grown G9.out (fun g e a ea => by have e : M = g := Option.some.inj e; have := AB.out a ea; have := M5.out; omega))
  clear hw9 hes c3 f3
  refine hK.out _ _ ?_
  clear hK K
  go_wp2_with (first
    | (refine wpList_val rfl (run_load_row 53 (.tmp 11) rfl M rfl 53 es (0, 0) _ R9.out Try.underlying53 rfl EZ.out) ?_)
    | (refine wpList_store_whole rfl rfl 53 (.tmp 8) (.tmp 50) rfl (w.heap.size + 1) es rfl rfl 53 RBZ Z9.out EZ.out (by rw [ES.out]; rfl) EO.out ?_; intro w10 hz10 hg10 _))
  refine ret_rbx2 (w.heap.size + 1) es _ _ rfl rfl rfl rfl rfl hz10 ES.out ?_
  rw [SE.out]
  refine ⟨A8, n + 1, c8, by rw [EE.out]; rfl, RE.out.grown hg10 (fun g e a ea => by have e : w.heap.size + 1 = g := Option.some.inj e; have := AB.out a ea; have := M5.out; have := MG.out; omega), by simp [HN.out], C8.out, fun a ea => .inl ⟨Nat.le_trans B5.out.size (AB.out a ea).1, Nat.lt_of_lt_of_le (AB.out a ea).2 (Nat.le_trans G9.out.size hg10.size)⟩, B9.out.trans (grown_below hg10 B9.out.size (fun g e => by have e : w.heap.size + 1 = g := Option.some.inj e; omega))⟩
set_option maxRecDepth 100000 in
set_option maxHeartbeats 4000000 in
theorem rbseal_ideal (F : List UInt8) (u : Nat) (A : Option Addr) (n c : Nat) (L : List REnt) (hn : L.length = n) (hc : n ≤ c) (w : World) (hR : RdV w A (EC L)) (k bs t : List UInt8) (hbs : bs.length ≤ 1000) (ht : t.length ≤ 1000)
    (hF : F.length ≤ 2900) (hu : u ≤ 800000) (hL : n ≤ 10000) :
    Calls Try.prog 18 #[.agg (RBC 1 F u A n c), .string (strB k), .string (strB bs), .string (strB t)] w (RSealP w A (sealR8 ⟨1, F, u, L⟩ k bs t)) := by
  have HN := Lib.hid hn
  have HC := Lib.hid hc
  have RL := Lib.hid hR
  have HB := Lib.hid hbs
  have HT := Lib.hid ht
  have HF := Lib.hid hF
  have HU := Lib.hid hu
  have HL := Lib.hid hL
  obtain ⟨q, hq⟩ : ∃ q, q = t.length := ⟨_, rfl⟩
  have QE := Lib.hid hq.symm
  have s1 : (strB t).size = q := by rw [strB_size, hq]
  have s2 := strB_size bs
  have qb : (q : Int) ≤ 1000 := by omega
  have d1 : decide ((65536 : Int) < (q : Int)) = false := by simp; omega
  have d2 : decide ((65536 : Int) < (bs.length : Int)) = false := by simp; omega
  have d3 : decide (65536 < q) = false := by simp; omega
  have d4 : decide (65536 < bs.length) = false := by simp; omega
  obtain ⟨r, hr⟩ : ∃ r, r = sealR8 ⟨1, F, u, L⟩ k bs t := ⟨_, rfl⟩
  have RH := Lib.hid (show idealR k bs t 8 ⟨1, F, u, L⟩ = r by rw [hr, sealR8, if_neg (by simp)])
  rw [← hr]
  obtain ⟨cs, hcs⟩ : ∃ cs, cs = RBC 1 F u A n c := ⟨_, rfl⟩
  have CE := Lib.hid hcs
  rw [← hcs]
  clear hn hc hR hbs ht hF hu hL hcs hr hq
  go_enter Try.func18, Try.ntmps18
  go_upto_region 1 with fail
  generalize hw1 : World.alloc w _ = w1
  generalize hw2 : World.alloc w1 _ = w2
  have R2 := Lib.hid (show w2.heap[w.heap.size]? = some (.cells cs 53 (0, 0)) by rw [← hw2, ← hw1]; exact ha_old _ _ _ (by simp) (ha_new _ _ _ rfl))
  have Z2 := Lib.hid (show w2.heap[w.heap.size + 1]? = some (.cells RBZ 53 (0, 0)) by rw [← hw2, ← hw1]; exact ha_new _ _ _ (by simp))
  have B2 := Lib.hid (show Below w.heap.size w w2 by rw [← hw2, ← hw1]; exact (below_new _ _).trans ((below_new _ _).mono (by simp)))
  clear hw1 hw2
  have c0 := row_cell R2.out 0 (show cs[0]? = some (.int .i64 1) by rw [CE.out]; rfl)
  go_upto_region 8 with fail
  clear c0 d1 d2 d3 d4 s2
  go_wp2_with fail
  go_loopw [14] (fun i wr => ∃ (j u' : Nat), j ≤ 8 ∧ i = .int .i64 (j : Int) ∧ idealR k bs t (8 - j) ⟨1, F, u', L⟩ = r ∧ u' = u + j * (q + 28) ∧ wr.heap[w.heap.size]? = some (.cells (RBC 1 F u' A n c) 53 (0, 0)) ∧ wr.heap[w.heap.size + 1]? = some (.cells RBZ 53 (0, 0)) ∧ Below w.heap.size w wr) (fun i _ => 8 - (intOf i).toNat)
  case atStart => exact ⟨0, u, by omega, rfl, RH.out, by omega, by rw [← CE.out]; exact R2.out, Z2.out, B2.out⟩
  case round =>
    obtain ⟨j, v, hj, rfl, hr, hv, h1, h2, h3⟩ := hrel
    obtain ⟨cs, hcs⟩ : ∃ cs, cs = RBC 1 F v A n c := ⟨_, rfl⟩
    have CE := Lib.hid hcs
    have CZ := Lib.hid (show (Try.prog.info? 53).map (·.size) = some cs.size by rw [hcs]; exact info_rbx)
    have CS := Lib.hid (show cs.size = 4 by rw [hcs]; rfl)
    rw [← hcs] at h1
    have J := Lib.hid hj
    have RJ := Lib.hid hr
    have VE := Lib.hid hv
    have R2 := Lib.hid h1
    have Z2 := Lib.hid h2
    have B2 := Lib.hid h3
    clear hj hr hv h1 h2 h3 hcs
    by_cases h8 : j < 8
    · have hD : decide ((j : Int) < 8) = true := by simp; omega
      have J8 := Lib.hid h8
      have jb : (j : Int) ≤ 7 := by omega
      have VB := Lib.hid (show v ≤ 900000 ∧ v + (q + 28) = u + (j + 1) * (q + 28) by
        have h1 : j * (q + 28) ≤ 8 * (q + 28) := Nat.mul_le_mul_right _ (by omega)
        have h2 := Nat.succ_mul j (q + 28)
        rw [Nat.succ_eq_add_one] at h2
        have := VE.out
        have := HU.out
        omega)
      clear h8
      obtain ⟨X, hX⟩ : ∃ X, X = tellS F v (q + 28) := ⟨_, rfl⟩
      have XE := Lib.hid hX
      have XS := Lib.hid (show r = if knownR L X then idealR k bs t (8 - (j + 1)) ⟨1, F, v + (q + 28), L⟩ else (⟨1, F, v + (q + 28), L ++ [⟨X, k, bs, t⟩]⟩, some X) by
        rw [← RJ.out, show 8 - j = (8 - (j + 1)) + 1 by have := J8.out; omega, idealR, QE.out, hX])
      clear hX
      go_wp2_with (refine wpList_val rfl (run_load_row 53 (.tmp 4) rfl w.heap.size rfl 53 cs (0, 0) _ R2.out Try.underlying53 rfl CZ.out) ?_)
      rw [CE.out, show ((q : Int) + 28) = ((q + 28 : Nat) : Int) by omega]
      refine (rdraw_any 1 F v A n c HF.out (by have := VB.out; omega) (q + 28) (by omega) wr).mono ?_
      rw [← CE.out, ← XE.out]
      rintro e w3 ⟨rfl, hb3⟩
      obtain ⟨ds, hds⟩ : ∃ ds, ds = RBC 1 F (v + (q + 28)) A n c := ⟨_, rfl⟩
      have DE := Lib.hid hds
      have DZ := Lib.hid (show (Try.prog.info? 53).map (·.size) = some ds.size by rw [hds]; exact info_rbx)
      have DO := Lib.hid (show ds.all (·.oneCell') = true by rw [hds]; exact RBC_one _ _ _ _ _ _)
      have DS := Lib.hid (show ds.size = 4 by rw [hds]; rfl)
      rw [← hds]
      have R3 := Lib.hid (below_block hb3 (row_lt R2.out) R2.out)
      have Z3 := Lib.hid (below_block hb3 (row_lt Z2.out) Z2.out)
      have B3 := Lib.hid (B2.out.trans (hb3.mono B2.out.size))
      clear hb3 hds
      go_upto_region 12 with (refine wpList_store_new rfl rfl 53 (.tmp 15) (.tmp 62) rfl ds rfl rfl DZ.out ?c1 DO.out ?_)
      case c1 => rw [DS.out]; rfl
      generalize hM : Array.size (World.heap w3) = M
      generalize hw4 : World.alloc w3 _ = w4
      have R4 := Lib.hid (show w4.heap[M]? = some (.cells ds 53 (0, 0)) by rw [← hw4]; exact ha_new _ _ _ hM.symm)
      have C4 := Lib.hid (show w4.heap[w.heap.size]? = some (.cells cs 53 (0, 0)) by rw [← hw4]; exact ha_old _ _ _ (row_lt R3.out) R3.out)
      have Z4 := Lib.hid (show w4.heap[w.heap.size + 1]? = some (.cells RBZ 53 (0, 0)) by rw [← hw4]; exact ha_old _ _ _ (row_lt Z3.out) Z3.out)
      have B4 := Lib.hid (show Below w.heap.size w w4 by rw [← hw4]; exact B3.out.alloc B3.out.size _)
      have MG := Lib.hid (show w.heap.size + 1 < M by rw [← hM]; exact row_lt Z3.out)
      clear hM hw4
      go_wp2_with (refine wpList_val rfl (run_load_row 53 (.tmp 15) rfl M rfl 53 ds (0, 0) _ R4.out Try.underlying53 rfl DZ.out) ?_)
      rw [DE.out]
      refine (rknown_any 1 F (v + (q + 28)) A n c L HN.out w4 (RL.out.keep B4.out) X (by have := HL.out; omega)).mono ?_
      rw [← DE.out]
      rintro e w5 ⟨rfl, hb5⟩
      have R5 := Lib.hid (below_block hb5 (row_lt R4.out) R4.out)
      have C5 := Lib.hid (below_block hb5 (row_lt C4.out) C4.out)
      have Z5 := Lib.hid (below_block hb5 (row_lt Z4.out) Z4.out)
      have B5 := Lib.hid (B4.out.trans (hb5.mono B4.out.size))
      clear hb5
      obtain ⟨β, hβ⟩ : ∃ β, β = knownR L X := ⟨_, rfl⟩
      rw [← hβ] at XS ⊢
      clear hβ
      cases β with
      | true =>
        have XN := Lib.hid (show idealR k bs t (8 - (j + 1)) ⟨1, F, v + (q + 28), L⟩ = r by rw [XS.out]; rfl)
        go_wp2_with (first
          | (refine wpList_val rfl (run_load_row 53 (.tmp 15) rfl M rfl 53 ds (0, 0) _ R5.out Try.underlying53 rfl DZ.out) ?_)
          | (refine wpList_store_whole rfl rfl 53 (.tmp 4) (.tmp 82) rfl w.heap.size ds rfl rfl 53 cs C5.out DZ.out (by rw [DS.out, CS.out]) DO.out ?_; intro w6 hz6 hg6 _))
        go_roundw
        case rel => exact ⟨j + 1, v + (q + 28), by have := J8.out; omega, by go_num, XN.out, VB.out.2, by rw [← DE.out]; exact hz6, grown_block hg6 (fun e => by have e : w.heap.size + 1 = w.heap.size := Option.some.inj e; omega) Z5.out, B5.out.trans (grown_below hg6 B5.out.size (fun g e => by have e : w.heap.size = g := Option.some.inj e; omega))⟩
        case measure => have := J8.out; simp [intOf]; omega
      | false =>
        have SE := Lib.hid (show r = (⟨1, F, v + (q + 28), L ++ [⟨X, k, bs, t⟩]⟩, some X) by rw [XS.out]; rfl)
        go_upto_region 13 with fail
        have c3 := row_cell R5.out 3 (show ds[3]? = some (.slice A n c) by rw [DE.out]; rfl)
        have C3 := Lib.hid c3
        have M5 := Lib.hid (row_lt R5.out)
        clear c3
        refine wp_region_list ?_
        simp only [List.toList_toArray]
        refine wpList_op (by rfl) (fun K hK => ?_)
        go_simp
        refine hK.out _ _ ?_
        clear hK K
        refine wpList_val (v := ?_) (by rfl) ?_ ?_
        rotate_left
        · go_simp
          with_reducible rfl
        simp only [Act.put, List.setIfInBounds_toArray, List.set_cons_zero, List.set_cons_succ]
        refine wpList_val (by rfl) (run_cell 51 (.tmp 69) rfl _ Try.underlying51 rfl rfl (cell_alloc C3.out _)) ?_
        simp only [Act.put, List.setIfInBounds_toArray, List.set_cons_zero, List.set_cons_succ]
        refine wpList_op (by rfl) (fun K hK => ?_)
        refine appK_wp EntK (.tmp 68) (.tmp 70) rfl w5.heap.size _ 0 [] (EC L) A n c rfl rfl (by rw [EC_length, HN.out]) (OwnK.made w5 w5.heap.size _ 4 (Nat.le_refl _)) ((RL.out.keep B5.out).keep (below_new _ _)) (EC_one L) (by simp) (by have := HL.out; omega) (by have := HL.out; omega) ?_
        intro v6 w6 ho6 hg6 _
        have O6 := Lib.hid (show OwnK w6 w5.heap.size 57 4 v6 n (EC L) by simpa using ho6)
        have R6 := Lib.hid (show w6.heap[M]? = some (.cells ds 53 (0, 0)) from grown_block hg6 (fun e => by have e : M = w5.heap.size := Option.some.inj e; have := M5.out; omega) (ha_old _ _ _ M5.out R5.out))
        have Z6 := Lib.hid (show w6.heap[w.heap.size + 1]? = some (.cells RBZ 53 (0, 0)) from grown_block hg6 (fun e => by have e : w.heap.size + 1 = w5.heap.size := Option.some.inj e; have := M5.out; have := MG.out; omega) (ha_old _ _ _ (row_lt Z5.out) Z5.out))
        have B6 := Lib.hid (show Below w.heap.size w w6 from (B5.out.alloc B5.out.size _).trans (grown_below hg6 (Nat.le_trans B5.out.size (by simp)) (fun g e => by have e : w5.heap.size = g := Option.some.inj e; have := B5.out.size; omega)))
        have S56 := Lib.hid (show w5.heap.size ≤ w6.heap.size from Nat.le_trans (by simp) hg6.size)
        clear ho6 hg6
        refine hK.out _ _ ?_
        clear hK K
        simp only [Act.put, List.setIfInBounds_toArray, List.set_cons_zero, List.set_cons_succ]
        refine wpList_val (v := ?_) (by rfl) ?_ ?_
        rotate_left
        · go_simp
          with_reducible rfl
        simp only [Act.put, List.setIfInBounds_toArray, List.set_cons_zero, List.set_cons_succ]
        refine wpList_val (v := ?_) (by rfl) ?_ ?_
        rotate_left
        · go_simp
          with_reducible rfl
        simp only [Act.put, List.setIfInBounds_toArray, List.set_cons_zero, List.set_cons_succ]
        refine wpList_val (v := ?_) (by rfl) ?_ ?_
        rotate_left
        · go_simp
          with_reducible rfl
        simp only [Act.put, List.setIfInBounds_toArray, List.set_cons_zero, List.set_cons_succ]
        refine wpList_val (v := ?_) (by rfl) ?_ ?_
        rotate_left
        · go_simp
          with_reducible rfl
        simp only [Act.put, List.setIfInBounds_toArray, List.set_cons_zero, List.set_cons_succ]
        refine wpList_val (v := ?_) (by rfl) ?_ ?_
        rotate_left
        · go_simp
          with_reducible rfl
        simp only [Act.put, List.setIfInBounds_toArray, List.set_cons_zero, List.set_cons_succ]
        refine wpList_op (by rfl) (fun K hK => ?_)
        go_simp
        generalize hw7 : World.alloc w6 _ = w7
        have R7 := Lib.hid (show w7.heap[M]? = some (.cells ds 53 (0, 0)) by rw [← hw7]; exact ha_old _ _ _ (row_lt R6.out) R6.out)
        have Z7 := Lib.hid (show w7.heap[w.heap.size + 1]? = some (.cells RBZ 53 (0, 0)) by rw [← hw7]; exact ha_old _ _ _ (row_lt Z6.out) Z6.out)
        have B7 := Lib.hid (show Below w.heap.size w w7 by rw [← hw7]; exact B6.out.alloc B6.out.size _)
        have O7 := Lib.hid (show OwnK w7 w5.heap.size 57 4 v6 n (EC L) by rw [← hw7]; exact O6.out.below (below_new _ _))
        have E7 := Lib.hid (show RdV w7 (some ⟨w6.heap.size, 0, none⟩) (EC [⟨X, k, bs, t⟩]) by rw [← hw7]; exact RdV.row (ha_new _ _ _ rfl))
        have S57 := Lib.hid (show w5.heap.size ≤ w7.heap.size by rw [← hw7]; exact Nat.le_trans S56.out (below_new _ _).size)
        clear hw7
        refine hK.out _ _ ?_
        clear hK K
        refine wpList_op (by rfl) (fun K hK => ?_)
        refine appK_wp EntK (.tmp 71) (.tmp 77) rfl w5.heap.size v6 n (EC L) (EC [⟨X, k, bs, t⟩]) (some ⟨w6.heap.size, 0, none⟩) 1 1 rfl rfl rfl O7.out E7.out (EC_one _) S57.out (by have := HL.out; omega) (by have := HL.out; omega) ?_
        intro v8 w8 ho8 hg8 _
        have OL := Lib.hid (fun g (e : v6.ownBlock = some g) => O7.out.lt g e)
        obtain ⟨_, A8, c8, rfl, hr8, hc8, _, _⟩ := ho8.read
        have RE := Lib.hid (show RdV w8 A8 (EC (L ++ [⟨X, k, bs, t⟩])) by rw [EC_append]; exact hr8)
        have C8 := Lib.hid hc8
        have R8 := Lib.hid (show w8.heap[M]? = some (.cells ds 53 (0, 0)) from grown_block hg8 (fun e => by have := OL.out M e.symm; have := M5.out; omega) R7.out)
        have Z8 := Lib.hid (show w8.heap[w.heap.size + 1]? = some (.cells RBZ 53 (0, 0)) from grown_block hg8 (fun e => by have := OL.out _ e.symm; have := M5.out; have := MG.out; omega) Z7.out)
        have B8 := Lib.hid (B7.out.trans (grown_below hg8 B7.out.size (fun g e => by have := OL.out g e; have := B5.out.size; omega)))
        have AB := Lib.hid (show ∀ a, A8 = some a → w5.heap.size ≤ a.block ∧ a.block < w8.heap.size from fun a ea => by have := ho8.lt a.block (by rw [ea]; rfl); omega)
        clear ho8 hg8 hr8 hc8
        refine hK.out _ _ ?_
        clear hK K
        simp only [Act.put, List.setIfInBounds_toArray, List.set_cons_zero, List.set_cons_succ]
        have c3 := row_cell R8.out 3 (show ds[3]? = some (.slice A n c) by rw [DE.out]; rfl)
        have f3 := row_free R8.out 3
        refine wpList_val (v := ?_) (by rfl) ?_ ?_
        rotate_left
        · go_simp
          with_reducible rfl
        simp only [Act.put, List.setIfInBounds_toArray, List.set_cons_zero, List.set_cons_succ]
        refine wpList_op (by rfl) (fun K hK => ?_)
        go_simp
        generalize hw9 : World.setCell w8 _ _ = w9
        have G9 := Lib.hid (show w8.grownBy w9 (some M) by rw [← hw9]; exact grown_set (World.grownBy.refl _ _) _ _)
        obtain ⟨es, hes⟩ : ∃ es, es = RBC 1 F (v + (q + 28)) A8 (n + 1) c8 := ⟨_, rfl⟩
        have EE := Lib.hid hes
        have EZ := Lib.hid (show (Try.prog.info? 53).map (·.size) = some es.size by rw [hes]; exact info_rbx)
        have EO := Lib.hid (show es.all (·.oneCell') = true by rw [hes]; exact RBC_one _ _ _ _ _ _)
        have ES := Lib.hid (show es.size = 4 by rw [hes]; rfl)
        have R9 := Lib.hid (show w9.heap[M]? = some (.cells es 53 (0, 0)) by rw [← hw9, heap_setCell_same _ _ _ _ _ _ R8.out, DE.out, hes]; rfl)
        have Z9 := Lib.hid (grown_block G9.out (fun e => by have e : w.heap.size + 1 = M := Option.some.inj e; have := MG.out; omega) Z8.out)
        have B9 := Lib.hid (B8.out.trans (grown_below G9.out B8.out.size (fun g e => by have e : M = g := Option.some.inj e; have := MG.out; omega)))
        have RE := Lib.hid (show RdV w9 A8 (EC (L ++ [⟨X, k, bs, t⟩])) from RE.out.grown G9.out (fun g e a ea => by have e : M = g := Option.some.inj e; have := AB.out a ea; have := M5.out; omega))
        clear hw9 hes c3 f3
        refine hK.out _ _ ?_
        clear hK K
        go_wp2_with (first
          | (refine wpList_val rfl (run_load_row 53 (.tmp 15) rfl M rfl 53 es (0, 0) _ R9.out Try.underlying53 rfl EZ.out) ?_)
          | (refine wpList_store_whole rfl rfl 53 (.tmp 8) (.tmp 80) rfl (w.heap.size + 1) es rfl rfl 53 RBZ Z9.out EZ.out (by rw [ES.out]; rfl) EO.out ?_; intro w10 hz10 hg10 _))
        refine ret_rbx2 (w.heap.size + 1) es _ _ rfl rfl rfl rfl rfl hz10 ES.out ?_
        rw [SE.out]
        refine ⟨A8, n + 1, c8, by rw [EE.out]; rfl, RE.out.grown hg10 (fun g e a ea => by have e : w.heap.size + 1 = g := Option.some.inj e; have := AB.out a ea; have := M5.out; have := MG.out; omega), by simp [HN.out], C8.out, fun a ea => .inl ⟨Nat.le_trans B5.out.size (AB.out a ea).1, Nat.lt_of_lt_of_le (AB.out a ea).2 (Nat.le_trans G9.out.size hg10.size)⟩, B9.out.trans (grown_below hg10 B9.out.size (fun g e => by have e : w.heap.size + 1 = g := Option.some.inj e; omega))⟩
    · have hD : decide ((j : Int) < 8) = false := by simp; omega
      have SE := Lib.hid (show r = (⟨1, F, v, L⟩, none) by rw [← RJ.out, show 8 - j = 0 by omega]; rfl)
      have CO := Lib.hid (show cs.all (·.oneCell') = true by rw [CE.out]; exact RBC_one _ _ _ _ _ _)
      go_wp2_with (first
        | (refine wpList_val rfl (run_load_row 53 (.tmp 4) rfl w.heap.size rfl 53 cs (0, 0) _ R2.out Try.underlying53 rfl CZ.out) ?_)
        | (refine wpList_store_whole rfl rfl 53 (.tmp 8) (.tmp 83) rfl (w.heap.size + 1) cs rfl rfl 53 RBZ Z2.out CZ.out (by rw [CS.out]; rfl) CO.out ?_; intro w10 hz10 hg10 _))
      refine ret_rbx2 (w.heap.size + 1) cs _ _ rfl rfl rfl rfl rfl hz10 CS.out ?_
      rw [SE.out]
      have BF := B2.out.trans (grown_below hg10 B2.out.size (fun g e => by have e : w.heap.size + 1 = g := Option.some.inj e; omega))
      exact ⟨A, n, c, by rw [CE.out]; rfl, RL.out.keep BF, HN.out, HC.out, fun a ea => .inr ea, BF⟩
end Go.Proofs.Ytldjiigkebkgcaa

/- The document's box: Open. No condition but those each theorem states. -/
namespace Go.Proofs.Ytldjiigkebkgcaa
set_option linter.unusedVariables false
set_option linter.unusedSimpArgs false
open Go.RowKit
attribute [local go_sem ↓] Go.wp_at_zero Go.wp_at_succ

/-- The document's opening. -/
def openR8 (s : RBx) (k bs x : List UInt8) : Option (List UInt8) :=
  if s.mode = 0 then (if x.length < 28 then none else openL k (x.take 12) bs (x.drop 12))
  else (s.L.find? fun p => decide (p.x = x ∧ p.key = k ∧ p.beside = bs)).map (·.text)
set_option maxRecDepth 100000 in
set_option maxHeartbeats 4000000 in
theorem rbopen_real (F : List UInt8) (u : Nat) (A : Option Addr) (n c : Nat) (L : List REnt) (w : World) (k bs x : List UInt8) (hk : k.length = 32) (hbs : bs.length ≤ 1000) (hx : x.length ≤ 1000) :
    Calls Try.prog 19 #[.agg (RBC 0 F u A n c), .string (strB k), .string (strB bs), .string (strB x)] w (ROpenP w (openR8 ⟨0, F, u, L⟩ k bs x)) := by
  have HK := Lib.hid hk
  have HB := Lib.hid hbs
  obtain ⟨q, hq⟩ : ∃ q, q = x.length := ⟨_, rfl⟩
  have QE := Lib.hid hq.symm
  have s1 : (strB x).size = q := by rw [strB_size, hq]
  have QB := Lib.hid (show q ≤ 1000 by omega)
  have qb : (q : Int) ≤ 1000 := by have := QB.out; omega
  obtain ⟨r, hr⟩ : ∃ r, r = openR8 ⟨0, F, u, L⟩ k bs x := ⟨_, rfl⟩
  have RH := Lib.hid (show r = if x.length < 28 then none else openL k (x.take 12) bs (x.drop 12) by rw [hr, openR8, if_pos rfl])
  rw [← hr]
  obtain ⟨cs, hcs⟩ : ∃ cs, cs = RBC 0 F u A n c := ⟨_, rfl⟩
  have CE := Lib.hid hcs
  rw [← hcs]
  clear hk hbs hx hcs hr hq
  go_enter Try.func19, Try.ntmps19
  go_upto_region 1 with fail
  generalize hw1 : World.alloc w _ = w1
  have R1 := Lib.hid (show w1.heap[w.heap.size]? = some (.cells cs 53 (0, 0)) by rw [← hw1]; exact ha_new _ _ _ rfl)
  have B1 := Lib.hid (show Below w.heap.size w w1 by rw [← hw1]; exact below_new _ _)
  clear hw1
  have c0 := row_cell R1.out 0 (show cs[0]? = some (.int .i64 0) by rw [CE.out]; rfl)
  by_cases h28 : q < 28
  · have d1 : decide ((q : Int) < 28) = true := by simp; omega
    have d2 : decide (q < 28) = true := by simp; omega
    have RN := Lib.hid (show r = none by rw [RH.out, if_pos (by rw [QE.out]; exact h28)])
    go_wp2_with fail
    go_ret2
    rw [RN.out]
    exact ⟨rfl, B1.out⟩
  · have d1 : decide ((q : Int) < 28) = false := by simp; omega
    have d2 : decide (q < 28) = false := by simp; omega
    have RN := Lib.hid (show r = openL k (x.take 12) bs (x.drop 12) by rw [RH.out, if_neg (by rw [QE.out]; exact h28)])
    have Q28 := Lib.hid (show 28 ≤ q by omega)
    clear h28
    go_upto_region 4 with fail
    clear c0 d1 d2 s1
    have B := Lib.hid (show Below w1.heap.size w1 w1.drew from (Below.refl _ _).drew)
    refine wp_region_road (fun W => Below w1.heap.size w1 W) [(true, 0), (true, 1), (true, 2), (true, 3), (true, 4), (true, 5), (false, 6), (true, 7), (true, 8), (true, 9), (true, 10)] (by kernel_rfl) (by kernel_rfl) (fun _ _ d _ _ h => by cases d <;> exact h) ?_
    simp only [List.filterMap_cons, List.filterMap_nil, List.getElem?_toArray, List.getElem?_cons_zero, List.getElem?_cons_succ, Option.map_some]
    refine planG_q (v := ?_) (by rfl) (B.out) ?_ ?_
    rotate_left
    · intro W hW
      go_simp
      with_reducible rfl
    simp only [Act.put, List.setIfInBounds_toArray, List.set_cons_zero, List.set_cons_succ]
    refine planG_q (v := ?_) (by rfl) (B.out) ?_ ?_
    rotate_left
    · intro W hW
      go_simp
      with_reducible rfl
    simp only [Act.put, List.setIfInBounds_toArray, List.set_cons_zero, List.set_cons_succ]
    refine planG_q (by rfl) (B.out) (fun W hW => run_str_to 9 (.tmp 18) (.const (.int .i64 12)) rfl Try.underlying9 x 12 (by have := Q28.out; have := QE.out; omega) rfl rfl W) ?_
    simp only [Act.put, List.setIfInBounds_toArray, List.set_cons_zero, List.set_cons_succ]
    refine planG_q (v := ?_) (by rfl) (B.out) ?_ ?_
    rotate_left
    · intro W hW
      go_simp
      with_reducible rfl
    simp only [Act.put, List.setIfInBounds_toArray, List.set_cons_zero, List.set_cons_succ]
    refine planG_q (v := ?_) (by rfl) (B.out) ?_ ?_
    rotate_left
    · intro W hW
      go_simp
      with_reducible rfl
    simp only [Act.put, List.setIfInBounds_toArray, List.set_cons_zero, List.set_cons_succ]
    refine planG_q (by rfl) (B.out) (fun W hW => run_str_from 9 (.tmp 21) (.const (.int .i64 12)) rfl Try.underlying9 x 12 (by have := Q28.out; have := QE.out; omega) rfl rfl W) ?_
    simp only [Act.put, List.setIfInBounds_toArray, List.set_cons_zero, List.set_cons_succ]
    refine planG_t (by rfl) (fun K hK => ?_)
    go_simp
    refine (ropen_any k (x.take 12) HK.out (by rw [List.length_take]; have := Q28.out; have := QE.out; omega) bs (x.drop 12) (q - 12) (by rw [List.length_drop, QE.out]) HB.out (by have := QB.out; omega) w1.drew).mono ?_
    rw [← RN.out]
    rintro e w2 ⟨rfl, hb2⟩
    have B2 := Lib.hid (B.out.trans (hb2.mono B.out.size))
    have BW := Lib.hid (show Below w.heap.size w w2 from B1.out.trans (B2.out.mono B1.out.size))
    clear hb2
    refine hK.out _ _ (B2.out) ?_
    clear hK K
    refine planG_q (v := ?_) (by rfl) (B2.out) ?_ ?_
    rotate_left
    · intro W hW
      go_simp
      with_reducible rfl
    simp only [Act.put, List.setIfInBounds_toArray, List.set_cons_zero, List.set_cons_succ]
    refine planG_q (v := ?_) (by rfl) (B2.out) ?_ ?_
    rotate_left
    · intro W hW
      go_simp
      with_reducible rfl
    simp only [Act.put, List.setIfInBounds_toArray, List.set_cons_zero, List.set_cons_succ]
    refine planG_q (v := ?_) (by rfl) (B2.out) ?_ ?_
    rotate_left
    · intro W hW
      go_simp
      with_reducible rfl
    simp only [Act.put, List.setIfInBounds_toArray, List.set_cons_zero, List.set_cons_succ]
    refine planG_q (v := ?_) (by rfl) (B2.out) ?_ ?_
    rotate_left
    · intro W hW
      go_simp
      with_reducible rfl
    simp only [Act.put, List.setIfInBounds_toArray, List.set_cons_zero, List.set_cons_succ]
    refine planG_nil ?_
    go_wp2_with fail
    go_ret2
    exact ⟨rfl, BW.out⟩
set_option maxRecDepth 100000 in
set_option maxHeartbeats 4000000 in
theorem rbopen_ideal (F : List UInt8) (u : Nat) (A : Option Addr) (n c : Nat) (L : List REnt) (hn : L.length = n) (w : World) (hR : RdV w A (EC L)) (k bs x : List UInt8) (hL : n ≤ 1000000) :
    Calls Try.prog 19 #[.agg (RBC 1 F u A n c), .string (strB k), .string (strB bs), .string (strB x)] w (ROpenP w (openR8 ⟨1, F, u, L⟩ k bs x)) := by
  have IE := Lib.hid (show (Try.prog.info? 57).map (·.size) = some 4 by kernel_rfl)
  have HN := Lib.hid hn
  have nb : (n : Int) ≤ 1000000 := by omega
  obtain ⟨r, hr⟩ : ∃ r, r = openR8 ⟨1, F, u, L⟩ k bs x := ⟨_, rfl⟩
  have RH := Lib.hid (show r = (L.find? fun p => decide (p.x = x ∧ p.key = k ∧ p.beside = bs)).map (·.text) by rw [hr, openR8, if_neg (by simp)])
  rw [← hr]
  obtain ⟨cs, hcs⟩ : ∃ cs, cs = RBC 1 F u A n c := ⟨_, rfl⟩
  have CE := Lib.hid hcs
  have RL := Lib.hid hR
  rw [← hcs]
  clear hn hR hL hcs hr
  go_enter Try.func19, Try.ntmps19
  go_upto_region 1 with fail
  generalize hw1 : World.alloc w _ = w1
  have R1 := Lib.hid (show w1.heap[w.heap.size]? = some (.cells cs 53 (0, 0)) by rw [← hw1]; exact ha_new _ _ _ rfl)
  have B1 := Lib.hid (show Below w.heap.size w w1 by rw [← hw1]; exact below_new _ _)
  have RL := Lib.hid (RL.out.keep B1.out)
  clear hw1
  have c0 := row_cell R1.out 0 (show cs[0]? = some (.int .i64 1) by rw [CE.out]; rfl)
  have c3 := row_cell R1.out 3 (show cs[3]? = some (.slice A n c) by rw [CE.out]; rfl)
  go_wp2_with fail
  go_loopw [10] (fun i wr => ∃ j : Nat, j ≤ n ∧ i = .int .i64 (j : Int) ∧ (∀ p ∈ L.take j, ¬ (p.x = x ∧ p.key = k ∧ p.beside = bs)) ∧ wr = w1) (fun i _ => n - (intOf i).toNat)
  case atStart => exact ⟨0, by omega, rfl, by simp, rfl⟩
  case round =>
    obtain ⟨j, hj, rfl, hk, hwr⟩ := hrel
    rw [hwr]
    clear hwr wr c0
    have J := Lib.hid hj
    have K := Lib.hid hk
    clear hj hk
    by_cases hlt : j < n
    · have hD : decide ((j : Int) < (n : Int)) = true := by simp; omega
      obtain ⟨p, hp⟩ : ∃ p, L[j]? = some p := ⟨_, List.getElem?_eq_getElem (by rw [HN.out]; exact hlt)⟩
      obtain ⟨b, o, hA, hc⟩ := rng_cell RL.out hp
      have AE := Lib.hid hA
      have LT := Lib.hid hlt
      have KN := Lib.hid (show ¬ (p.x = x ∧ p.key = k ∧ p.beside = bs) → ∀ p ∈ L.take (j + 1), ¬ (p.x = x ∧ p.key = k ∧ p.beside = bs) from fun hne p' hp' => by
        rw [List.take_succ_eq_append_getElem (by rw [HN.out]; exact hlt)] at hp'
        rcases List.mem_append.mp hp' with h | h
        · exact K.out p' h
        · have h2 : L[j]'(by rw [HN.out]; exact hlt) = p := by
            rw [List.getElem?_eq_getElem (by rw [HN.out]; exact hlt)] at hp
            exact Option.some.inj hp
          simp only [List.mem_cons, List.mem_nil_iff, or_false] at h
          rw [h, h2]
          exact hne)
      have KT := Lib.hid (show p.x = x ∧ p.key = k ∧ p.beside = bs → r = some p.text from fun hyes => by
        have hsplit : L = L.take j ++ p :: L.drop (j + 1) := by
          have h2 : L[j]'(by rw [HN.out]; exact hlt) = p := by
            rw [List.getElem?_eq_getElem (by rw [HN.out]; exact hlt)] at hp
            exact Option.some.inj hp
          rw [← h2, ← List.drop_eq_getElem_cons, List.take_append_drop]
        have hn1 : (L.take j).find? (fun p => decide (p.x = x ∧ p.key = k ∧ p.beside = bs)) = none := by
          rw [List.find?_eq_none]
          intro q hq
          simpa using K.out q hq
        rw [RH.out, hsplit, List.find?_append, hn1]
        simp [hyes])
      obtain ⟨x', key', bs', t'⟩ := p
      have C0 := Lib.hid (show w1.cell? ⟨b, o + j * 4 + 0, none⟩ = some (.string (strB x')) from hc 0 _ rfl)
      have C1 := Lib.hid (show w1.cell? ⟨b, o + j * 4 + 1, none⟩ = some (.string (strB key')) from hc 1 _ rfl)
      have C2 := Lib.hid (show w1.cell? ⟨b, o + j * 4 + 2, none⟩ = some (.string (strB bs')) from hc 2 _ rfl)
      have C3 := Lib.hid (show w1.cell? ⟨b, o + j * 4 + 3, none⟩ = some (.string (strB t')) from hc 3 _ rfl)
      have KN := Lib.hid (show ¬ (x' = x ∧ key' = k ∧ bs' = bs) → _ from KN.out)
      have KT := Lib.hid (show x' = x ∧ key' = k ∧ bs' = bs → r = some t' from KT.out)
      clear hp hA hc hlt
      have nx := fun (h : ¬ (x' = x ∧ key' = k ∧ bs' = bs)) => KN.out h
      have NX := Lib.hid nx
      clear nx
      have jb : (j : Int) ≤ 1000000 := by have := LT.out; omega
      by_cases h1 : x' = x
      · have H1 := Lib.hid h1
        by_cases h2 : key' = k
        · have H2 := Lib.hid h2
          by_cases h3 : bs' = bs
          · have H3 := Lib.hid h3
            have RS := Lib.hid (KT.out ⟨h1, h2, h3⟩)
            clear h1 h2 h3
            go_upto_region 8 with fail
            refine wp_region_list ?_
            simp only [List.toList_toArray]
            refine wpList_val (v := ?_) (by rfl) ?_ ?_
            rotate_left
            · go_simp
              with_reducible rfl
            simp only [Act.put, List.setIfInBounds_toArray, List.set_cons_zero, List.set_cons_succ]
            refine wpList_val (v := ?_) (by rfl) ?_ ?_
            rotate_left
            · go_simp
              with_reducible rfl
            simp only [Act.put, List.setIfInBounds_toArray, List.set_cons_zero, List.set_cons_succ]
            refine wpList_val (v := ?_) (by rfl) ?_ ?_
            rotate_left
            · go_simp
              with_reducible rfl
            simp only [Act.put, List.setIfInBounds_toArray, List.set_cons_zero, List.set_cons_succ]
            refine wpList_val (by rfl) (run_iaddr_slk 51 (.tmp 34) (.tmp 35) rfl 57 Try.underlying51 4 IE.out b o n c j LT.out .i64 _ rfl (by rw [← AE.out]; rfl) rfl _) ?_
            simp only [Act.put, List.setIfInBounds_toArray, List.set_cons_zero, List.set_cons_succ]
            refine wpList_val (v := ?_) (by rfl) ?_ ?_
            rotate_left
            · go_simp
              with_reducible rfl
            simp only [Act.put, List.setIfInBounds_toArray, List.set_cons_zero, List.set_cons_succ]
            refine wpList_val (by rfl) (run_cell 9 (.tmp 37) rfl _ Try.underlying9 rfl rfl C0.out) ?_
            simp only [Act.put, List.setIfInBounds_toArray, List.set_cons_zero, List.set_cons_succ]
            refine wpList_val (v := ?_) (by rfl) ?_ ?_
            rotate_left
            · go_simp
              with_reducible rfl
            simp only [Act.put, List.setIfInBounds_toArray, List.set_cons_zero, List.set_cons_succ]
            refine wpList_val (by rfl) (run_eqstr_true 9 _ (.tmp 38) (.tmp 39) rfl x' x H1.out rfl rfl _) ?_
            simp only [Act.put, List.setIfInBounds_toArray, List.set_cons_zero, List.set_cons_succ]
            refine wpList_val (v := ?_) (by rfl) ?_ ?_
            rotate_left
            · go_simp
              with_reducible rfl
            simp only [Act.put, List.setIfInBounds_toArray, List.set_cons_zero, List.set_cons_succ]
            refine wpList_valg (v := ?_) (by rfl) ?_ ?_
            rotate_left
            · go_simp
              with_reducible rfl
            simp only [Act.put, List.setIfInBounds_toArray, List.set_cons_zero, List.set_cons_succ]
            refine wpList_valg (v := ?_) (by rfl) ?_ ?_
            rotate_left
            · go_simp
              with_reducible rfl
            simp only [Act.put, List.setIfInBounds_toArray, List.set_cons_zero, List.set_cons_succ]
            refine wpList_valg (v := ?_) (by rfl) ?_ ?_
            rotate_left
            · go_simp
              with_reducible rfl
            simp only [Act.put, List.setIfInBounds_toArray, List.set_cons_zero, List.set_cons_succ]
            refine wpList_valg (by rfl) (run_iaddr_slk 51 (.tmp 43) (.tmp 44) rfl 57 Try.underlying51 4 IE.out b o n c j LT.out .i64 _ rfl (by rw [← AE.out]; rfl) rfl _) ?_
            simp only [Act.put, List.setIfInBounds_toArray, List.set_cons_zero, List.set_cons_succ]
            refine wpList_valg (v := ?_) (by rfl) ?_ ?_
            rotate_left
            · go_simp
              with_reducible rfl
            simp only [Act.put, List.setIfInBounds_toArray, List.set_cons_zero, List.set_cons_succ]
            refine wpList_valg (by rfl) (run_cell 9 (.tmp 46) rfl _ Try.underlying9 rfl rfl C1.out) ?_
            simp only [Act.put, List.setIfInBounds_toArray, List.set_cons_zero, List.set_cons_succ]
            refine wpList_valg (v := ?_) (by rfl) ?_ ?_
            rotate_left
            · go_simp
              with_reducible rfl
            simp only [Act.put, List.setIfInBounds_toArray, List.set_cons_zero, List.set_cons_succ]
            refine wpList_valg (by rfl) (run_eqstr_true 9 _ (.tmp 47) (.tmp 48) rfl key' k H2.out rfl rfl _) ?_
            simp only [Act.put, List.setIfInBounds_toArray, List.set_cons_zero, List.set_cons_succ]
            refine wpList_val (v := ?_) (by rfl) ?_ ?_
            rotate_left
            · go_simp
              with_reducible rfl
            simp only [Act.put, List.setIfInBounds_toArray, List.set_cons_zero, List.set_cons_succ]
            refine wpList_val (v := ?_) (by rfl) ?_ ?_
            rotate_left
            · go_simp
              with_reducible rfl
            simp only [Act.put, List.setIfInBounds_toArray, List.set_cons_zero, List.set_cons_succ]
            refine wpList_valg (v := ?_) (by rfl) ?_ ?_
            rotate_left
            · go_simp
              with_reducible rfl
            simp only [Act.put, List.setIfInBounds_toArray, List.set_cons_zero, List.set_cons_succ]
            refine wpList_valg (v := ?_) (by rfl) ?_ ?_
            rotate_left
            · go_simp
              with_reducible rfl
            simp only [Act.put, List.setIfInBounds_toArray, List.set_cons_zero, List.set_cons_succ]
            refine wpList_valg (v := ?_) (by rfl) ?_ ?_
            rotate_left
            · go_simp
              with_reducible rfl
            simp only [Act.put, List.setIfInBounds_toArray, List.set_cons_zero, List.set_cons_succ]
            refine wpList_valg (by rfl) (run_iaddr_slk 51 (.tmp 53) (.tmp 54) rfl 57 Try.underlying51 4 IE.out b o n c j LT.out .i64 _ rfl (by rw [← AE.out]; rfl) rfl _) ?_
            simp only [Act.put, List.setIfInBounds_toArray, List.set_cons_zero, List.set_cons_succ]
            refine wpList_valg (v := ?_) (by rfl) ?_ ?_
            rotate_left
            · go_simp
              with_reducible rfl
            simp only [Act.put, List.setIfInBounds_toArray, List.set_cons_zero, List.set_cons_succ]
            refine wpList_valg (by rfl) (run_cell 9 (.tmp 56) rfl _ Try.underlying9 rfl rfl C2.out) ?_
            simp only [Act.put, List.setIfInBounds_toArray, List.set_cons_zero, List.set_cons_succ]
            refine wpList_valg (v := ?_) (by rfl) ?_ ?_
            rotate_left
            · go_simp
              with_reducible rfl
            simp only [Act.put, List.setIfInBounds_toArray, List.set_cons_zero, List.set_cons_succ]
            refine wpList_valg (by rfl) (run_eqstr_true 9 _ (.tmp 57) (.tmp 58) rfl bs' bs H3.out rfl rfl _) ?_
            simp only [Act.put, List.setIfInBounds_toArray, List.set_cons_zero, List.set_cons_succ]
            go_wp2_with (first
              | (refine wpList_val rfl (run_iaddr_slk 51 (.tmp 62) (.tmp 63) rfl 57 Try.underlying51 4 IE.out b o n c j LT.out .i64 _ rfl (by rw [← AE.out]; rfl) rfl _) ?_)
              | (refine wpList_val rfl (run_cell 9 (.tmp 65) rfl _ Try.underlying9 rfl rfl C3.out) ?_))
            go_ret2
            rw [RS.out]
            exact ⟨rfl, B1.out⟩
          · have H3 := Lib.hid h3
            have NN := Lib.hid (NX.out (fun h => h3 h.2.2))
            clear h1 h2 h3
            go_upto_region 8 with fail
            refine wp_region_list ?_
            simp only [List.toList_toArray]
            refine wpList_val (v := ?_) (by rfl) ?_ ?_
            rotate_left
            · go_simp
              with_reducible rfl
            simp only [Act.put, List.setIfInBounds_toArray, List.set_cons_zero, List.set_cons_succ]
            refine wpList_val (v := ?_) (by rfl) ?_ ?_
            rotate_left
            · go_simp
              with_reducible rfl
            simp only [Act.put, List.setIfInBounds_toArray, List.set_cons_zero, List.set_cons_succ]
            refine wpList_val (v := ?_) (by rfl) ?_ ?_
            rotate_left
            · go_simp
              with_reducible rfl
            simp only [Act.put, List.setIfInBounds_toArray, List.set_cons_zero, List.set_cons_succ]
            refine wpList_val (by rfl) (run_iaddr_slk 51 (.tmp 34) (.tmp 35) rfl 57 Try.underlying51 4 IE.out b o n c j LT.out .i64 _ rfl (by rw [← AE.out]; rfl) rfl _) ?_
            simp only [Act.put, List.setIfInBounds_toArray, List.set_cons_zero, List.set_cons_succ]
            refine wpList_val (v := ?_) (by rfl) ?_ ?_
            rotate_left
            · go_simp
              with_reducible rfl
            simp only [Act.put, List.setIfInBounds_toArray, List.set_cons_zero, List.set_cons_succ]
            refine wpList_val (by rfl) (run_cell 9 (.tmp 37) rfl _ Try.underlying9 rfl rfl C0.out) ?_
            simp only [Act.put, List.setIfInBounds_toArray, List.set_cons_zero, List.set_cons_succ]
            refine wpList_val (v := ?_) (by rfl) ?_ ?_
            rotate_left
            · go_simp
              with_reducible rfl
            simp only [Act.put, List.setIfInBounds_toArray, List.set_cons_zero, List.set_cons_succ]
            refine wpList_val (by rfl) (run_eqstr_true 9 _ (.tmp 38) (.tmp 39) rfl x' x H1.out rfl rfl _) ?_
            simp only [Act.put, List.setIfInBounds_toArray, List.set_cons_zero, List.set_cons_succ]
            refine wpList_val (v := ?_) (by rfl) ?_ ?_
            rotate_left
            · go_simp
              with_reducible rfl
            simp only [Act.put, List.setIfInBounds_toArray, List.set_cons_zero, List.set_cons_succ]
            refine wpList_valg (v := ?_) (by rfl) ?_ ?_
            rotate_left
            · go_simp
              with_reducible rfl
            simp only [Act.put, List.setIfInBounds_toArray, List.set_cons_zero, List.set_cons_succ]
            refine wpList_valg (v := ?_) (by rfl) ?_ ?_
            rotate_left
            · go_simp
              with_reducible rfl
            simp only [Act.put, List.setIfInBounds_toArray, List.set_cons_zero, List.set_cons_succ]
            refine wpList_valg (v := ?_) (by rfl) ?_ ?_
            rotate_left
            · go_simp
              with_reducible rfl
            simp only [Act.put, List.setIfInBounds_toArray, List.set_cons_zero, List.set_cons_succ]
            refine wpList_valg (by rfl) (run_iaddr_slk 51 (.tmp 43) (.tmp 44) rfl 57 Try.underlying51 4 IE.out b o n c j LT.out .i64 _ rfl (by rw [← AE.out]; rfl) rfl _) ?_
            simp only [Act.put, List.setIfInBounds_toArray, List.set_cons_zero, List.set_cons_succ]
            refine wpList_valg (v := ?_) (by rfl) ?_ ?_
            rotate_left
            · go_simp
              with_reducible rfl
            simp only [Act.put, List.setIfInBounds_toArray, List.set_cons_zero, List.set_cons_succ]
            refine wpList_valg (by rfl) (run_cell 9 (.tmp 46) rfl _ Try.underlying9 rfl rfl C1.out) ?_
            simp only [Act.put, List.setIfInBounds_toArray, List.set_cons_zero, List.set_cons_succ]
            refine wpList_valg (v := ?_) (by rfl) ?_ ?_
            rotate_left
            · go_simp
              with_reducible rfl
            simp only [Act.put, List.setIfInBounds_toArray, List.set_cons_zero, List.set_cons_succ]
            refine wpList_valg (by rfl) (run_eqstr_true 9 _ (.tmp 47) (.tmp 48) rfl key' k H2.out rfl rfl _) ?_
            simp only [Act.put, List.setIfInBounds_toArray, List.set_cons_zero, List.set_cons_succ]
            refine wpList_val (v := ?_) (by rfl) ?_ ?_
            rotate_left
            · go_simp
              with_reducible rfl
            simp only [Act.put, List.setIfInBounds_toArray, List.set_cons_zero, List.set_cons_succ]
            refine wpList_val (v := ?_) (by rfl) ?_ ?_
            rotate_left
            · go_simp
              with_reducible rfl
            simp only [Act.put, List.setIfInBounds_toArray, List.set_cons_zero, List.set_cons_succ]
            refine wpList_valg (v := ?_) (by rfl) ?_ ?_
            rotate_left
            · go_simp
              with_reducible rfl
            simp only [Act.put, List.setIfInBounds_toArray, List.set_cons_zero, List.set_cons_succ]
            refine wpList_valg (v := ?_) (by rfl) ?_ ?_
            rotate_left
            · go_simp
              with_reducible rfl
            simp only [Act.put, List.setIfInBounds_toArray, List.set_cons_zero, List.set_cons_succ]
            refine wpList_valg (v := ?_) (by rfl) ?_ ?_
            rotate_left
            · go_simp
              with_reducible rfl
            simp only [Act.put, List.setIfInBounds_toArray, List.set_cons_zero, List.set_cons_succ]
            refine wpList_valg (by rfl) (run_iaddr_slk 51 (.tmp 53) (.tmp 54) rfl 57 Try.underlying51 4 IE.out b o n c j LT.out .i64 _ rfl (by rw [← AE.out]; rfl) rfl _) ?_
            simp only [Act.put, List.setIfInBounds_toArray, List.set_cons_zero, List.set_cons_succ]
            refine wpList_valg (v := ?_) (by rfl) ?_ ?_
            rotate_left
            · go_simp
              with_reducible rfl
            simp only [Act.put, List.setIfInBounds_toArray, List.set_cons_zero, List.set_cons_succ]
            refine wpList_valg (by rfl) (run_cell 9 (.tmp 56) rfl _ Try.underlying9 rfl rfl C2.out) ?_
            simp only [Act.put, List.setIfInBounds_toArray, List.set_cons_zero, List.set_cons_succ]
            refine wpList_valg (v := ?_) (by rfl) ?_ ?_
            rotate_left
            · go_simp
              with_reducible rfl
            simp only [Act.put, List.setIfInBounds_toArray, List.set_cons_zero, List.set_cons_succ]
            refine wpList_valg (by rfl) ((run_eqstr 9 _ (.tmp 57) (.tmp 58) rfl bs' bs rfl rfl _).trans (by rw [decide_eq_false H3.out])) ?_
            simp only [Act.put, List.setIfInBounds_toArray, List.set_cons_zero, List.set_cons_succ]
            go_wp2_with fail
            go_roundw
            case rel => exact ⟨j + 1, by have := LT.out; omega, by go_num, NN.out, trivial⟩
            case measure => have := LT.out; simp [intOf]; omega
        · have H2 := Lib.hid h2
          have NN := Lib.hid (NX.out (fun h => h2 h.2.1))
          clear h1 h2
          go_upto_region 8 with fail
          refine wp_region_list ?_
          simp only [List.toList_toArray]
          refine wpList_val (v := ?_) (by rfl) ?_ ?_
          rotate_left
          · go_simp
            with_reducible rfl
          simp only [Act.put, List.setIfInBounds_toArray, List.set_cons_zero, List.set_cons_succ]
          refine wpList_val (v := ?_) (by rfl) ?_ ?_
          rotate_left
          · go_simp
            with_reducible rfl
          simp only [Act.put, List.setIfInBounds_toArray, List.set_cons_zero, List.set_cons_succ]
          refine wpList_val (v := ?_) (by rfl) ?_ ?_
          rotate_left
          · go_simp
            with_reducible rfl
          simp only [Act.put, List.setIfInBounds_toArray, List.set_cons_zero, List.set_cons_succ]
          refine wpList_val (by rfl) (run_iaddr_slk 51 (.tmp 34) (.tmp 35) rfl 57 Try.underlying51 4 IE.out b o n c j LT.out .i64 _ rfl (by rw [← AE.out]; rfl) rfl _) ?_
          simp only [Act.put, List.setIfInBounds_toArray, List.set_cons_zero, List.set_cons_succ]
          refine wpList_val (v := ?_) (by rfl) ?_ ?_
          rotate_left
          · go_simp
            with_reducible rfl
          simp only [Act.put, List.setIfInBounds_toArray, List.set_cons_zero, List.set_cons_succ]
          refine wpList_val (by rfl) (run_cell 9 (.tmp 37) rfl _ Try.underlying9 rfl rfl C0.out) ?_
          simp only [Act.put, List.setIfInBounds_toArray, List.set_cons_zero, List.set_cons_succ]
          refine wpList_val (v := ?_) (by rfl) ?_ ?_
          rotate_left
          · go_simp
            with_reducible rfl
          simp only [Act.put, List.setIfInBounds_toArray, List.set_cons_zero, List.set_cons_succ]
          refine wpList_val (by rfl) (run_eqstr_true 9 _ (.tmp 38) (.tmp 39) rfl x' x H1.out rfl rfl _) ?_
          simp only [Act.put, List.setIfInBounds_toArray, List.set_cons_zero, List.set_cons_succ]
          refine wpList_val (v := ?_) (by rfl) ?_ ?_
          rotate_left
          · go_simp
            with_reducible rfl
          simp only [Act.put, List.setIfInBounds_toArray, List.set_cons_zero, List.set_cons_succ]
          refine wpList_valg (v := ?_) (by rfl) ?_ ?_
          rotate_left
          · go_simp
            with_reducible rfl
          simp only [Act.put, List.setIfInBounds_toArray, List.set_cons_zero, List.set_cons_succ]
          refine wpList_valg (v := ?_) (by rfl) ?_ ?_
          rotate_left
          · go_simp
            with_reducible rfl
          simp only [Act.put, List.setIfInBounds_toArray, List.set_cons_zero, List.set_cons_succ]
          refine wpList_valg (v := ?_) (by rfl) ?_ ?_
          rotate_left
          · go_simp
            with_reducible rfl
          simp only [Act.put, List.setIfInBounds_toArray, List.set_cons_zero, List.set_cons_succ]
          refine wpList_valg (by rfl) (run_iaddr_slk 51 (.tmp 43) (.tmp 44) rfl 57 Try.underlying51 4 IE.out b o n c j LT.out .i64 _ rfl (by rw [← AE.out]; rfl) rfl _) ?_
          simp only [Act.put, List.setIfInBounds_toArray, List.set_cons_zero, List.set_cons_succ]
          refine wpList_valg (v := ?_) (by rfl) ?_ ?_
          rotate_left
          · go_simp
            with_reducible rfl
          simp only [Act.put, List.setIfInBounds_toArray, List.set_cons_zero, List.set_cons_succ]
          refine wpList_valg (by rfl) (run_cell 9 (.tmp 46) rfl _ Try.underlying9 rfl rfl C1.out) ?_
          simp only [Act.put, List.setIfInBounds_toArray, List.set_cons_zero, List.set_cons_succ]
          refine wpList_valg (v := ?_) (by rfl) ?_ ?_
          rotate_left
          · go_simp
            with_reducible rfl
          simp only [Act.put, List.setIfInBounds_toArray, List.set_cons_zero, List.set_cons_succ]
          refine wpList_valg (by rfl) ((run_eqstr 9 _ (.tmp 47) (.tmp 48) rfl key' k rfl rfl _).trans (by rw [decide_eq_false H2.out])) ?_
          simp only [Act.put, List.setIfInBounds_toArray, List.set_cons_zero, List.set_cons_succ]
          go_wp2_with fail
          go_roundw
          case rel => exact ⟨j + 1, by have := LT.out; omega, by go_num, NN.out, trivial⟩
          case measure => have := LT.out; simp [intOf]; omega
      · have H1 := Lib.hid h1
        have NN := Lib.hid (NX.out (fun h => h1 h.1))
        clear h1
        go_upto_region 8 with fail
        refine wp_region_list ?_
        simp only [List.toList_toArray]
        refine wpList_val (v := ?_) (by rfl) ?_ ?_
        rotate_left
        · go_simp
          with_reducible rfl
        simp only [Act.put, List.setIfInBounds_toArray, List.set_cons_zero, List.set_cons_succ]
        refine wpList_val (v := ?_) (by rfl) ?_ ?_
        rotate_left
        · go_simp
          with_reducible rfl
        simp only [Act.put, List.setIfInBounds_toArray, List.set_cons_zero, List.set_cons_succ]
        refine wpList_val (v := ?_) (by rfl) ?_ ?_
        rotate_left
        · go_simp
          with_reducible rfl
        simp only [Act.put, List.setIfInBounds_toArray, List.set_cons_zero, List.set_cons_succ]
        refine wpList_val (by rfl) (run_iaddr_slk 51 (.tmp 34) (.tmp 35) rfl 57 Try.underlying51 4 IE.out b o n c j LT.out .i64 _ rfl (by rw [← AE.out]; rfl) rfl _) ?_
        simp only [Act.put, List.setIfInBounds_toArray, List.set_cons_zero, List.set_cons_succ]
        refine wpList_val (v := ?_) (by rfl) ?_ ?_
        rotate_left
        · go_simp
          with_reducible rfl
        simp only [Act.put, List.setIfInBounds_toArray, List.set_cons_zero, List.set_cons_succ]
        refine wpList_val (by rfl) (run_cell 9 (.tmp 37) rfl _ Try.underlying9 rfl rfl C0.out) ?_
        simp only [Act.put, List.setIfInBounds_toArray, List.set_cons_zero, List.set_cons_succ]
        refine wpList_val (v := ?_) (by rfl) ?_ ?_
        rotate_left
        · go_simp
          with_reducible rfl
        simp only [Act.put, List.setIfInBounds_toArray, List.set_cons_zero, List.set_cons_succ]
        refine wpList_val (by rfl) ((run_eqstr 9 _ (.tmp 38) (.tmp 39) rfl x' x rfl rfl _).trans (by rw [decide_eq_false H1.out])) ?_
        simp only [Act.put, List.setIfInBounds_toArray, List.set_cons_zero, List.set_cons_succ]
        go_wp2_with fail
        go_roundw
        case rel => exact ⟨j + 1, by have := LT.out; omega, by go_num, NN.out, trivial⟩
        case measure => have := LT.out; simp [intOf]; omega
    · have hD : decide ((j : Int) < (n : Int)) = false := by simp; omega
      have RS := Lib.hid (show r = none by
        have h1 := K.out
        rw [List.take_of_length_le (by rw [HN.out]; omega)] at h1
        rw [RH.out, Option.map_eq_none_iff, List.find?_eq_none]
        intro q hq
        simpa using h1 q hq)
      go_wp2_with fail
      go_ret2
      rw [RS.out]
      exact ⟨rfl, B1.out⟩
/-- Both modes. -/
theorem rbseal_any (q : RBx) (hm : q.mode = 0 ∨ q.mode = 1) (A : Option Addr) (n c : Nat) (hn : q.L.length = n) (hc : n ≤ c) (w : World) (hR : RdV w A (EC q.L)) (k bs t : List UInt8) (hk : k.length = 32) (hbs : bs.length ≤ 1000) (ht : t.length ≤ 1000)
    (hF : q.F.length ≤ 2900) (hu : q.u ≤ 800000) (hL : n ≤ 10000) :
    Calls Try.prog 18 #[.agg (RBC q.mode q.F q.u A n c), .string (strB k), .string (strB bs), .string (strB t)] w (RSealP w A (sealR8 q k bs t)) := by
  obtain ⟨m, F, u, L⟩ := q
  rcases hm with h | h
  · cases h
    exact rbseal_real F u A n c L hn hc w hR k bs t hk hbs ht hF hu hL
  · cases h
    exact rbseal_ideal F u A n c L hn hc w hR k bs t hbs ht hF hu hL
theorem rbopen_any (q : RBx) (hm : q.mode = 0 ∨ q.mode = 1) (A : Option Addr) (n c : Nat) (hn : q.L.length = n) (w : World) (hR : RdV w A (EC q.L)) (k bs x : List UInt8) (hk : k.length = 32) (hbs : bs.length ≤ 1000) (hx : x.length ≤ 1000) (hL : n ≤ 10000) :
    Calls Try.prog 19 #[.agg (RBC q.mode q.F q.u A n c), .string (strB k), .string (strB bs), .string (strB x)] w (ROpenP w (openR8 q k bs x)) := by
  obtain ⟨m, F, u, L⟩ := q
  rcases hm with h | h
  · cases h
    exact rbopen_real F u A n c L w k bs x hk hbs hx
  · cases h
    exact rbopen_ideal F u A n c L hn w hR k bs x (by omega)
end Go.Proofs.Ytldjiigkebkgcaa

/- The box and the document's box, side by side: plain. No condition but those each theorem states. -/
namespace Go.Proofs.Ytldjiigkebkgcaa
set_option linter.unusedVariables false
set_option linter.unusedSimpArgs false
open Go.RowKit

structure RelB (s : BSt) (q : RBx) : Prop where
  mode : s.mode = q.mode
  F : s.F = q.F
  u : s.u = q.u
  n : s.n = q.L.length
  ideal : s.mode = 1 → s.m = q.L.map fun p => (p.x, ⟨p.key, p.beside, p.text⟩)
  known : ∀ y, knownM s.m y = knownR q.L y
theorem knownR_append (L : List REnt) (p : REnt) (y : List UInt8) : knownR (L ++ [p]) y = (knownR L y || decide (y = p.x)) := by
  simp only [knownR, List.any_append, List.any_cons, List.any_nil, Bool.or_false]
  congr 1
  exact decide_eq_decide.2 eq_comm
theorem idealL_m (t : Nat) (s : BSt) (e : Ent) : (idealL t s e).1.m = s.m ∨ ∃ x, (idealL t s e).1.m = s.m ++ [(x, e)] := by
  induction t generalizing s with
  | zero => exact .inl rfl
  | succ t ih =>
    rw [idealL]
    split
    · exact ih { s with u := s.u + (e.text.length + 28) }
    · exact .inr ⟨_, rfl⟩
theorem rel_ideal (t : Nat) (s : BSt) (q : RBx) (e : Ent) (h : RelB s q) (hm : s.mode = 1) : (idealL t s e).2 = (idealR e.key e.beside e.text t q).2 ∧ RelB (idealL t s e).1 (idealR e.key e.beside e.text t q).1 := by
  induction t generalizing s q with
  | zero => exact ⟨rfl, h⟩
  | succ t ih =>
    rw [idealL, idealR, h.F, h.u, h.known]
    split
    · exact ih _ _ ⟨h.mode, rfl, rfl, h.n, h.ideal, h.known⟩ hm
    · exact ⟨rfl, h.mode, rfl, rfl, by simp only [List.length_append, List.length_cons, List.length_nil]; rw [h.n], fun _ => by simp only [List.map_append, List.map_cons, List.map_nil]; rw [h.ideal hm], fun y => by simp only [knownM_append, knownR_append, h.known y]⟩
theorem RelB.sealed {s s' : BSt} {q : RBx} {e : Ent} {r : Option (List UInt8)} (h : RelB s q) (hs : SealR s e s' r) : r = (sealR8 q e.key e.beside e.text).2 ∧ RelB s' (sealR8 q e.key e.beside e.text).1 := by
  rcases hs with ⟨h1, h2⟩ | ⟨h0, h1, h2, h3, h4, h5, h6, _⟩
  · have hr := rel_ideal 8 s q e h h1
    rw [sealR8, if_neg (by rw [← h.mode]; omega)]
    rw [← h2] at hr
    exact hr
  · rw [sealR8, if_pos (by rw [← h.mode]; exact h0)]
    have e1 : realL s e.key e.beside e.text = tellS q.F q.u 12 ++ sealL e.key (tellS q.F q.u 12) e.beside e.text := by rw [realL, h.F, h.u]
    refine ⟨by rw [h1, e1], by rw [h2, ← h.mode, h0], by rw [h3, h.F], by rw [h4, h.u], by simp only [List.length_append, List.length_cons, List.length_nil]; rw [h5, h.n], fun hh => by omega, fun y => ?_⟩
    rw [h6, knownR_append, h.known, e1]
theorem RelB.opens {s : BSt} {q : RBx} (h : RelB s q) (hm : s.mode = 0 ∨ s.mode = 1) (hu : s.mode = 1 → ∀ (i j : Nat) (x : List UInt8) (e e' : Ent), s.m[i]? = some (x, e) → s.m[j]? = some (x, e') → i = j) (k bs x : List UInt8) : openS s k bs x = openR8 q k bs x := by
  rcases hm with h0 | h1
  · have e1 : openR8 q k bs x = _ := if_pos (show q.mode = 0 by rw [← h.mode]; exact h0)
    rw [openS, if_pos h0, e1]
  · rw [openS, if_neg (by omega), openR8, if_neg (by rw [← h.mode]; omega)]
    have hm := h.ideal h1
    have hu := hu h1
    rw [hm] at hu ⊢
    clear hm h
    generalize q.L = L at hu ⊢
    have hl : lookM (L.map fun p => (p.x, (⟨p.key, p.beside, p.text⟩ : Ent))) x = (L.find? fun p => decide (p.x = x)).map fun p => ⟨p.key, p.beside, p.text⟩ := by
      rw [lookM, List.find?_map]
      simp only [Option.map_map, Function.comp_def]
    rw [hl]
    cases hf : L.find? fun p => decide (p.x = x) with
    | none =>
      have h2 : (L.find? fun p => decide (p.x = x ∧ p.key = k ∧ p.beside = bs)) = none := by
        rw [List.find?_eq_none] at hf ⊢
        intro p hp
        have := hf p hp
        simp only [decide_eq_true_eq] at this ⊢
        exact fun hh => this hh.1
      rw [h2]
      rfl
    | some p =>
      simp only [Option.map_some]
      have hpx : p.x = x := by simpa using List.find?_some hf
      obtain ⟨i, hi⟩ := List.getElem?_of_mem (List.mem_of_find?_eq_some hf)
      have one : ∀ p' ∈ L, p'.x = x → p' = p := by
        intro p' hp' hx'
        obtain ⟨j, hj⟩ := List.getElem?_of_mem hp'
        have := hu i j x ⟨p.key, p.beside, p.text⟩ ⟨p'.key, p'.beside, p'.text⟩ (by rw [List.getElem?_map, hi]; simp [hpx]) (by rw [List.getElem?_map, hj]; simp [hx'])
        subst this
        rw [hi] at hj
        exact (Option.some.inj hj).symm
      by_cases hk : p.key = k ∧ p.beside = bs
      · rw [if_pos hk]
        cases h2 : L.find? fun p => decide (p.x = x ∧ p.key = k ∧ p.beside = bs) with
        | none =>
          rw [List.find?_eq_none] at h2
          have := h2 p (List.mem_of_find?_eq_some hf)
          simp only [decide_eq_true_eq] at this
          exact absurd ⟨hpx, hk⟩ this
        | some p' =>
          have h3 : p'.x = x ∧ p'.key = k ∧ p'.beside = bs := by simpa using List.find?_some h2
          rw [one p' (List.mem_of_find?_eq_some h2) h3.1]
          rfl
      · rw [if_neg hk]
        have h2 : (L.find? fun p => decide (p.x = x ∧ p.key = k ∧ p.beside = bs)) = none := by
          rw [List.find?_eq_none]
          intro p' hp'
          simp only [decide_eq_true_eq]
          intro hh
          rw [one p' hp' hh.1] at hh
          exact hk hh.2
        rw [h2]
        rfl
/-- How long what was sealed is. -/
theorem idealR_len (k bs t : List UInt8) (i : Nat) (q : RBx) (n : Nat) (h : ∀ p ∈ q.L, p.x.length ≤ n) (ht : t.length + 28 ≤ n) : ∀ p ∈ (idealR k bs t i q).1.L, p.x.length ≤ n := by
  induction i generalizing q with
  | zero => exact h
  | succ i ih =>
    rw [idealR]
    split
    · exact ih _ h
    · intro p hp
      simp only [List.mem_append, List.mem_cons, List.mem_nil_iff, or_false] at hp
      rcases hp with hp | rfl
      · exact h p hp
      · rw [tellS_length]; exact ht
theorem sealR8_len (q : RBx) (k bs t : List UInt8) (n : Nat) (h : ∀ p ∈ q.L, p.x.length ≤ n) (ht : t.length + 28 ≤ n) : ∀ p ∈ (sealR8 q k bs t).1.L, p.x.length ≤ n := by
  rw [sealR8]
  split
  · intro p hp
    simp only [List.mem_append, List.mem_cons, List.mem_nil_iff, or_false] at hp
    rcases hp with hp | rfl
    · exact h p hp
    · simp only [List.length_append, tellS_length, sealL_length]; omega
  · exact idealR_len k bs t 8 q n h ht
theorem SealR.texts {s s' : BSt} {e : Ent} {r : Option (List UInt8)} (hs : SealR s e s' r) (n : Nat) (h : ∀ p ∈ s.m, s.mode = 1 → p.2.text.length ≤ n) (he : e.text.length ≤ n) : ∀ p ∈ s'.m, s'.mode = 1 → p.2.text.length ≤ n := by
  rcases hs with ⟨h1, h2⟩ | ⟨h0, _, h2, _⟩
  · have e1 : s' = (idealL 8 s e).1 := by rw [← h2]
    intro p hp _
    rw [e1] at hp
    rcases idealL_m 8 s e with h3 | ⟨x, h3⟩ <;> rw [h3] at hp
    · exact h p hp h1
    · rcases List.mem_append.mp hp with hp | hp
      · exact h p hp h1
      · simp only [List.mem_cons, List.mem_nil_iff, or_false] at hp
        rw [hp]
        exact he
  · intro p _ hh
    omega
theorem _root_.Go.Proofs.Ytldjiigkebkgcaa.RdV.boxF {g S b : Nat} {w w' : World} {A : Option Addr} {l : List Value} (h : RdV w A l) (hf : BoxF g S b w w') (hA : ∀ a, A = some a → a.block ≠ g ∧ a.block ≠ S ∧ a.block ≠ b) : RdV w' A l := by
  intro j v hj
  obtain ⟨k, o, e, hc⟩ := h j v hj
  have h1 := hA _ e
  exact ⟨k, o, e, by
    rw [← hc]
    have h2 := hf.2 k (World.block_lt_of_cell? _ _ hc) h1.1 h1.2.1 h1.2.2
    simp only [World.cell?, h2]⟩
end Go.Proofs.Ytldjiigkebkgcaa
