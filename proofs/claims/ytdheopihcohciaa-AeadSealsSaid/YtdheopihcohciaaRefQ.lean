/- The document's quarter round: the same as the program's. -/
import Derived.Test.YtdheopihcohciaaProg
import Derived.Test.YtdheopihcohciaaDouble
namespace Go.Proofs.Ytdheopihcohciaa
set_option linter.unusedVariables false
set_option linter.unusedSimpArgs false
open Go.RowKit

theorem turned_any (x : UInt32) (r : Nat) (w : World) (hr : r < 32) (h0 : 0 < r) :
    Calls Try.prog 45 #[.int .u32 (x.toNat : Int), .int .u64 (r : Int)] w fun e w' => e = .returned (.int .u32 ((rotl x r).toNat : Int)) ∧ w' = w := by
  have hc := rot_core x r hr h0
  have e1 : (r : Int) ≤ 32 := by omega
  have e2 : (0 : Int) ≤ 32 - (r : Int) := by omega
  have e3 : (32 - (r : Int)) ≤ 32 := by omega
  have e4 : (32 - (r : Int)).toNat = 32 - r := by omega
  have e5 : (32 - (r : Int)) % 18446744073709551616 = 32 - (r : Int) := by omega
  go_enter Try.func45, Try.ntmps45
  go_wp2_with fail
  go_ret
  exact ⟨rfl, rfl⟩

/-- What is known of a world in which only block g was written, and which holds l there (an array of sixteen words). -/
def StR (w : World) (g : Nat) (l : List UInt32) (W : World) : Prop := W.heap[g]? = some (.cells (W32 l) 54 (0, 0)) ∧ w.grownBy W (some g)
theorem StR.cell {w W : World} {g : Nat} {l : List UInt32} (h : StR w g l W) (i : Nat) (hi : i < l.length) : W.cell? ⟨g, i, none⟩ = some (.int .u32 ((l.getD i 0).toNat : Int)) := row_cell h.1 i (W32_get l i hi)
theorem StR.pick {w W : World} {g : Nat} {l : List UInt32} (h : StR w g l W) (i : Nat) (hi : i < l.length) : ∃ x : UInt32, Hid (x = l.getD i 0) ∧ W.cell? ⟨g, i, none⟩ = some (.int .u32 (x.toNat : Int)) := ⟨_, rfl, h.cell i hi⟩
theorem StR.free {w W : World} {g : Nat} {l : List UInt32} (h : StR w g l W) (i : Nat) : W.frozen? ⟨g, i, none⟩ = false := row_free h.1 i
theorem StR.set {w W : World} {g : Nat} {l : List UInt32} (h : StR w g l W) (i : Nat) (x : UInt32) (v : Int) (hv : v = (x.toNat : Int)) : StR w g (l.set i x) (W.setCell ⟨g, i, none⟩ (.int .u32 v)) := by
  subst hv
  exact ⟨by rw [heap_setCell_same _ _ _ _ _ _ h.1, W32_set], grown_set h.2 _ _⟩
theorem StR.drew {w W : World} {g : Nat} {l : List UInt32} (h : StR w g l W) : StR w g l W.drew := ⟨h.1, grown_drew h.2⟩
theorem StR.refl {w : World} {g : Nat} {l : List UInt32} (h : w.heap[g]? = some (.cells (W32 l) 54 (0, 0))) : StR w g l w := ⟨h, World.grownBy.refl _ _⟩
theorem StR.trans {w W W' : World} {g : Nat} {l l' : List UInt32} (h : StR w g l W) (h' : StR W g l' W') : StR w g l' W' := ⟨h'.1, World.grownBy.trans h.2 h'.2⟩
def zero16w : List UInt32 := [0, 0, 0, 0, 0, 0, 0, 0, 0, 0, 0, 0, 0, 0, 0, 0]

set_option maxRecDepth 100000 in
set_option maxHeartbeats 2000000 in
theorem refQuarter_any (l : List UInt32) (hl : l.length = 16) (w : World) (a b c d : Nat) (ha : (a : Int) < 16) (hb : (b : Int) < 16) (hc : (c : Int) < 16) (hd : (d : Int) < 16) :
    Calls Try.prog 35 #[.agg (W32 l), .int .i64 (a : Int), .int .i64 (b : Int), .int .i64 (c : Int), .int .i64 (d : Int)] w fun e w' =>
      e = .returned (.agg (W32 (quarterL l a b c d))) ∧ Below w.heap.size w w' := by
  have N0 := Lib.hid hl
  have LQ := Lib.hid (show (quarterL l a b c d).length = 16 by rw [quarterL_length]; exact hl)
  go_enter Try.func35, Try.ntmps35
  go_upto_region 1 with fail
  obtain ⟨g, hg⟩ : ∃ g, g = w.heap.size := ⟨_, rfl⟩
  refine wp_abs (fun W => W.heap[g]? = some (.cells (W32 l) 54 (0, 0)) ∧ W.heap[g + 1]? = some (.cells (W32 zero16w) 54 (0, 0)) ∧ Below w.heap.size w W) ⟨ha_old _ _ _ (by simp; omega) (ha_new _ _ _ hg), ha_new _ _ _ (by simp; omega), ((Below.refl _ _).alloc (Nat.le_refl _) _).alloc (by simp) _⟩ ?_
  rw [← hg]
  have HG := Lib.hid hg
  clear hg hl
  rintro w0 ⟨hs, hz, hb0⟩
  have Z0 := Lib.hid hz
  have B0 := Lib.hid hb0
  have H0 := Lib.hid (StR.refl hs)
  clear hs hz hb0
  obtain ⟨l0, hl0⟩ : ∃ l0, l0 = l := ⟨_, rfl⟩
  have HL0 := Lib.hid hl0
  rw [← hl0] at N0 H0
  obtain ⟨wr0, hw0⟩ : ∃ wr0, wr0 = w0 := ⟨_, rfl⟩
  rw [← hw0] at H0 ⊢
  replace H0 : Hid (StR w0 g l0 wr0) := Lib.hid (by rw [hw0]; exact StR.refl (by rw [← hw0]; exact H0.out.1))
  clear hw0 hl0
  obtain ⟨x0, hx, a1⟩ := H0.out.pick a (by have := N0.out; omega)
  obtain ⟨y0, hy, a2⟩ := H0.out.pick b (by have := N0.out; omega)
  have a3 := H0.out.free a
  go_region
  go_wp2_with fail
  clear a1 a2 a3
  refine wp_abs (fun W => StR w0 g (l0.set a (l0.getD a 0 + l0.getD b 0)) W) ((H0.out.set a _ _ (by rw [← hx.out, ← hy.out]; exact u32_add _ _)).drew) ?_
  clear hx hy
  generalize hl1 : l0.set a (l0.getD a 0 + l0.getD b 0) = l1
  have HL1 := Lib.hid hl1
  have N1 := Lib.hid (show l1.length = 16 by rw [← hl1]; simpa using N0.out)
  clear hl1 H0 wr0
  rintro wr1 H1'
  have H1 := Lib.hid H1'
  clear H1' 
  obtain ⟨x1, hx, a1⟩ := H1.out.pick d (by have := N1.out; omega)
  obtain ⟨y1, hy, a2⟩ := H1.out.pick a (by have := N1.out; omega)
  have a3 := H1.out.free d
  obtain ⟨z1, hz, X⟩ := u32_xor_ex x1 y1
  go_still_tail 10, (by kernel_rfl)
  still_call (turned_any _ 16 _ (by omega) (by omega))
  repeat still_step
  refine wpStill_nil ?_
  change wpList _ _ _ _ _ wr1.drew
  go_wp2_with fail
  clear a1 a2 a3 X
  refine wp_abs (fun W => StR w0 g (l1.set d (rotl (l1.getD d 0 ^^^ l1.getD a 0) 16)) W) (by rw [← hx.out, ← hy.out, ← hz.out]; exact (H1.out.set d _ _ rfl).drew) ?_
  clear hx hy hz
  generalize hl2 : l1.set d (rotl (l1.getD d 0 ^^^ l1.getD a 0) 16) = l2
  have HL2 := Lib.hid hl2
  have N2 := Lib.hid (show l2.length = 16 by rw [← hl2]; simpa using N1.out)
  clear hl2 H1 wr1
  rintro wr2 H2'
  have H2 := Lib.hid H2'
  clear H2' 
  obtain ⟨x2, hx, a1⟩ := H2.out.pick c (by have := N2.out; omega)
  obtain ⟨y2, hy, a2⟩ := H2.out.pick d (by have := N2.out; omega)
  have a3 := H2.out.free c
  go_region
  go_wp2_with fail
  clear a1 a2 a3
  refine wp_abs (fun W => StR w0 g (l2.set c (l2.getD c 0 + l2.getD d 0)) W) ((H2.out.set c _ _ (by rw [← hx.out, ← hy.out]; exact u32_add _ _)).drew) ?_
  clear hx hy
  generalize hl3 : l2.set c (l2.getD c 0 + l2.getD d 0) = l3
  have HL3 := Lib.hid hl3
  have N3 := Lib.hid (show l3.length = 16 by rw [← hl3]; simpa using N2.out)
  clear hl3 H2 wr2
  rintro wr3 H3'
  have H3 := Lib.hid H3'
  clear H3' 
  obtain ⟨x3, hx, a1⟩ := H3.out.pick b (by have := N3.out; omega)
  obtain ⟨y3, hy, a2⟩ := H3.out.pick c (by have := N3.out; omega)
  have a3 := H3.out.free b
  obtain ⟨z3, hz, X⟩ := u32_xor_ex x3 y3
  go_still_tail 10, (by kernel_rfl)
  still_call (turned_any _ 12 _ (by omega) (by omega))
  repeat still_step
  refine wpStill_nil ?_
  change wpList _ _ _ _ _ wr3.drew
  go_wp2_with fail
  clear a1 a2 a3 X
  refine wp_abs (fun W => StR w0 g (l3.set b (rotl (l3.getD b 0 ^^^ l3.getD c 0) 12)) W) (by rw [← hx.out, ← hy.out, ← hz.out]; exact (H3.out.set b _ _ rfl).drew) ?_
  clear hx hy hz
  generalize hl4 : l3.set b (rotl (l3.getD b 0 ^^^ l3.getD c 0) 12) = l4
  have HL4 := Lib.hid hl4
  have N4 := Lib.hid (show l4.length = 16 by rw [← hl4]; simpa using N3.out)
  clear hl4 H3 wr3
  rintro wr4 H4'
  have H4 := Lib.hid H4'
  clear H4' 
  obtain ⟨x4, hx, a1⟩ := H4.out.pick a (by have := N4.out; omega)
  obtain ⟨y4, hy, a2⟩ := H4.out.pick b (by have := N4.out; omega)
  have a3 := H4.out.free a
  go_region
  go_wp2_with fail
  clear a1 a2 a3
  refine wp_abs (fun W => StR w0 g (l4.set a (l4.getD a 0 + l4.getD b 0)) W) ((H4.out.set a _ _ (by rw [← hx.out, ← hy.out]; exact u32_add _ _)).drew) ?_
  clear hx hy
  generalize hl5 : l4.set a (l4.getD a 0 + l4.getD b 0) = l5
  have HL5 := Lib.hid hl5
  have N5 := Lib.hid (show l5.length = 16 by rw [← hl5]; simpa using N4.out)
  clear hl5 H4 wr4
  rintro wr5 H5'
  have H5 := Lib.hid H5'
  clear H5' 
  obtain ⟨x5, hx, a1⟩ := H5.out.pick d (by have := N5.out; omega)
  obtain ⟨y5, hy, a2⟩ := H5.out.pick a (by have := N5.out; omega)
  have a3 := H5.out.free d
  obtain ⟨z5, hz, X⟩ := u32_xor_ex x5 y5
  go_still_tail 10, (by kernel_rfl)
  still_call (turned_any _ 8 _ (by omega) (by omega))
  repeat still_step
  refine wpStill_nil ?_
  change wpList _ _ _ _ _ wr5.drew
  go_wp2_with fail
  clear a1 a2 a3 X
  refine wp_abs (fun W => StR w0 g (l5.set d (rotl (l5.getD d 0 ^^^ l5.getD a 0) 8)) W) (by rw [← hx.out, ← hy.out, ← hz.out]; exact (H5.out.set d _ _ rfl).drew) ?_
  clear hx hy hz
  generalize hl6 : l5.set d (rotl (l5.getD d 0 ^^^ l5.getD a 0) 8) = l6
  have HL6 := Lib.hid hl6
  have N6 := Lib.hid (show l6.length = 16 by rw [← hl6]; simpa using N5.out)
  clear hl6 H5 wr5
  rintro wr6 H6'
  have H6 := Lib.hid H6'
  clear H6' 
  obtain ⟨x6, hx, a1⟩ := H6.out.pick c (by have := N6.out; omega)
  obtain ⟨y6, hy, a2⟩ := H6.out.pick d (by have := N6.out; omega)
  have a3 := H6.out.free c
  go_region
  go_wp2_with fail
  clear a1 a2 a3
  refine wp_abs (fun W => StR w0 g (l6.set c (l6.getD c 0 + l6.getD d 0)) W) ((H6.out.set c _ _ (by rw [← hx.out, ← hy.out]; exact u32_add _ _)).drew) ?_
  clear hx hy
  generalize hl7 : l6.set c (l6.getD c 0 + l6.getD d 0) = l7
  have HL7 := Lib.hid hl7
  have N7 := Lib.hid (show l7.length = 16 by rw [← hl7]; simpa using N6.out)
  clear hl7 H6 wr6
  rintro wr7 H7'
  have H7 := Lib.hid H7'
  clear H7' 
  obtain ⟨x7, hx, a1⟩ := H7.out.pick b (by have := N7.out; omega)
  obtain ⟨y7, hy, a2⟩ := H7.out.pick c (by have := N7.out; omega)
  have a3 := H7.out.free b
  obtain ⟨z7, hz, X⟩ := u32_xor_ex x7 y7
  go_still_tail 10, (by kernel_rfl)
  still_call (turned_any _ 7 _ (by omega) (by omega))
  repeat still_step
  refine wpStill_nil ?_
  change wpList _ _ _ _ _ wr7.drew
  go_upto_region 9 with fail
  clear a1 a2 a3 X
  refine wp_abs (fun W => StR w0 g (l7.set b (rotl (l7.getD b 0 ^^^ l7.getD c 0) 7)) W) (by rw [← hx.out, ← hy.out, ← hz.out]; exact (H7.out.set b _ _ rfl).drew) ?_
  clear hx hy hz
  generalize hl8 : l7.set b (rotl (l7.getD b 0 ^^^ l7.getD c 0) 7) = l8
  have HL8 := Lib.hid hl8
  have N8 := Lib.hid (show l8.length = 16 by rw [← hl8]; simpa using N7.out)
  clear hl8 H7 wr7
  rintro wr8 H8'
  have H8 := Lib.hid H8'
  clear H8' 
  have E : l8 = quarterL l a b c d := by
    rw [← HL8.out, ← HL7.out, ← HL6.out, ← HL5.out, ← HL4.out, ← HL3.out, ← HL2.out, ← HL1.out, HL0.out]; rfl
  have HE := Lib.hid E
  have ZQ := Lib.hid (show (Try.prog.info? 54).map (·.size) = some (W32 l8).size by rw [W32_size, N8.out]; kernel_rfl)
  clear E HL1 HL2 HL3 HL4 HL5 HL6 HL7 HL8 HL0
  have R8 := Lib.hid (grown_block H8.out.2 (by simp) Z0.out)
  go_wp2_with (first
    | (refine wpList_load_row rfl 54 (.tmp 5) rfl g rfl 54 (W32 l8) (0, 0) _ H8.out.1 Try.underlying54 rfl ZQ.out ?_)
    | (refine wpList_store_whole rfl rfl 54 (.tmp 10) (.tmp 87) rfl (g + 1) (W32 l8) rfl rfl 54 (W32 zero16w) R8.out ZQ.out (by rw [W32_size, W32_size, N8.out]; rfl) (W32_one _) ?_; intro w9 hg9 hgr9 hs9))
  have G9 := Lib.hid hg9
  have B9 := Lib.hid ((B0.out.trans (grown_below H8.out.2 (by rw [HG.out]; exact B0.out.size) (fun k e => by simp at e; have := HG.out; omega))).trans (grown_below hgr9 (by have := row_lt H8.out.1; have := HG.out; omega) (fun k e => by simp at e; have := HG.out; omega)))
  clear hg9 hgr9 hs9 H8 R8 B0 Z0
  go_wp2_with fail
  refine bodyPost_ret (results_cell_row rfl _ _ (g + 1) 54 (W32 l8) (0, 0) _ rfl G9.out Try.underlying54 rfl ZQ.out) rfl ?_
  rw [← HE.out]
  exact ⟨rfl, by rw [← HG.out]; exact B9.out⟩
end Go.Proofs.Ytdheopihcohciaa
