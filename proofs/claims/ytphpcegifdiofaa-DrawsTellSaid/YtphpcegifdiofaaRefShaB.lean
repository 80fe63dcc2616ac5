/- The document's block, taken in. -/
import Derived.Test.YtphpcegifdiofaaRefShaR
import Derived.Test.YtphpcegifdiofaaShaTake
import Derived.Test.YtphpcegifdiofaaLast
namespace Go.Proofs.Ytphpcegifdiofaa
set_option linter.unusedVariables false
set_option linter.unusedSimpArgs false
open Go.RowKit
attribute [local go_sem ↓] Go.wp_at_zero Go.wp_at_succ

set_option maxRecDepth 100000 in
set_option maxHeartbeats 1000000 in
theorem rk_any (w : World) : Calls Try.prog 27 #[] w fun e w' => ∃ g, e = .returned (.slice (some ⟨g, 0, none⟩) 64 64) ∧ w.heap.size ≤ g ∧ w'.heap[g]? = some (.cells (W32 constL) 51 (0, 0)) ∧ Below w.heap.size w w' := by
  have Z : Hid (W32 constL = #[] ++ W32 constL) := by show _ = _; simp
  go_enter Try.func27, Try.ntmps27
  go_wp2_with fail
  go_ret
  refine ⟨w.heap.size, rfl, Nat.le_refl _, ha_new _ _ _ rfl, (Below.refl _ _).alloc (Nat.le_refl _) _⟩
/-- The call's own, while the words are laid. -/
structure RbW (w : World) (s l : List UInt32) (W : World) : Prop where
  bh : W.heap[w.heap.size]? = some (.cells (W32 s) 52 (0, 0))
  br : W.heap[w.heap.size + 1]? = some (.cells (W32 zero8L) 52 (0, 0))
  bw : W.heap[w.heap.size + 2]? = some (.cells (W32 l) 58 (0, 0))
  bel : Below w.heap.size w W
theorem RbW.keep {w W W' : World} {s l : List UInt32} (h : RbW w s l W) (hb : Below W.heap.size W W') : RbW w s l W' where
  bh := below_block hb (row_lt h.bh) h.bh
  br := below_block hb (row_lt h.br) h.br
  bw := below_block hb (row_lt h.bw) h.bw
  bel := h.bel.trans (hb.mono h.bel.size)
theorem RbW.set {w W : World} {s l : List UInt32} (h : RbW w s l W) (i : Nat) (x : UInt32) : RbW w s (l.set i x) (W.setCell ⟨w.heap.size + 2, i, none⟩ (.int .u32 (x.toNat : Int))) where
  bh := grown_block (grown_set (World.grownBy.refl _ _) _ _) (by simp) h.bh
  br := grown_block (grown_set (World.grownBy.refl _ _) _ _) (by simp) h.br
  bw := by rw [heap_setCell_same _ _ _ _ _ _ h.bw, W32_set]
  bel := h.bel.trans (grown_below (grown_set (World.grownBy.refl W (some (w.heap.size + 2))) _ _) h.bel.size (by rintro g ⟨⟩; omega))
theorem rword_valW (x0 x1 x2 x3 : UInt8) : IntKind.u32.wrap (IntKind.u32.wrap (IntKind.u32.wrap (IntKind.u32.wrap (IntKind.u32.wrap (x0.toNat : Int) * 16777216) + IntKind.u32.wrap (IntKind.u32.wrap (x1.toNat : Int) * 65536)) + IntKind.u32.wrap (IntKind.u32.wrap (x2.toNat : Int) * 256)) + IntKind.u32.wrap (x3.toNat : Int)) = ((((x0.toUInt32 <<< 8 ||| x1.toUInt32) <<< 8 ||| x2.toUInt32) <<< 8 ||| x3.toUInt32).toNat : Int) := by
  have h0 := x0.toNat_lt
  have h1 := x1.toNat_lt
  have h2 := x2.toNat_lt
  have h3 := x3.toNat_lt
  rw [← rword_val]
  simp only [IntKind.wrap_u32]
  omega
theorem next_valW (a b c d : UInt32) : IntKind.u32.wrap (IntKind.u32.wrap (IntKind.u32.wrap ((a.toNat : Int) + (b.toNat : Int)) + (c.toNat : Int)) + (d.toNat : Int)) = ((d + c + b + a).toNat : Int) := by
  rw [← next_eq, IntKind.wrap_u32, IntKind.wrap_u32, IntKind.wrap_u32, u32_add, u32_add, u32_add]
/-- .. while the rounds go on: the words, the constants, what goes round. -/
structure RvW (w : World) (h l v : List UInt32) (C V : Nat) (W : World) : Prop where
  bh : W.heap[w.heap.size]? = some (.cells (W32 h) 52 (0, 0))
  br : W.heap[w.heap.size + 1]? = some (.cells (W32 zero8L) 52 (0, 0))
  bw : W.heap[w.heap.size + 2]? = some (.cells (W32 l) 58 (0, 0))
  bc : W.heap[C]? = some (.cells (W32 constL) 51 (0, 0))
  bv : W.heap[V]? = some (.cells (W32 v) 52 (0, 0))
  hC : w.heap.size + 2 < C
  hV : C < V
  bel : Below w.heap.size w W
theorem RvW.keep {w W W' : World} {h l v : List UInt32} {C V : Nat} (k : RvW w h l v C V W) (hb : Below W.heap.size W W') : RvW w h l v C V W' where
  bh := below_block hb (row_lt k.bh) k.bh
  br := below_block hb (row_lt k.br) k.br
  bw := below_block hb (row_lt k.bw) k.bw
  bc := below_block hb (row_lt k.bc) k.bc
  bv := below_block hb (row_lt k.bv) k.bv
  hC := k.hC
  hV := k.hV
  bel := k.bel.trans (hb.mono k.bel.size)
theorem RvW.setv {w W W' : World} {h l v v' : List UInt32} {C V : Nat} (k : RvW w h l v C V W) (hb : W'.heap[V]? = some (.cells (W32 v') 52 (0, 0))) (hg : W.grownBy W' (some V)) : RvW w h l v' C V W' where
  bh := grown_block hg (by have := k.hC; have := k.hV; simp; omega) k.bh
  br := grown_block hg (by have := k.hC; have := k.hV; simp; omega) k.br
  bw := grown_block hg (by have := k.hC; have := k.hV; simp; omega) k.bw
  bc := grown_block hg (by have := k.hV; simp; omega) k.bc
  bv := hb
  hC := k.hC
  hV := k.hV
  bel := k.bel.trans (grown_below hg k.bel.size (by rintro g ⟨⟩; have := k.hC; have := k.hV; omega))
theorem RvW.seth {w W : World} {h l v : List UInt32} {C V : Nat} (k : RvW w h l v C V W) (i : Nat) (x : UInt32) : RvW w (h.set i x) l v C V (W.setCell ⟨w.heap.size, i, none⟩ (.int .u32 (x.toNat : Int))) where
  bh := by rw [heap_setCell_same _ _ _ _ _ _ k.bh, W32_set]
  br := grown_block (grown_set (World.grownBy.refl _ _) _ _) (by simp) k.br
  bw := grown_block (grown_set (World.grownBy.refl _ _) _ _) (by simp) k.bw
  bc := grown_block (grown_set (World.grownBy.refl _ _) _ _) (by have := k.hC; simp; omega) k.bc
  bv := grown_block (grown_set (World.grownBy.refl _ _) _ _) (by have := k.hC; have := k.hV; simp; omega) k.bv
  hC := k.hC
  hV := k.hV
  bel := k.bel.trans (grown_below (grown_set (World.grownBy.refl W (some w.heap.size)) _ _) k.bel.size (by rintro g ⟨⟩; omega))
theorem chR_ex (e f g : UInt32) : ∃ z : UInt32, Hid (z = g ^^^ (e &&& (f ^^^ g))) ∧ bits .xor .u32 (bits .and .u32 (e.toNat : Int) (f.toNat : Int)) (bits .and .u32 (bits .xor .u32 (e.toNat : Int) 4294967295) (g.toNat : Int)) = (z.toNat : Int) := by
  refine ⟨_, rfl, ?_⟩
  have h := u32_xor' e 4294967295
  rw [show (((4294967295 : UInt32).toNat : Nat) : Int) = 4294967295 from rfl] at h
  rw [h, u32_and', u32_and', u32_xor', ch_eq]
theorem mjR_ex (a b c : UInt32) : ∃ z : UInt32, Hid (z = (a &&& b) ||| (c &&& (a ||| b))) ∧ bits .xor .u32 (bits .xor .u32 (bits .and .u32 (a.toNat : Int) (b.toNat : Int)) (bits .and .u32 (a.toNat : Int) (c.toNat : Int))) (bits .and .u32 (b.toNat : Int) (c.toNat : Int)) = (z.toNat : Int) := by
  refine ⟨_, rfl, ?_⟩
  rw [u32_and', u32_and', u32_and', u32_xor', u32_xor', mj_eq]
theorem sumM_ex (x y : UInt32) : ∃ z : UInt32, Hid (z = x + y) ∧ ((x.toNat : Int) + (y.toNat : Int)) % 4294967296 = (z.toNat : Int) := ⟨_, rfl, u32_add _ _⟩

set_option maxRecDepth 100000 in
set_option maxHeartbeats 4000000 in
theorem rblock_any (s : List UInt32) (b : List UInt8) (hs : s.length = 8) (hb : b.length = 64) (w : World) :
    Calls Try.prog 23 #[.agg (W32 s), .string (strB b)] w fun e w' => e = .returned (.agg (W32 (takeL s b))) ∧ Below w.heap.size w w' := by
  have HS := Lib.hid hs
  have HB := Lib.hid hb
  have Z8 := Lib.hid (show (Try.prog.info? 52).map (·.size) = some 8 by kernel_rfl)
  obtain ⟨S0, hS0⟩ : ∃ S0, S0 = W32 s := ⟨_, rfl⟩
  rw [← hS0]
  have S1 := Lib.hid (show S0.all (·.oneCell') = true by rw [hS0]; exact W32_one _)
  have S2 := Lib.hid (show S0.size = 8 by rw [hS0, W32_size, hs])
  have SE := Lib.hid hS0
  clear hs hb hS0
  obtain ⟨j0, hj0, hj1, hj2, _⟩ := info_parts (show (Try.prog.info? 51).map (fun i => (i.zero, i.size, i.bytes)) = some (some (.int .u32 0), 1, 4) by kernel_rfl)
  have J0 := Lib.hid hj0
  have J2 := Lib.hid hj2
  clear hj0 hj1 hj2
  go_enter Try.func23, Try.ntmps23
  go_wp2_with fail
  refine wp_abs (fun W => RbW w s (schedK b 0) W) ⟨?ba, ?bb, ?bc, ?bd⟩ ?_
  case ba => exact ha_old _ _ _ (by simp; omega) (ha_old _ _ _ (by simp) (ha_new _ _ _ rfl)) |>.trans (by rw [SE.out])
  case bb => exact ha_old _ _ _ (by simp) (ha_new _ _ _ (by simp))
  case bc => exact ha_new _ _ _ (by simp)
  case bd => exact (((Below.refl _ _).alloc (Nat.le_refl _) _).alloc (by simp) _).alloc (by simp; omega) _
  intro w1 h1
  have H1 := Lib.hid h1
  clear h1
  go_loopw [6, 7, 8] (fun i _ _ wr => ∃ t : Nat, t ≤ 64 ∧ i = .int .i64 (t : Int) ∧ RbW w s (schedK b t) wr) (fun i _ _ _ => 64 - (intOf i).toNat)
  case atStart => exact ⟨0, by omega, rfl, H1.out⟩
  case round =>
    obtain ⟨t, ht, rfl, h2⟩ := hrel
    have H2 := Lib.hid h2
    clear h2 H1 w1
    by_cases hlt : t < 64
    · have hD : decide ((t : Int) < 64) = true := by simp; omega
      by_cases h16 : t < 16
      · have hE : decide ((t : Int) < 16) = true := by simp; omega
        have T16 := Lib.hid h16
        have e0 : Hid (IntKind.i64.wrap (4 * (t : Int)) = ((4 * t : Nat) : Int)) := by show _ = _; rw [IntKind.wrap_i64]; omega
        have e1 : Hid (IntKind.i64.wrap (IntKind.i64.wrap (4 * (t : Int)) + 1) = ((4 * t + 1 : Nat) : Int)) := by show _ = _; rw [e0.out, IntKind.wrap_i64]; omega
        have e2 : Hid (IntKind.i64.wrap (IntKind.i64.wrap (4 * (t : Int)) + 2) = ((4 * t + 2 : Nat) : Int)) := by show _ = _; rw [e0.out, IntKind.wrap_i64]; omega
        have e3 : Hid (IntKind.i64.wrap (IntKind.i64.wrap (4 * (t : Int)) + 3) = ((4 * t + 3 : Nat) : Int)) := by show _ = _; rw [e0.out, IntKind.wrap_i64]; omega
        obtain ⟨x0, h0⟩ : ∃ x, x = b.getD (4 * t) 0 := ⟨_, rfl⟩
        obtain ⟨x1, h1⟩ : ∃ x, x = b.getD (4 * t + 1) 0 := ⟨_, rfl⟩
        obtain ⟨x2, h2⟩ : ∃ x, x = b.getD (4 * t + 2) 0 := ⟨_, rfl⟩
        obtain ⟨x3, h3⟩ : ∃ x, x = b.getD (4 * t + 3) 0 := ⟨_, rfl⟩
        have X := Lib.hid (word4_eq b t)
        rw [← h0, ← h1, ← h2, ← h3] at X
        have D0 := Lib.hid h0
        have D1 := Lib.hid h1
        have D2 := Lib.hid h2
        have D3 := Lib.hid h3
        clear h0 h1 h2 h3 ht
        go_upto_region 6 with fail
        clear hlt hD h16 hE
        have H3 := Lib.hid (H2.out.keep (Below.refl _ _).drew)
        have tb : (t : Int) < 64 := by have := T16.out; omega
        refine wp_region_till (RbW w s (schedK b t)) 31 [(true, 0), (true, 1), (true, 2), (true, 3), (true, 4), (true, 5), (true, 6), (true, 7), (true, 8), (true, 9), (true, 10), (true, 11), (true, 12), (true, 13), (true, 14), (true, 15), (true, 16), (true, 17), (true, 18), (true, 19), (true, 20), (true, 21), (true, 22), (true, 23), (true, 24), (true, 25), (true, 26), (true, 27), (true, 28), (true, 29), (true, 30)] _ (by kernel_rfl) (by kernel_rfl) rfl (fun _ _ d _ _ h => by cases d <;> exact h) ?_
        simp only [List.filterMap_cons, List.filterMap_nil, List.getElem?_toArray, List.getElem?_cons_zero, List.getElem?_cons_succ, Option.map_some]
        refine till_q (v := ?_) (by rfl) (H3.out) ?_ ?_
        rotate_left
        · intro W hW
          go_simp
          with_reducible rfl
        simp only [Act.put, List.setIfInBounds_toArray, List.set_cons_zero, List.set_cons_succ]
        refine till_q (v := ?_) (by rfl) (H3.out) ?_ ?_
        rotate_left
        · intro W hW
          go_simp
          with_reducible rfl
        simp only [Act.put, List.setIfInBounds_toArray, List.set_cons_zero, List.set_cons_succ]
        refine till_q (v := ?_) (by rfl) (H3.out) ?_ ?_
        rotate_left
        · intro W hW
          go_simp
          with_reducible rfl
        simp only [Act.put, List.setIfInBounds_toArray, List.set_cons_zero, List.set_cons_succ]
        refine till_q (v := ?_) (by rfl) (H3.out) ?_ ?_
        rotate_left
        · intro W hW
          go_simp
          with_reducible rfl
        simp only [Act.put, List.setIfInBounds_toArray, List.set_cons_zero, List.set_cons_succ]
        refine till_q (by rfl) (H3.out) (fun W hW => run_idx_str 9 (.tmp 26) (.tmp 28) rfl Try.underlying9 b (4 * t) x0 D0.out (by have := HB.out; have := T16.out; omega) .i64 _ e0.out rfl rfl W) ?_
        simp only [Act.put, List.setIfInBounds_toArray, List.set_cons_zero, List.set_cons_succ]
        refine till_q (v := ?_) (by rfl) (H3.out) ?_ ?_
        rotate_left
        · intro W hW
          go_simp
          with_reducible rfl
        simp only [Act.put, List.setIfInBounds_toArray, List.set_cons_zero, List.set_cons_succ]
        refine till_q (v := ?_) (by rfl) (H3.out) ?_ ?_
        rotate_left
        · intro W hW
          go_simp
          with_reducible rfl
        simp only [Act.put, List.setIfInBounds_toArray, List.set_cons_zero, List.set_cons_succ]
        refine till_q (v := ?_) (by rfl) (H3.out) ?_ ?_
        rotate_left
        · intro W hW
          go_simp
          with_reducible rfl
        simp only [Act.put, List.setIfInBounds_toArray, List.set_cons_zero, List.set_cons_succ]
        refine till_q (v := ?_) (by rfl) (H3.out) ?_ ?_
        rotate_left
        · intro W hW
          go_simp
          with_reducible rfl
        simp only [Act.put, List.setIfInBounds_toArray, List.set_cons_zero, List.set_cons_succ]
        refine till_q (v := ?_) (by rfl) (H3.out) ?_ ?_
        rotate_left
        · intro W hW
          go_simp
          with_reducible rfl
        simp only [Act.put, List.setIfInBounds_toArray, List.set_cons_zero, List.set_cons_succ]
        refine till_q (v := ?_) (by rfl) (H3.out) ?_ ?_
        rotate_left
        · intro W hW
          go_simp
          with_reducible rfl
        simp only [Act.put, List.setIfInBounds_toArray, List.set_cons_zero, List.set_cons_succ]
        refine till_q (by rfl) (H3.out) (fun W hW => run_idx_str 9 (.tmp 32) (.tmp 35) rfl Try.underlying9 b (4 * t + 1) x1 D1.out (by have := HB.out; have := T16.out; omega) .i64 _ e1.out rfl rfl W) ?_
        simp only [Act.put, List.setIfInBounds_toArray, List.set_cons_zero, List.set_cons_succ]
        refine till_q (v := ?_) (by rfl) (H3.out) ?_ ?_
        rotate_left
        · intro W hW
          go_simp
          with_reducible rfl
        simp only [Act.put, List.setIfInBounds_toArray, List.set_cons_zero, List.set_cons_succ]
        refine till_q (v := ?_) (by rfl) (H3.out) ?_ ?_
        rotate_left
        · intro W hW
          go_simp
          with_reducible rfl
        simp only [Act.put, List.setIfInBounds_toArray, List.set_cons_zero, List.set_cons_succ]
        refine till_q (v := ?_) (by rfl) (H3.out) ?_ ?_
        rotate_left
        · intro W hW
          go_simp
          with_reducible rfl
        simp only [Act.put, List.setIfInBounds_toArray, List.set_cons_zero, List.set_cons_succ]
        refine till_q (v := ?_) (by rfl) (H3.out) ?_ ?_
        rotate_left
        · intro W hW
          go_simp
          with_reducible rfl
        simp only [Act.put, List.setIfInBounds_toArray, List.set_cons_zero, List.set_cons_succ]
        refine till_q (v := ?_) (by rfl) (H3.out) ?_ ?_
        rotate_left
        · intro W hW
          go_simp
          with_reducible rfl
        simp only [Act.put, List.setIfInBounds_toArray, List.set_cons_zero, List.set_cons_succ]
        refine till_q (v := ?_) (by rfl) (H3.out) ?_ ?_
        rotate_left
        · intro W hW
          go_simp
          with_reducible rfl
        simp only [Act.put, List.setIfInBounds_toArray, List.set_cons_zero, List.set_cons_succ]
        refine till_q (v := ?_) (by rfl) (H3.out) ?_ ?_
        rotate_left
        · intro W hW
          go_simp
          with_reducible rfl
        simp only [Act.put, List.setIfInBounds_toArray, List.set_cons_zero, List.set_cons_succ]
        refine till_q (by rfl) (H3.out) (fun W hW => run_idx_str 9 (.tmp 40) (.tmp 43) rfl Try.underlying9 b (4 * t + 2) x2 D2.out (by have := HB.out; have := T16.out; omega) .i64 _ e2.out rfl rfl W) ?_
        simp only [Act.put, List.setIfInBounds_toArray, List.set_cons_zero, List.set_cons_succ]
        refine till_q (v := ?_) (by rfl) (H3.out) ?_ ?_
        rotate_left
        · intro W hW
          go_simp
          with_reducible rfl
        simp only [Act.put, List.setIfInBounds_toArray, List.set_cons_zero, List.set_cons_succ]
        refine till_q (v := ?_) (by rfl) (H3.out) ?_ ?_
        rotate_left
        · intro W hW
          go_simp
          with_reducible rfl
        simp only [Act.put, List.setIfInBounds_toArray, List.set_cons_zero, List.set_cons_succ]
        refine till_q (v := ?_) (by rfl) (H3.out) ?_ ?_
        rotate_left
        · intro W hW
          go_simp
          with_reducible rfl
        simp only [Act.put, List.setIfInBounds_toArray, List.set_cons_zero, List.set_cons_succ]
        refine till_q (v := ?_) (by rfl) (H3.out) ?_ ?_
        rotate_left
        · intro W hW
          go_simp
          with_reducible rfl
        simp only [Act.put, List.setIfInBounds_toArray, List.set_cons_zero, List.set_cons_succ]
        refine till_q (v := ?_) (by rfl) (H3.out) ?_ ?_
        rotate_left
        · intro W hW
          go_simp
          with_reducible rfl
        simp only [Act.put, List.setIfInBounds_toArray, List.set_cons_zero, List.set_cons_succ]
        refine till_q (v := ?_) (by rfl) (H3.out) ?_ ?_
        rotate_left
        · intro W hW
          go_simp
          with_reducible rfl
        simp only [Act.put, List.setIfInBounds_toArray, List.set_cons_zero, List.set_cons_succ]
        refine till_q (v := ?_) (by rfl) (H3.out) ?_ ?_
        rotate_left
        · intro W hW
          go_simp
          with_reducible rfl
        simp only [Act.put, List.setIfInBounds_toArray, List.set_cons_zero, List.set_cons_succ]
        refine till_q (by rfl) (H3.out) (fun W hW => run_idx_str 9 (.tmp 48) (.tmp 51) rfl Try.underlying9 b (4 * t + 3) x3 D3.out (by have := HB.out; have := T16.out; omega) .i64 _ e3.out rfl rfl W) ?_
        simp only [Act.put, List.setIfInBounds_toArray, List.set_cons_zero, List.set_cons_succ]
        refine till_q (v := ?_) (by rfl) (H3.out) ?_ ?_
        rotate_left
        · intro W hW
          go_simp
          with_reducible rfl
        simp only [Act.put, List.setIfInBounds_toArray, List.set_cons_zero, List.set_cons_succ]
        refine till_q (v := ?_) (by rfl) (H3.out) ?_ ?_
        rotate_left
        · intro W hW
          go_simp
          with_reducible rfl
        simp only [Act.put, List.setIfInBounds_toArray, List.set_cons_zero, List.set_cons_succ]
        refine till_q (v := ?_) (by rfl) (H3.out) ?_ ?_
        rotate_left
        · intro W hW
          go_simp
          with_reducible rfl
        simp only [Act.put, List.setIfInBounds_toArray, List.set_cons_zero, List.set_cons_succ]
        have f4 := row_free H3.out.bw t
        have a4 := row_cell H3.out.bw t (W32_get _ t (by rw [schedK_length]; omega))
        refine till_last (fun K hK => ?_)
        go_simp
        rw [rword_valW, ← X.out]
        have H4 := Lib.hid ((H2.out.set t (word4 b t 4)).keep (Below.refl _ _).drew)
        obtain ⟨w4, hw4⟩ : ∃ w4, w4 = (wr.setCell ⟨w.heap.size + 2, t, none⟩ (.int .u32 ((word4 b t 4).toNat : Int))).drew := ⟨_, rfl⟩
        change K _ (wr.setCell ⟨w.heap.size + 2, t, none⟩ (.int .u32 ((word4 b t 4).toNat : Int))).drew
        rw [← hw4]
        have H5 : Hid (RbW w s ((schedK b t).set t (word4 b t 4)) w4) := by rw [hw4]; exact H4
        clear hw4 f4 a4 H4
        refine hK.out _ _ ?_
        clear hK K
        go_wp2_with fail
        go_roundw
        case rel => exact ⟨t + 1, by have := T16.out; omega, by go_num, by rw [schedK, if_pos T16.out]; exact H5.out⟩
        case measure => have := T16.out; simp [intOf]; omega
      · have hE : decide ((t : Int) < 16) = false := by simp; omega
        have T16 := Lib.hid (show 16 ≤ t by omega)
        have T64 := Lib.hid hlt
        obtain ⟨xa, hxa⟩ : ∃ x, x = (schedK b t).getD (t - 15) 0 := ⟨_, rfl⟩
        obtain ⟨xb, hxb⟩ : ∃ x, x = (schedK b t).getD (t - 2) 0 := ⟨_, rfl⟩
        obtain ⟨xc, hxc⟩ : ∃ x, x = (schedK b t).getD (t - 16) 0 := ⟨_, rfl⟩
        obtain ⟨xd, hxd⟩ : ∃ x, x = (schedK b t).getD (t - 7) 0 := ⟨_, rfl⟩
        have SL := Lib.hid (show (schedK b t).length = 64 from schedK_length b t)
        have a1 := row_cell H2.out.bw (t - 15) (W32_get _ (t - 15) (by rw [SL.out]; omega))
        have a2 := row_cell H2.out.bw (t - 2) (W32_get _ (t - 2) (by rw [SL.out]; omega))
        rw [← hxa] at a1
        rw [← hxb] at a2
        have C3 := Lib.hid (fun W (hW : RbW w s (schedK b t) W) => (show W.cell? ⟨w.heap.size + 2, t - 16, none⟩ = some (.int .u32 (xc.toNat : Int)) by
          have := row_cell hW.bw (t - 16) (W32_get _ (t - 16) (by rw [SL.out]; omega)); rwa [← hxc] at this))
        have C4 := Lib.hid (fun W (hW : RbW w s (schedK b t) W) => (show W.cell? ⟨w.heap.size + 2, t - 7, none⟩ = some (.int .u32 (xd.toNat : Int)) by
          have := row_cell hW.bw (t - 7) (W32_get _ (t - 7) (by rw [SL.out]; omega)); rwa [← hxd] at this))
        have NX := Lib.hid (show nextL (schedK b t) t = xc + lowL xa + xd + highL xb by rw [nextL, ← hxa, ← hxb, ← hxc, ← hxd])
        have e7 : Hid (IntKind.i64.wrap ((t : Int) - 7) = ((t - 7 : Nat) : Int)) := by show _ = _; rw [IntKind.wrap_i64]; omega
        have e16 : Hid (IntKind.i64.wrap ((t : Int) - 16) = ((t - 16 : Nat) : Int)) := by show _ = _; rw [IntKind.wrap_i64]; omega
        clear hxa hxb hxc hxd ht
        go_upto_region 9 with fail
        clear hlt hD h16 hE a1 a2
        have H3 := Lib.hid (H2.out.keep (Below.refl _ _).drew)
        refine wp_region_till (RbW w s (schedK b t)) 29 [(true, 0), (true, 1), (true, 3), (true, 6), (true, 7), (true, 9), (true, 10), (true, 11), (true, 12), (true, 14), (true, 16), (true, 19), (true, 20), (true, 23), (true, 24), (true, 25), (true, 26), (false, 2), (false, 4), (true, 5), (true, 8), (true, 13), (false, 15), (false, 17), (true, 18), (true, 21), (true, 22), (true, 27), (true, 28)] _ (by kernel_rfl) (by kernel_rfl) rfl (fun _ _ d _ _ h => by cases d <;> exact h) ?_
        simp only [List.filterMap_cons, List.filterMap_nil, List.getElem?_toArray, List.getElem?_cons_zero, List.getElem?_cons_succ, Option.map_some]
        refine till_q (v := ?_) (by rfl) (H3.out) ?_ ?_
        rotate_left
        · intro W hW
          go_simp
          with_reducible rfl
        simp only [Act.put, List.setIfInBounds_toArray, List.set_cons_zero, List.set_cons_succ]
        refine till_q (v := ?_) (by rfl) (H3.out) ?_ ?_
        rotate_left
        · intro W hW
          go_simp
          with_reducible rfl
        simp only [Act.put, List.setIfInBounds_toArray, List.set_cons_zero, List.set_cons_succ]
        refine till_q (v := ?_) (by rfl) (H3.out) ?_ ?_
        rotate_left
        · intro W hW
          go_simp
          with_reducible rfl
        simp only [Act.put, List.setIfInBounds_toArray, List.set_cons_zero, List.set_cons_succ]
        refine till_q (v := ?_) (by rfl) (H3.out) ?_ ?_
        rotate_left
        · intro W hW
          go_simp
          with_reducible rfl
        simp only [Act.put, List.setIfInBounds_toArray, List.set_cons_zero, List.set_cons_succ]
        refine till_q (v := ?_) (by rfl) (H3.out) ?_ ?_
        rotate_left
        · intro W hW
          go_simp
          with_reducible rfl
        simp only [Act.put, List.setIfInBounds_toArray, List.set_cons_zero, List.set_cons_succ]
        refine till_q (v := ?_) (by rfl) (H3.out) ?_ ?_
        rotate_left
        · intro W hW
          go_simp
          with_reducible rfl
        simp only [Act.put, List.setIfInBounds_toArray, List.set_cons_zero, List.set_cons_succ]
        refine till_q (v := ?_) (by rfl) (H3.out) ?_ ?_
        rotate_left
        · intro W hW
          go_simp
          with_reducible rfl
        simp only [Act.put, List.setIfInBounds_toArray, List.set_cons_zero, List.set_cons_succ]
        refine till_q (by rfl) (H3.out) (fun W hW => run_iaddr_arr 58 (.tmp 5) (.tmp 74) rfl 64 51 Try.underlying58 J0.out J2.out (w.heap.size + 2) (t - 7) (by have := T64.out; omega) .i64 _ e7.out rfl rfl W) ?_
        simp only [Act.put, List.setIfInBounds_toArray, List.set_cons_zero, List.set_cons_succ]
        refine till_q (by rfl) (H3.out) (fun W hW => run_cell 51 (.tmp 75) rfl _ Try.underlying51 rfl rfl (C4.out W hW)) ?_
        simp only [Act.put, List.setIfInBounds_toArray, List.set_cons_zero, List.set_cons_succ]
        refine till_q (v := ?_) (by rfl) (H3.out) ?_ ?_
        rotate_left
        · intro W hW
          go_simp
          with_reducible rfl
        simp only [Act.put, List.setIfInBounds_toArray, List.set_cons_zero, List.set_cons_succ]
        refine till_q (v := ?_) (by rfl) (H3.out) ?_ ?_
        rotate_left
        · intro W hW
          go_simp
          with_reducible rfl
        simp only [Act.put, List.setIfInBounds_toArray, List.set_cons_zero, List.set_cons_succ]
        refine till_q (v := ?_) (by rfl) (H3.out) ?_ ?_
        rotate_left
        · intro W hW
          go_simp
          with_reducible rfl
        simp only [Act.put, List.setIfInBounds_toArray, List.set_cons_zero, List.set_cons_succ]
        refine till_q (v := ?_) (by rfl) (H3.out) ?_ ?_
        rotate_left
        · intro W hW
          go_simp
          with_reducible rfl
        simp only [Act.put, List.setIfInBounds_toArray, List.set_cons_zero, List.set_cons_succ]
        refine till_q (v := ?_) (by rfl) (H3.out) ?_ ?_
        rotate_left
        · intro W hW
          go_simp
          with_reducible rfl
        simp only [Act.put, List.setIfInBounds_toArray, List.set_cons_zero, List.set_cons_succ]
        refine till_q (v := ?_) (by rfl) (H3.out) ?_ ?_
        rotate_left
        · intro W hW
          go_simp
          with_reducible rfl
        simp only [Act.put, List.setIfInBounds_toArray, List.set_cons_zero, List.set_cons_succ]
        refine till_q (by rfl) (H3.out) (fun W hW => run_iaddr_arr 58 (.tmp 5) (.tmp 88) rfl 64 51 Try.underlying58 J0.out J2.out (w.heap.size + 2) (t - 16) (by have := T64.out; omega) .i64 _ e16.out rfl rfl W) ?_
        simp only [Act.put, List.setIfInBounds_toArray, List.set_cons_zero, List.set_cons_succ]
        refine till_q (by rfl) (H3.out) (fun W hW => run_cell 51 (.tmp 89) rfl _ Try.underlying51 rfl rfl (C3.out W hW)) ?_
        simp only [Act.put, List.setIfInBounds_toArray, List.set_cons_zero, List.set_cons_succ]
        refine till_t (by rfl) (fun K hK => ?_)
        go_simp
        refine (rright_any xb 17 _ (by omega) (by omega)).mono ?_
        rintro e w' ⟨rfl, rfl⟩
        refine hK.out _ _ (H3.out) ?_
        clear hK K
        refine till_t (by rfl) (fun K hK => ?_)
        go_simp
        refine (rright_any xb 19 _ (by omega) (by omega)).mono ?_
        rintro e w' ⟨rfl, rfl⟩
        refine hK.out _ _ (H3.out) ?_
        clear hK K
        obtain ⟨hi, hhi, e2⟩ := high_ex xb
        refine till_q (v := ?_) (by rfl) (H3.out) ?_ ?_
        rotate_left
        · intro W hW
          go_simp
          with_reducible rfl
        simp only [Act.put, List.setIfInBounds_toArray, List.set_cons_zero, List.set_cons_succ]
        refine till_q (v := ?_) (by rfl) (H3.out) ?_ ?_
        rotate_left
        · intro W hW
          go_simp
          with_reducible rfl
        simp only [Act.put, List.setIfInBounds_toArray, List.set_cons_zero, List.set_cons_succ]
        refine till_q (v := ?_) (by rfl) (H3.out) ?_ ?_
        rotate_left
        · intro W hW
          go_simp
          with_reducible rfl
        simp only [Act.put, List.setIfInBounds_toArray, List.set_cons_zero, List.set_cons_succ]
        clear e2
        refine till_t (by rfl) (fun K hK => ?_)
        go_simp
        refine (rright_any xa 7 _ (by omega) (by omega)).mono ?_
        rintro e w' ⟨rfl, rfl⟩
        refine hK.out _ _ (H3.out) ?_
        clear hK K
        refine till_t (by rfl) (fun K hK => ?_)
        go_simp
        refine (rright_any xa 18 _ (by omega) (by omega)).mono ?_
        rintro e w' ⟨rfl, rfl⟩
        refine hK.out _ _ (H3.out) ?_
        clear hK K
        obtain ⟨lo, hlo, e3⟩ := low_ex xa
        refine till_q (v := ?_) (by rfl) (H3.out) ?_ ?_
        rotate_left
        · intro W hW
          go_simp
          with_reducible rfl
        simp only [Act.put, List.setIfInBounds_toArray, List.set_cons_zero, List.set_cons_succ]
        refine till_q (v := ?_) (by rfl) (H3.out) ?_ ?_
        rotate_left
        · intro W hW
          go_simp
          with_reducible rfl
        simp only [Act.put, List.setIfInBounds_toArray, List.set_cons_zero, List.set_cons_succ]
        clear e3
        have tb : (t : Int) < 64 := by have := T64.out; omega
        refine till_q (v := ?_) (by rfl) (H3.out) ?_ ?_
        rotate_left
        · intro W hW
          go_simp
          with_reducible rfl
        simp only [Act.put, List.setIfInBounds_toArray, List.set_cons_zero, List.set_cons_succ]
        refine till_q (v := ?_) (by rfl) (H3.out) ?_ ?_
        rotate_left
        · intro W hW
          go_simp
          with_reducible rfl
        simp only [Act.put, List.setIfInBounds_toArray, List.set_cons_zero, List.set_cons_succ]
        refine till_q (v := ?_) (by rfl) (H3.out) ?_ ?_
        rotate_left
        · intro W hW
          go_simp
          with_reducible rfl
        simp only [Act.put, List.setIfInBounds_toArray, List.set_cons_zero, List.set_cons_succ]
        have f4 := row_free H3.out.bw t
        have a4 := row_cell H3.out.bw t (W32_get _ t (by rw [schedK_length]; omega))
        refine till_last (fun K hK => ?_)
        go_simp
        rw [next_valW, show xc + lo + xd + hi = nextL (schedK b t) t by rw [NX.out, hlo.out, hhi.out]]
        have H4 := Lib.hid ((H2.out.set t (nextL (schedK b t) t)).keep (Below.refl _ _).drew)
        obtain ⟨w4, hw4⟩ : ∃ w4, w4 = (wr.setCell ⟨w.heap.size + 2, t, none⟩ (.int .u32 ((nextL (schedK b t) t).toNat : Int))).drew := ⟨_, rfl⟩
        change K _ (wr.setCell ⟨w.heap.size + 2, t, none⟩ (.int .u32 ((nextL (schedK b t) t).toNat : Int))).drew
        rw [← hw4]
        have H5 : Hid (RbW w s ((schedK b t).set t (nextL (schedK b t) t)) w4) := by rw [hw4]; exact H4
        clear hw4 f4 a4 H4
        refine hK.out _ _ ?_
        clear hK K
        go_wp2_with fail
        go_roundw
        case rel => exact ⟨t + 1, by have := T64.out; omega, by go_num, by rw [schedK, if_neg (by have := T16.out; omega)]; exact H5.out⟩
        case measure => have := T64.out; simp [intOf]; omega
    · have ht64 : Hid (t = 64) := show t = 64 by omega
      have hD : decide ((t : Int) < 64) = false := by simp; omega
      have H3 : Hid (RbW w s (schedK b 64) wr) := by have := H2.out; rw [ht64.out] at this; exact this
      clear H2 ht hlt
      obtain ⟨sw, hsw⟩ : ∃ sw, sw = schedK b 64 := ⟨_, rfl⟩
      rw [← hsw] at H3
      have SW := Lib.hid hsw
      have LW := Lib.hid (show sw.length = 64 by rw [hsw]; exact schedK_length _ _)
      clear hsw
      go_wp2_with fail
      refine (rk_any _).mono ?_
      rintro e w2 ⟨C, rfl, hC, hcc, hb2⟩
      have H4 := Lib.hid (H3.out.keep hb2)
      have CC := Lib.hid hcc
      have CG := Lib.hid (show w.heap.size + 2 < C by have := row_lt H3.out.bw; omega)
      have ZS := Lib.hid (show (Try.prog.info? 52).map (·.size) = some (W32 s).size by rw [W32_size, HS.out]; kernel_rfl)
      clear hC hcc hb2 H3
      go_upto_region 11 with fail
      go_wp2_with (first
        | (refine wpList_load_row rfl 52 (.tmp 2) rfl w.heap.size rfl 52 (W32 s) (0, 0) _ H4.out.bh Try.underlying52 rfl ZS.out ?_)
        | (refine wpList_store_new rfl rfl 52 (.tmp 10) (.tmp 94) rfl (W32 s) rfl rfl ZS.out (by rw [W32_size, HS.out]; rfl) (W32_one _) ?_))
      obtain ⟨V, hV⟩ : ∃ V, V = w2.heap.size := ⟨_, rfl⟩
      obtain ⟨w3, hw3⟩ : ∃ w3, w3 = w2.alloc (.cells (W32 s) 52) := ⟨_, rfl⟩
      have T5 := Lib.hid (show RvW w s sw s C V w3 by
        rw [hw3]
        exact ⟨ha_old _ _ _ (row_lt H4.out.bh) H4.out.bh, ha_old _ _ _ (row_lt H4.out.br) H4.out.br, ha_old _ _ _ (row_lt H4.out.bw) H4.out.bw, ha_old _ _ _ (row_lt CC.out) CC.out, ha_new _ _ _ hV, CG.out, by rw [hV]; exact row_lt CC.out, H4.out.bel.alloc H4.out.bel.size _⟩)
      rw [← hw3, ← hV]
      clear hw3 hV H4 CC CG ZS w2
      go_loopw [11, 12, 13, 14, 15, 16, 17] (fun i _ _ _ _ _ _ wr => ∃ t : Nat, t ≤ 64 ∧ i = .int .i64 (t : Int) ∧ RvW w s sw (roundsL constL sw s t) C V wr) (fun i _ _ _ _ _ _ _ => 64 - (intOf i).toNat)
      case atStart => exact ⟨0, by omega, rfl, T5.out⟩
      case round =>
        obtain ⟨r, hr, rfl, h6⟩ := hrel
        have T6 := Lib.hid h6
        clear h6 T5 w3 hD
        obtain ⟨v, hv⟩ : ∃ v, v = roundsL constL sw s r := ⟨_, rfl⟩
        rw [← hv] at T6
        have VE := Lib.hid hv
        have VL := Lib.hid (show v.length = 8 by rw [hv]; exact roundsL_length _ _ _ HS.out _)
        clear hv
        by_cases hlt : r < 64
        · have hD : decide ((r : Int) < 64) = true := by simp; omega
          have R64 := Lib.hid hlt
          obtain ⟨v0, d0⟩ : ∃ x, x = v.getD 0 0 := ⟨_, rfl⟩
          obtain ⟨v1, d1⟩ : ∃ x, x = v.getD 1 0 := ⟨_, rfl⟩
          obtain ⟨v2, d2⟩ : ∃ x, x = v.getD 2 0 := ⟨_, rfl⟩
          obtain ⟨v3, d3⟩ : ∃ x, x = v.getD 3 0 := ⟨_, rfl⟩
          obtain ⟨v4, d4⟩ : ∃ x, x = v.getD 4 0 := ⟨_, rfl⟩
          obtain ⟨v5, d5⟩ : ∃ x, x = v.getD 5 0 := ⟨_, rfl⟩
          obtain ⟨v6, d6⟩ : ∃ x, x = v.getD 6 0 := ⟨_, rfl⟩
          obtain ⟨v7, d7⟩ : ∃ x, x = v.getD 7 0 := ⟨_, rfl⟩
          have D0 := Lib.hid d0
          have D1 := Lib.hid d1
          have D2 := Lib.hid d2
          have D3 := Lib.hid d3
          have D4 := Lib.hid d4
          have D5 := Lib.hid d5
          have D6 := Lib.hid d6
          have D7 := Lib.hid d7
          obtain ⟨kt, hkt⟩ : ∃ x, x = constL.getD r 0 := ⟨_, rfl⟩
          obtain ⟨wt, hwt⟩ : ∃ x, x = sw.getD r 0 := ⟨_, rfl⟩
          have KT := Lib.hid hkt
          have WT := Lib.hid hwt
          have CL := Lib.hid (fun (W : World) (hW : RvW w s sw v C V W) (i : Nat) (hi : i < 8) => row_cell hW.bv i (W32_get v i (by rw [VL.out]; exact hi)))
          have a0 := CL.out wr T6.out 0 (by omega)
          have a1 := CL.out wr T6.out 1 (by omega)
          have a2 := CL.out wr T6.out 2 (by omega)
          have a4 := CL.out wr T6.out 4 (by omega)
          have a5 := CL.out wr T6.out 5 (by omega)
          have a6 := CL.out wr T6.out 6 (by omega)
          rw [← d0] at a0
          rw [← d1] at a1
          rw [← d2] at a2
          rw [← d4] at a4
          rw [← d5] at a5
          rw [← d6] at a6
          clear d0 d1 d2 d3 d4 d5 d6 d7 hkt hwt hr
          obtain ⟨ch, hch, e1⟩ := chR_ex v4 v5 v6
          obtain ⟨mj, hmj, e2⟩ := mjR_ex v0 v1 v2
          go_upto_region 19 with fail
          clear a0 a1 a2 a4 a5 a6 e1 e2 hD hlt
          have T7 := Lib.hid (T6.out.keep (Below.refl _ _).drew)
          have rb : (r : Int) < 64 := by have := R64.out; omega
          have C7 := Lib.hid (fun (W : World) (hW : RvW w s sw v C V W) => (show W.cell? ⟨V, 7, none⟩ = some (.int .u32 (v7.toNat : Int)) by have := CL.out W hW 7 (by omega); rwa [← D7.out] at this))
          have CK := Lib.hid (fun (W : World) (hW : RvW w s sw v C V W) => (show W.cell? ⟨C, 0 + r, none⟩ = some (.int .u32 (kt.toNat : Int)) by have := row_cell hW.bc r (W32_get _ r (by rw [constL_length]; omega)); rw [← KT.out] at this; rw [Nat.zero_add]; exact this))
          have CW := Lib.hid (fun (W : World) (hW : RvW w s sw v C V W) => (show W.cell? ⟨w.heap.size + 2, r, none⟩ = some (.int .u32 (wt.toNat : Int)) by have := row_cell hW.bw r (W32_get _ r (by rw [LW.out]; omega)); rwa [← WT.out] at this))
          obtain ⟨z0, hz0, e0⟩ := xor3_ex (rotr v4 6) (rotr v4 11) (rotr v4 25)
          obtain ⟨z1, hz1, e1⟩ := sumW_ex v7 z0
          obtain ⟨z2, hz2, e2⟩ := sumW_ex z1 ch
          obtain ⟨z3, hz3, e3⟩ := sumW_ex z2 kt
          obtain ⟨x, hx, e4⟩ := sumW_ex z3 wt
          refine wp_region_road (RvW w s sw v C V) [(true, 0), (true, 1), (true, 2), (true, 4), (true, 7), (true, 11), (true, 13), (true, 14), (true, 15), (true, 16), (true, 18), (true, 19), (true, 20), (false, 3), (false, 5), (true, 6), (false, 8), (true, 9), (true, 10), (true, 12), (true, 17), (true, 21), (true, 22)] (by kernel_rfl) (by kernel_rfl) (fun _ _ d _ _ h => by cases d <;> exact h) ?_
          simp only [List.filterMap_cons, List.filterMap_nil, List.getElem?_toArray, List.getElem?_cons_zero, List.getElem?_cons_succ, Option.map_some]
          refine planG_q (by rfl) (T7.out) (fun W hW => run_iaddr_arr 52 (.tmp 10) (.const (.int .i64 7)) rfl 8 51 Try.underlying52 J0.out J2.out V 7 (by omega) .i64 _ rfl rfl rfl W) ?_
          simp only [Act.put, List.setIfInBounds_toArray, List.set_cons_zero, List.set_cons_succ]
          refine planG_q (by rfl) (T7.out) (fun W hW => run_cell 51 (.tmp 128) rfl _ Try.underlying51 rfl rfl (C7.out W hW)) ?_
          simp only [Act.put, List.setIfInBounds_toArray, List.set_cons_zero, List.set_cons_succ]
          refine planG_q (v := ?_) (by rfl) (T7.out) ?_ ?_
          rotate_left
          · intro W hW
            go_simp
            with_reducible rfl
          simp only [Act.put, List.setIfInBounds_toArray, List.set_cons_zero, List.set_cons_succ]
          refine planG_q (v := ?_) (by rfl) (T7.out) ?_ ?_
          rotate_left
          · intro W hW
            go_simp
            with_reducible rfl
          simp only [Act.put, List.setIfInBounds_toArray, List.set_cons_zero, List.set_cons_succ]
          refine planG_q (v := ?_) (by rfl) (T7.out) ?_ ?_
          rotate_left
          · intro W hW
            go_simp
            with_reducible rfl
          simp only [Act.put, List.setIfInBounds_toArray, List.set_cons_zero, List.set_cons_succ]
          refine planG_q (v := ?_) (by rfl) (T7.out) ?_ ?_
          rotate_left
          · intro W hW
            go_simp
            with_reducible rfl
          simp only [Act.put, List.setIfInBounds_toArray, List.set_cons_zero, List.set_cons_succ]
          refine planG_q (v := ?_) (by rfl) (T7.out) ?_ ?_
          rotate_left
          · intro W hW
            go_simp
            with_reducible rfl
          simp only [Act.put, List.setIfInBounds_toArray, List.set_cons_zero, List.set_cons_succ]
          refine planG_q (v := ?_) (by rfl) (T7.out) ?_ ?_
          rotate_left
          · intro W hW
            go_simp
            with_reducible rfl
          simp only [Act.put, List.setIfInBounds_toArray, List.set_cons_zero, List.set_cons_succ]
          refine planG_q (by rfl) (T7.out) (fun W hW => run_iaddr_sl 60 (.tmp 141) (.tmp 142) rfl 51 Try.underlying60 J0.out J2.out C 0 64 64 r R64.out .i64 _ rfl rfl rfl W) ?_
          simp only [Act.put, List.setIfInBounds_toArray, List.set_cons_zero, List.set_cons_succ]
          refine planG_q (by rfl) (T7.out) (fun W hW => run_cell 51 (.tmp 143) rfl _ Try.underlying51 rfl rfl (CK.out W hW)) ?_
          simp only [Act.put, List.setIfInBounds_toArray, List.set_cons_zero, List.set_cons_succ]
          refine planG_q (v := ?_) (by rfl) (T7.out) ?_ ?_
          rotate_left
          · intro W hW
            go_simp
            with_reducible rfl
          simp only [Act.put, List.setIfInBounds_toArray, List.set_cons_zero, List.set_cons_succ]
          refine planG_q (by rfl) (T7.out) (fun W hW => run_iaddr_arr 58 (.tmp 5) (.tmp 146) rfl 64 51 Try.underlying58 J0.out J2.out (w.heap.size + 2) r R64.out .i64 _ rfl rfl rfl W) ?_
          simp only [Act.put, List.setIfInBounds_toArray, List.set_cons_zero, List.set_cons_succ]
          refine planG_q (by rfl) (T7.out) (fun W hW => run_cell 51 (.tmp 147) rfl _ Try.underlying51 rfl rfl (CW.out W hW)) ?_
          simp only [Act.put, List.setIfInBounds_toArray, List.set_cons_zero, List.set_cons_succ]
          refine planG_t (by rfl) (fun K hK => ?_)
          go_simp
          refine (rright_any v4 6 _ (by omega) (by omega)).mono ?_
          rintro e w' ⟨rfl, rfl⟩
          refine hK.out _ _ (T7.out) ?_
          clear hK K
          refine planG_t (by rfl) (fun K hK => ?_)
          go_simp
          refine (rright_any v4 11 _ (by omega) (by omega)).mono ?_
          rintro e w' ⟨rfl, rfl⟩
          refine hK.out _ _ (T7.out) ?_
          clear hK K
          refine planG_q (v := ?_) (by rfl) (T7.out) ?_ ?_
          rotate_left
          · intro W hW
            go_simp
            with_reducible rfl
          simp only [Act.put, List.setIfInBounds_toArray, List.set_cons_zero, List.set_cons_succ]
          refine planG_t (by rfl) (fun K hK => ?_)
          go_simp
          refine (rright_any v4 25 _ (by omega) (by omega)).mono ?_
          rintro e w' ⟨rfl, rfl⟩
          refine hK.out _ _ (T7.out) ?_
          clear hK K
          refine planG_q (v := ?_) (by rfl) (T7.out) ?_ ?_
          rotate_left
          · intro W hW
            go_simp
            with_reducible rfl
          simp only [Act.put, List.setIfInBounds_toArray, List.set_cons_zero, List.set_cons_succ]
          refine planG_q (v := ?_) (by rfl) (T7.out) ?_ ?_
          rotate_left
          · intro W hW
            go_simp
            with_reducible rfl
          simp only [Act.put, List.setIfInBounds_toArray, List.set_cons_zero, List.set_cons_succ]
          refine planG_q (v := ?_) (by rfl) (T7.out) ?_ ?_
          rotate_left
          · intro W hW
            go_simp
            with_reducible rfl
          simp only [Act.put, List.setIfInBounds_toArray, List.set_cons_zero, List.set_cons_succ]
          refine planG_q (v := ?_) (by rfl) (T7.out) ?_ ?_
          rotate_left
          · intro W hW
            go_simp
            with_reducible rfl
          simp only [Act.put, List.setIfInBounds_toArray, List.set_cons_zero, List.set_cons_succ]
          refine planG_q (v := ?_) (by rfl) (T7.out) ?_ ?_
          rotate_left
          · intro W hW
            go_simp
            with_reducible rfl
          simp only [Act.put, List.setIfInBounds_toArray, List.set_cons_zero, List.set_cons_succ]
          refine planG_q (v := ?_) (by rfl) (T7.out) ?_ ?_
          rotate_left
          · intro W hW
            go_simp
            with_reducible rfl
          simp only [Act.put, List.setIfInBounds_toArray, List.set_cons_zero, List.set_cons_succ]
          refine planG_nil ?_
          clear e0 e1 e2 e3 e4
          obtain ⟨w7, hw7⟩ : ∃ w7, w7 = wr.drew := ⟨_, rfl⟩
          rw [← hw7] at T7 ⊢
          clear hw7 T6 wr
          obtain ⟨y0, hy0, e0⟩ := xor3_ex (rotr v0 2) (rotr v0 13) (rotr v0 22)
          obtain ⟨y, hy, e1⟩ := sumM_ex y0 mj
          have E0 := Lib.hid e0
          have E1 := Lib.hid e1
          clear e0 e1
          go_wp2_with fail
          refine (rright_any v0 2 _ (by omega) (by omega)).mono ?_
          rintro e w' ⟨rfl, rfl⟩
          go_wp2_with fail
          refine (rright_any v0 13 _ (by omega) (by omega)).mono ?_
          rintro e w' ⟨rfl, rfl⟩
          go_wp2_with fail
          refine (rright_any v0 22 _ (by omega) (by omega)).mono ?_
          rintro e w' ⟨rfl, rfl⟩
          have e0 := E0.out
          have e1 := E1.out
          go_upto_region 21 with fail
          rw [E1.out]
          clear e0 e1 E0 E1
          have a0 := CL.out w' T7.out 0 (by omega)
          have a1 := CL.out w' T7.out 1 (by omega)
          have a2 := CL.out w' T7.out 2 (by omega)
          have a3 := CL.out w' T7.out 3 (by omega)
          have a4 := CL.out w' T7.out 4 (by omega)
          have a5 := CL.out w' T7.out 5 (by omega)
          have a6 := CL.out w' T7.out 6 (by omega)
          rw [← D0.out] at a0
          rw [← D1.out] at a1
          rw [← D2.out] at a2
          rw [← D3.out] at a3
          rw [← D4.out] at a4
          rw [← D5.out] at a5
          rw [← D6.out] at a6
          obtain ⟨n0, hn0, e0⟩ := sumM_ex x y
          obtain ⟨n4, hn4, e4⟩ := sumM_ex v3 x
          have ZS := Lib.hid (show (Try.prog.info? 52).map (·.size) = some (W32 [n0, v0, v1, v2, n4, v4, v5, v6]).size by kernel_rfl)
          go_wp2_with (refine wpList_store_whole rfl rfl 52 (.tmp 10) (.tmp 179) rfl V (W32 [n0, v0, v1, v2, n4, v4, v5, v6]) rfl rfl 52 (W32 v) T7.out.bv ZS.out (by rw [W32_size, W32_size, VL.out]; rfl) (W32_one _) ?_; intro w8 hz8 hg8 hs8)
          have T8 := Lib.hid (T7.out.setv hz8 hg8)
          clear hz8 hg8 hs8 T7 a0 a1 a2 a3 a4 a5 a6
          go_roundw
          case rel =>
            refine ⟨r + 1, by have := R64.out; omega, by go_num, ?_⟩
            have hxL : xL kt wt v = x := by
              unfold xL chL
              rw [← D4.out, ← D5.out, ← D6.out, ← D7.out, ← hch.out, ← hz0.out, ← hz1.out, ← hz2.out, ← hz3.out, ← hx.out]
            have hyL : yL v = y := by
              unfold yL mjL
              rw [← D0.out, ← D1.out, ← D2.out, ← hmj.out, ← hy0.out, ← hy.out]
            rw [roundsL, ← VE.out, ← KT.out, ← WT.out, roundL, hxL, hyL, ← D0.out, ← D1.out, ← D2.out, ← D3.out, ← D4.out, ← D5.out, ← D6.out, ← hn0.out, ← hn4.out]
            exact T8.out
          case measure => have := R64.out; simp [intOf]; omega
        · have hr64 : Hid (r = 64) := show r = 64 by omega
          have hD : decide ((r : Int) < 64) = false := by simp; omega
          clear hlt hr
          go_wp2_with fail
          go_loopw [18] (fun i wr => ∃ j : Nat, j ≤ 8 ∧ i = .int .i64 (j : Int) ∧ RvW w (sumK s v j) sw v C V wr) (fun i _ => 8 - (intOf i).toNat)
          case atStart => exact ⟨0, by omega, rfl, T6.out⟩
          case round =>
            clear hD
            obtain ⟨j, hj, rfl, h8⟩ := hrel
            have T8 := Lib.hid h8
            clear h8 T6
            obtain ⟨h, hh⟩ : ∃ h, h = sumK s v j := ⟨_, rfl⟩
            rw [← hh] at T8
            have HH := Lib.hid hh
            have HL := Lib.hid (show h.length = 8 by rw [hh, sumK_length]; exact HS.out)
            clear hh
            by_cases hlt : j < 8
            · have hD : decide ((j : Int) < 8) = true := by simp; omega
              have J8 := Lib.hid hlt
              obtain ⟨x, hx⟩ : ∃ x, x = h.getD j 0 := ⟨_, rfl⟩
              obtain ⟨y, hy⟩ : ∃ x, x = v.getD j 0 := ⟨_, rfl⟩
              have CX := Lib.hid (fun (W : World) (hW : RvW w h sw v C V W) => (show W.cell? ⟨w.heap.size, j, none⟩ = some (.int .u32 (x.toNat : Int)) by have := row_cell hW.bh j (W32_get _ j (by rw [HL.out]; exact hlt)); rwa [← hx] at this))
              have CY := Lib.hid (fun (W : World) (hW : RvW w h sw v C V W) => (show W.cell? ⟨V, j, none⟩ = some (.int .u32 (y.toNat : Int)) by have := row_cell hW.bv j (W32_get _ j (by rw [VL.out]; exact hlt)); rwa [← hy] at this))
              have SK := Lib.hid (show sumK s v (j + 1) = h.set j (x + y) by rw [sumK, ← HH.out, hx, hy])
              clear hx hy
              go_upto_region 25 with fail
              have jb : (j : Int) < 8 := by have := J8.out; omega
              have T9 := Lib.hid (T8.out.keep (Below.refl _ _).drew)
              clear hlt hD hj
              refine wp_region_till (RvW w h sw v C V) 9 [(true, 0), (true, 1), (true, 2), (true, 3), (true, 4), (true, 5), (true, 6), (true, 7), (true, 8)] _ (by kernel_rfl) (by kernel_rfl) rfl (fun _ _ d _ _ h => by cases d <;> exact h) ?_
              simp only [List.filterMap_cons, List.filterMap_nil, List.getElem?_toArray, List.getElem?_cons_zero, List.getElem?_cons_succ, Option.map_some]
              refine till_q (v := ?_) (by rfl) (T9.out) ?_ ?_
              rotate_left
              · intro W hW
                go_simp
                with_reducible rfl
              simp only [Act.put, List.setIfInBounds_toArray, List.set_cons_zero, List.set_cons_succ]
              refine till_q (v := ?_) (by rfl) (T9.out) ?_ ?_
              rotate_left
              · intro W hW
                go_simp
                with_reducible rfl
              simp only [Act.put, List.setIfInBounds_toArray, List.set_cons_zero, List.set_cons_succ]
              refine till_q (v := ?_) (by rfl) (T9.out) ?_ ?_
              rotate_left
              · intro W hW
                go_simp
                with_reducible rfl
              simp only [Act.put, List.setIfInBounds_toArray, List.set_cons_zero, List.set_cons_succ]
              refine till_q (by rfl) (T9.out) (fun W hW => run_cell 51 (.tmp 186) rfl _ Try.underlying51 rfl rfl (CX.out W hW)) ?_
              simp only [Act.put, List.setIfInBounds_toArray, List.set_cons_zero, List.set_cons_succ]
              refine till_q (v := ?_) (by rfl) (T9.out) ?_ ?_
              rotate_left
              · intro W hW
                go_simp
                with_reducible rfl
              simp only [Act.put, List.setIfInBounds_toArray, List.set_cons_zero, List.set_cons_succ]
              refine till_q (v := ?_) (by rfl) (T9.out) ?_ ?_
              rotate_left
              · intro W hW
                go_simp
                with_reducible rfl
              simp only [Act.put, List.setIfInBounds_toArray, List.set_cons_zero, List.set_cons_succ]
              refine till_q (by rfl) (T9.out) (fun W hW => run_cell 51 (.tmp 189) rfl _ Try.underlying51 rfl rfl (CY.out W hW)) ?_
              simp only [Act.put, List.setIfInBounds_toArray, List.set_cons_zero, List.set_cons_succ]
              obtain ⟨z, hz, e1⟩ := sumW_ex x y
              refine till_q (v := ?_) (by rfl) (T9.out) ?_ ?_
              rotate_left
              · intro W hW
                go_simp
                with_reducible rfl
              simp only [Act.put, List.setIfInBounds_toArray, List.set_cons_zero, List.set_cons_succ]
              refine till_q (v := ?_) (by rfl) (T9.out) ?_ ?_
              rotate_left
              · intro W hW
                go_simp
                with_reducible rfl
              simp only [Act.put, List.setIfInBounds_toArray, List.set_cons_zero, List.set_cons_succ]
              have f4 := row_free T9.out.bh j
              have a4 := CX.out _ T9.out
              refine till_last (fun K hK => ?_)
              go_simp
              have H4 := Lib.hid ((T8.out.seth j z).keep (Below.refl _ _).drew)
              clear e1 f4 a4 T9
              obtain ⟨w4, hw4⟩ : ∃ w4, w4 = (wr.setCell ⟨w.heap.size, j, none⟩ (.int .u32 (z.toNat : Int))).drew := ⟨_, rfl⟩
              rw [← hw4] at H4 ⊢
              clear hw4 T8
              refine hK.out _ _ ?_
              clear hK K
              go_wp2_with fail
              go_roundw
              case rel => exact ⟨j + 1, by have := J8.out; omega, by go_num, by rw [SK.out, ← hz.out]; exact H4.out⟩
              case measure => have := J8.out; simp [intOf]; omega
            · have hj8 : Hid (j = 8) := show j = 8 by omega
              have hD : decide ((j : Int) < 8) = false := by simp; omega
              have HT := Lib.hid (show h = takeL s b by rw [HH.out, VE.out, hr64.out, hj8.out, SW.out, takeL])
              have ZS := Lib.hid (show (Try.prog.info? 52).map (·.size) = some (W32 h).size by rw [W32_size, HL.out]; kernel_rfl)
              clear hlt hj
              go_wp2_with (first
                | (refine wpList_load_row rfl 52 (.tmp 2) rfl w.heap.size rfl 52 (W32 h) (0, 0) _ T8.out.bh Try.underlying52 rfl ZS.out ?_)
                | (refine wpList_store_whole rfl rfl 52 (.tmp 4) (.tmp 193) rfl (w.heap.size + 1) (W32 h) rfl rfl 52 (W32 zero8L) T8.out.br ZS.out (by rw [W32_size, W32_size, HL.out]; rfl) (W32_one _) ?_; intro w8 hz8 hg8 _))
              refine bodyPost_ret (results_cell_row rfl _ _ (w.heap.size + 1) 52 (W32 h) (0, 0) _ rfl hz8 Try.underlying52 rfl ZS.out) rfl ⟨?_, ?_⟩
              · rw [HT.out]
              · exact T8.out.bel.trans (grown_below hg8 T8.out.bel.size (by rintro g ⟨⟩; omega))
end Go.Proofs.Ytphpcegifdiofaa
