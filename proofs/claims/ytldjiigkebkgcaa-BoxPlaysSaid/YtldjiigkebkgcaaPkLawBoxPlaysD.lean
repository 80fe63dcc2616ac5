/- Part 4 of what the law LawBoxPlays needs. No condition but those each theorem states. -/
import Derived.Deep.CutBlock
import Derived.Laws.ResultCell
import Derived.Test.YtldjiigkebkgcaaPkLawBoxPlaysC
/- The document's turning to the right, its constants. And the words' laws. -/
namespace Go.Proofs.Ytldjiigkebkgcaa
set_option linter.unusedVariables false
set_option linter.unusedSimpArgs false
open Go.RowKit
attribute [local go_sem ↓] Go.wp_at_zero Go.wp_at_succ

theorem rotr_eq (x : UInt32) (n : Nat) (h : n ≤ 32) : rotr x n = x >>> (UInt32.ofNat n) ||| x <<< (UInt32.ofNat (32 - n)) := by
  unfold rotr rotl
  rw [show 32 - (32 - n) = n by omega, UInt32.or_comm]
theorem rr_val (x : UInt32) (n : Nat) (hn : n < 32) (h0 : 0 < n) : bits .or .u32 ((x.toNat : Int) / 2 ^ n) ((x.toNat : Int) * 2 ^ (32 - n) % 4294967296) = ((rotr x n).toNat : Int) := by
  have e1 : (x.toNat : Int) / 2 ^ n = ((x >>> (UInt32.ofNat n)).toNat : Int) := by
    have := shr_low x n hn
    rw [← this, Int.natCast_pow]; rfl
  have e2 : (x.toNat : Int) * 2 ^ (32 - n) % 4294967296 = ((x <<< (UInt32.ofNat (32 - n))).toNat : Int) := by
    have e3 : (UInt32.ofNat (32 - n)).toNat = 32 - n := by simp; omega
    rw [UInt32.toNat_shiftLeft, e3, Nat.shiftLeft_eq, Nat.mod_eq_of_lt (show 32 - n < 32 by omega), Int.natCast_emod, Int.natCast_mul, Int.natCast_pow]
    rfl
  rw [e1, e2, u32_or', rotr_eq x n (by omega)]
set_option maxRecDepth 100000 in
theorem rright_any (x : UInt32) (n : Nat) (w : World) (hn : n < 32) (h0 : 0 < n) :
    Calls Try.prog 87 #[.int .u32 (x.toNat : Int), .int .u64 (n : Int)] w fun e w' => e = .returned (.int .u32 ((rotr x n).toNat : Int)) ∧ w' = w := by
  have hlt : (n : Int) < 32 := by omega
  have E := Lib.hid (rotr_eq x n (by omega))
  go_enter Try.func87, Try.ntmps87
  go_wp2_with fail
  go_ret
  exact ⟨congrArg (fun z => Ending.returned (.int .u32 z)) (rr_val x n hn h0), rfl⟩
/-- A word of a block. -/
theorem rword_val (x0 x1 x2 x3 : UInt8) : ((((x0.toNat : Int) * 16777216 % 4294967296 + (x1.toNat : Int) * 65536 % 4294967296) % 4294967296 + (x2.toNat : Int) * 256 % 4294967296) % 4294967296 + (x3.toNat : Int)) % 4294967296 = ((((x0.toUInt32 <<< 8 ||| x1.toUInt32) <<< 8 ||| x2.toUInt32) <<< 8 ||| x3.toUInt32).toNat : Int) := by
  have h0 := x0.toNat_lt
  have h1 := x1.toNat_lt
  have h2 := x2.toNat_lt
  have h3 := x3.toNat_lt
  have e1 : (8 : UInt32).toNat % 32 = 8 := rfl
  have or8 : ∀ (a b : Nat), b < 256 → a * 256 ||| b = a * 256 + b := fun a b h => by
    rw [show a * 256 = a <<< 8 by rw [Nat.shiftLeft_eq]]
    exact (Nat.shiftLeft_add_eq_or_of_lt (by omega) a).symm
  simp only [UInt32.toNat_or, UInt32.toNat_shiftLeft, UInt8.toNat_toUInt32, Nat.shiftLeft_eq, e1, Nat.reducePow]
  rw [Nat.mod_eq_of_lt (show x0.toNat * 256 < 4294967296 by omega), or8 _ _ h1, Nat.mod_eq_of_lt (show (x0.toNat * 256 + x1.toNat) * 256 < 4294967296 by omega), or8 _ _ h2,
    Nat.mod_eq_of_lt (show ((x0.toNat * 256 + x1.toNat) * 256 + x2.toNat) * 256 < 4294967296 by omega), or8 _ _ h3]
  omega
theorem word4_eq (b : List UInt8) (t : Nat) : word4 b t 4 = (((b.getD (4 * t) 0).toUInt32 <<< 8 ||| (b.getD (4 * t + 1) 0).toUInt32) <<< 8 ||| (b.getD (4 * t + 2) 0).toUInt32) <<< 8 ||| (b.getD (4 * t + 3) 0).toUInt32 := by
  simp [word4]
theorem u32_bits {a b : UInt32} (h : ∀ i : Nat, i < 32 → a.toNat.testBit i = b.toNat.testBit i) : a = b := by
  apply UInt32.toNat_inj.1
  apply Nat.eq_of_testBit_eq
  intro i
  by_cases hi : i < 32
  · exact h i hi
  · have e : ∀ x : UInt32, x.toNat.testBit i = false := fun x => Nat.testBit_lt_two_pow (Nat.lt_of_lt_of_le x.toNat_lt (Nat.pow_le_pow_right (by omega) (by omega)))
    rw [e, e]
theorem ch_eq (e f g : UInt32) : (e &&& f) ^^^ ((e ^^^ 4294967295) &&& g) = g ^^^ (e &&& (f ^^^ g)) := by
  apply u32_bits
  intro i hi
  have h1 : Nat.testBit 4294967295 i = true := by
    rw [show (4294967295 : Nat) = 2 ^ 32 - 1 from rfl, Nat.testBit_two_pow_sub_one]; simpa using hi
  simp only [UInt32.toNat_xor, UInt32.toNat_and, Nat.testBit_xor, Nat.testBit_and, show (4294967295 : UInt32).toNat = 4294967295 from rfl, h1]
  cases e.toNat.testBit i <;> cases f.toNat.testBit i <;> cases g.toNat.testBit i <;> rfl
theorem mj_eq (a b c : UInt32) : ((a &&& b) ^^^ (a &&& c)) ^^^ (b &&& c) = (a &&& b) ||| (c &&& (a ||| b)) := by
  apply u32_bits
  intro i hi
  simp only [UInt32.toNat_xor, UInt32.toNat_and, UInt32.toNat_or, Nat.testBit_xor, Nat.testBit_and, Nat.testBit_or]
  cases a.toNat.testBit i <;> cases b.toNat.testBit i <;> cases c.toNat.testBit i <;> rfl
theorem next_eq (a b c d : UInt32) : ((a + b) + c) + d = ((d + c) + b) + a := by ac_rfl
end Go.Proofs.Ytldjiigkebkgcaa

/- The document's block, taken in. -/
namespace Go.Proofs.Ytldjiigkebkgcaa
set_option linter.unusedVariables false
set_option linter.unusedSimpArgs false
open Go.RowKit
attribute [local go_sem ↓] Go.wp_at_zero Go.wp_at_succ

set_option maxRecDepth 100000 in
set_option maxHeartbeats 1000000 in
theorem rk_any (w : World) : Calls Try.prog 88 #[] w fun e w' => ∃ g, e = .returned (.slice (some ⟨g, 0, none⟩) 64 64) ∧ w.heap.size ≤ g ∧ w'.heap[g]? = some (.cells (W32 constL) 81 (0, 0)) ∧ Below w.heap.size w w' := by
  have Z : Hid (W32 constL = #[] ++ W32 constL) := by show _ = _; simp
  go_enter Try.func88, Try.ntmps88
  go_wp2_with fail
  go_ret
  refine ⟨w.heap.size, rfl, Nat.le_refl _, ha_new _ _ _ rfl, (Below.refl _ _).alloc (Nat.le_refl _) _⟩
/-- The call's own, while the words are laid. -/
structure RbW (w : World) (s l : List UInt32) (W : World) : Prop where
  bh : W.heap[w.heap.size]? = some (.cells (W32 s) 127 (0, 0))
  br : W.heap[w.heap.size + 1]? = some (.cells (W32 zero8L) 127 (0, 0))
  bw : W.heap[w.heap.size + 2]? = some (.cells (W32 l) 145 (0, 0))
  bel : Below w.heap.size w W
theorem RbW.keep {w W W' : World} {s l : List UInt32} (h : RbW w s l W) (hb : Below W.heap.size W W') : RbW w s l W' where
  bh := below_block hb (row_lt h.bh) h.bh
  br := below_block hb (row_lt h.br) h.br
  bw := below_block hb (row_lt h.bw) h.bw
  bel := h.bel.trans (hb.mono h.bel.size)
theorem RbW.set {w W : World} {s l : List UInt32} (h : RbW w s l W) (i : Nat) (x : UInt32) : RbW w s (l.set i x) (W.setCell ⟨w.heap.size + 2, i, none⟩ (.int .u32 (x.toNat : Int))) where
  bh := grown_block (grown_set (World.grownBy.refl _ _) _ _) (by simp) h.bh
  br := grown_block (grown_set (World.grownBy.refl _ _) _ _) (by simp) h.br
  bw := by rw [heap_setCell_same _ _ _ _ _ _ h.bw, W32_set]
  bel := h.bel.trans (grown_below (grown_set (World.grownBy.refl W (some (w.heap.size + 2))) _ _) h.bel.size (by rintro g ⟨⟩; omega))
theorem rword_valW (x0 x1 x2 x3 : UInt8) : IntKind.u32.wrap (IntKind.u32.wrap (IntKind.u32.wrap (IntKind.u32.wrap (IntKind.u32.wrap (x0.toNat : Int) * 16777216) + IntKind.u32.wrap (IntKind.u32.wrap (x1.toNat : Int) * 65536)) + IntKind.u32.wrap (IntKind.u32.wrap (x2.toNat : Int) * 256)) + IntKind.u32.wrap (x3.toNat : Int)) = ((((x0.toUInt32 <<< 8 ||| x1.toUInt32) <<< 8 ||| x2.toUInt32) <<< 8 ||| x3.toUInt32).toNat : Int) := by
  have h0 := x0.toNat_lt
  have h1 := x1.toNat_lt
  have h2 := x2.toNat_lt
  have h3 := x3.toNat_lt
  rw [← rword_val]
  simp only [IntKind.wrap_u32]
  omega
theorem next_valW (a b c d : UInt32) : IntKind.u32.wrap (IntKind.u32.wrap (IntKind.u32.wrap ((a.toNat : Int) + (b.toNat : Int)) + (c.toNat : Int)) + (d.toNat : Int)) = ((d + c + b + a).toNat : Int) := by
  rw [← next_eq, IntKind.wrap_u32, IntKind.wrap_u32, IntKind.wrap_u32, u32_add, u32_add, u32_add]
/-- .. while the rounds go on: the words, the constants, what goes round. -/
structure RvW (w : World) (h l v : List UInt32) (C V : Nat) (W : World) : Prop where
  bh : W.heap[w.heap.size]? = some (.cells (W32 h) 127 (0, 0))
  br : W.heap[w.heap.size + 1]? = some (.cells (W32 zero8L) 127 (0, 0))
  bw : W.heap[w.heap.size + 2]? = some (.cells (W32 l) 145 (0, 0))
  bc : W.heap[C]? = some (.cells (W32 constL) 81 (0, 0))
  bv : W.heap[V]? = some (.cells (W32 v) 127 (0, 0))
  hC : w.heap.size + 2 < C
  hV : C < V
  bel : Below w.heap.size w W
theorem RvW.keep {w W W' : World} {h l v : List UInt32} {C V : Nat} (k : RvW w h l v C V W) (hb : Below W.heap.size W W') : RvW w h l v C V W' where
  bh := below_block hb (row_lt k.bh) k.bh
  br := below_block hb (row_lt k.br) k.br
  bw := below_block hb (row_lt k.bw) k.bw
  bc := below_block hb (row_lt k.bc) k.bc
  bv := below_block hb (row_lt k.bv) k.bv
  hC := k.hC
  hV := k.hV
  bel := k.bel.trans (hb.mono k.bel.size)
theorem RvW.setv {w W W' : World} {h l v v' : List UInt32} {C V : Nat} (k : RvW w h l v C V W) (hb : W'.heap[V]? = some (.cells (W32 v') 127 (0, 0))) (hg : W.grownBy W' (some V)) : RvW w h l v' C V W' where
  bh := grown_block hg (by have := k.hC; have := k.hV; simp; omega) k.bh
  br := grown_block hg (by have := k.hC; have := k.hV; simp; omega) k.br
  bw := grown_block hg (by have := k.hC; have := k.hV; simp; omega) k.bw
  bc := grown_block hg (by have := k.hV; simp; omega) k.bc
  bv := hb
  hC := k.hC
  hV := k.hV
  bel := k.bel.trans (grown_below hg k.bel.size (by rintro g ⟨⟩; have := k.hC; have := k.hV; omega))
theorem RvW.seth {w W : World} {h l v : List UInt32} {C V : Nat} (k : RvW w h l v C V W) (i : Nat) (x : UInt32) : RvW w (h.set i x) l v C V (W.setCell ⟨w.heap.size, i, none⟩ (.int .u32 (x.toNat : Int))) where
  bh := by rw [heap_setCell_same _ _ _ _ _ _ k.bh, W32_set]
  br := grown_block (grown_set (World.grownBy.refl _ _) _ _) (by simp) k.br
  bw := grown_block (grown_set (World.grownBy.refl _ _) _ _) (by simp) k.bw
  bc := grown_block (grown_set (World.grownBy.refl _ _) _ _) (by have := k.hC; simp; omega) k.bc
  bv := grown_block (grown_set (World.grownBy.refl _ _) _ _) (by have := k.hC; have := k.hV; simp; omega) k.bv
  hC := k.hC
  hV := k.hV
  bel := k.bel.trans (grown_below (grown_set (World.grownBy.refl W (some w.heap.size)) _ _) k.bel.size (by rintro g ⟨⟩; omega))
theorem chR_ex (e f g : UInt32) : ∃ z : UInt32, Hid (z = g ^^^ (e &&& (f ^^^ g))) ∧ bits .xor .u32 (bits .and .u32 (e.toNat : Int) (f.toNat : Int)) (bits .and .u32 (bits .xor .u32 (e.toNat : Int) 4294967295) (g.toNat : Int)) = (z.toNat : Int) := by
  refine ⟨_, rfl, ?_⟩
  have h := u32_xor' e 4294967295
  rw [show (((4294967295 : UInt32).toNat : Nat) : Int) = 4294967295 from rfl] at h
  rw [h, u32_and', u32_and', u32_xor', ch_eq]
theorem mjR_ex (a b c : UInt32) : ∃ z : UInt32, Hid (z = (a &&& b) ||| (c &&& (a ||| b))) ∧ bits .xor .u32 (bits .xor .u32 (bits .and .u32 (a.toNat : Int) (b.toNat : Int)) (bits .and .u32 (a.toNat : Int) (c.toNat : Int))) (bits .and .u32 (b.toNat : Int) (c.toNat : Int)) = (z.toNat : Int) := by
  refine ⟨_, rfl, ?_⟩
  rw [u32_and', u32_and', u32_and', u32_xor', u32_xor', mj_eq]
theorem sumM_ex (x y : UInt32) : ∃ z : UInt32, Hid (z = x + y) ∧ ((x.toNat : Int) + (y.toNat : Int)) % 4294967296 = (z.toNat : Int) := ⟨_, rfl, u32_add _ _⟩

set_option maxRecDepth 100000 in
set_option maxHeartbeats 4000000 in
theorem rblock_any (s : List UInt32) (b : List UInt8) (hs : s.length = 8) (hb : b.length = 64) (w : World) :
    Calls Try.prog 75 #[.agg (W32 s), .string (strB b)] w fun e w' => e = .returned (.agg (W32 (takeL s b))) ∧ Below w.heap.size w w' := by
  have HS := Lib.hid hs
  have HB := Lib.hid hb
  have Z8 := Lib.hid (show (Try.prog.info? 127).map (·.size) = some 8 by kernel_rfl)
  obtain ⟨S0, hS0⟩ : ∃ S0, S0 = W32 s := ⟨_, rfl⟩
  rw [← hS0]
  have S1 := Lib.hid (show S0.all (·.oneCell') = true by rw [hS0]; exact W32_one _)
  have S2 := Lib.hid (show S0.size = 8 by rw [hS0, W32_size, hs])
  have SE := Lib.hid hS0
  clear hs hb hS0
  obtain ⟨j0, hj0, hj1, hj2, _⟩ := info_parts (show (Try.prog.info? 81).map (fun i => (i.zero, i.size, i.bytes)) = some (some (.int .u32 0), 1, 4) by kernel_rfl)
  have J0 := Lib.hid hj0
  have J2 := Lib.hid hj2
  clear hj0 hj1 hj2
  go_enter Try.func75, Try.ntmps75
  go_wp2_with fail
  refine wp_abs (fun W => RbW w s (schedK b 0) W) ⟨?ba, ?bb, ?bc, ?bd⟩ ?_
  case ba => exact ha_old _ _ _ (by simp; omega) (ha_old _ _ _ (by simp) (ha_new _ _ _ rfl)) |>.trans (by rw [SE.out])
  case bb => exact ha_old _ _ _ (by simp) (ha_new _ _ _ (by simp))
  case bc => exact ha_new _ _ _ (by simp)
  case bd => exact (((Below.refl _ _).alloc (Nat.le_refl _) _).alloc (by simp) _).alloc (by simp; omega) _
  intro w1 h1
  have H1 := Lib.hid h1
  clear h1
  go_loopw [6, 7, 8] (fun i _ _ wr => ∃ t : Nat, t ≤ 64 ∧ i = .int .i64 (t : Int) ∧ RbW w s (schedK b t) wr) (fun i _ _ _ => 64 - (intOf i).toNat)
  case atStart => exact ⟨0, by omega, rfl, H1.out⟩
  case round =>
    obtain ⟨t, ht, rfl, h2⟩ := hrel
    have H2 := Lib.hid h2
    clear h2 H1 w1
    by_cases hlt : t < 64
    · have hD : decide ((t : Int) < 64) = true := by simp; omega
      by_cases h16 : t < 16
      · have hE : decide ((t : Int) < 16) = true := by simp; omega
        have T16 := Lib.hid h16
        have e0 : Hid (IntKind.i64.wrap (4 * (t : Int)) = ((4 * t : Nat) : Int)) := by show _ = _; rw [IntKind.wrap_i64]; omega
        have e1 : Hid (IntKind.i64.wrap (IntKind.i64.wrap (4 * (t : Int)) + 1) = ((4 * t + 1 : Nat) : Int)) := by show _ = _; rw [e0.out, IntKind.wrap_i64]; omega
        have e2 : Hid (IntKind.i64.wrap (IntKind.i64.wrap (4 * (t : Int)) + 2) = ((4 * t + 2 : Nat) : Int)) := by show _ = _; rw [e0.out, IntKind.wrap_i64]; omega
        have e3 : Hid (IntKind.i64.wrap (IntKind.i64.wrap (4 * (t : Int)) + 3) = ((4 * t + 3 : Nat) : Int)) := by show _ = _; rw [e0.out, IntKind.wrap_i64]; omega
        obtain ⟨x0, h0⟩ : ∃ x, x = b.getD (4 * t) 0 := ⟨_, rfl⟩
        obtain ⟨x1, h1⟩ : ∃ x, x = b.getD (4 * t + 1) 0 := ⟨_, rfl⟩
        obtain ⟨x2, h2⟩ : ∃ x, x = b.getD (4 * t + 2) 0 := ⟨_, rfl⟩
        obtain ⟨x3, h3⟩ : ∃ x, x = b.getD (4 * t + 3) 0 := ⟨_, rfl⟩
        have X := Lib.hid (word4_eq b t)
        rw [← h0, ← h1, ← h2, ← h3] at X
        have D0 := Lib.hid h0
        have D1 := Lib.hid h1
        have D2 := Lib.hid h2
        have D3 := Lib.hid h3
        clear h0 h1 h2 h3 ht
        go_upto_region 6 with fail
        clear hlt hD h16 hE
        have H3 := Lib.hid (H2.out.keep (Below.refl _ _).drew)
        have tb : (t : Int) < 64 := by have := T16.out; omega
        refine wp_region_till (RbW w s (schedK b t)) 31 [(true, 0), (true, 1), (true, 2), (true, 3), (true, 4), (true, 5), (true, 6), (true, 7), (true, 8), (true, 9), (true, 10), (true, 11), (true, 12), (true, 13), (true, 14), (true, 15), (true, 16), (true, 17), (true, 18), (true, 19), (true, 20), (true, 21), (true, 22), (true, 23), (true, 24), (true, 25), (true, 26), (true, 27), (true, 28), (true, 29), (true, 30)] _ (by kernel_rfl) (by kernel_rfl) rfl (fun _ _ d _ _ h => by cases d <;> exact h) ?_
        simp only [List.filterMap_cons, List.filterMap_nil, List.getElem?_toArray, List.getElem?_cons_zero, List.getElem?_cons_succ, Option.map_some]
        refine till_q (v := ?_) (by rfl) (H3.out) ?_ ?_
        rotate_left
        · intro W hW
          go_simp
          with_reducible rfl
        simp only [Act.put, List.setIfInBounds_toArray, List.set_cons_zero, List.set_cons_succ]
        refine till_q (v := ?_) (by rfl) (H3.out) ?_ ?_
        rotate_left
        · intro W hW
          go_simp
          with_reducible rfl
        simp only [Act.put, List.setIfInBounds_toArray, List.set_cons_zero, List.set_cons_succ]
        refine till_q (v := ?_) (by rfl) (H3.out) ?_ ?_
        rotate_left
        · intro W hW
          go_simp
          with_reducible rfl
        simp only [Act.put, List.setIfInBounds_toArray, List.set_cons_zero, List.set_cons_succ]
        refine till_q (v := ?_) (by rfl) (H3.out) ?_ ?_
        rotate_left
        · intro W hW
          go_simp
          with_reducible rfl
        simp only [Act.put, List.setIfInBounds_toArray, List.set_cons_zero, List.set_cons_succ]
        refine till_q (by rfl) (H3.out) (fun W hW => run_idx_str 9 (.tmp 26) (.tmp 28) rfl Try.underlying9 b (4 * t) x0 D0.out (by have := HB.out; have := T16.out; omega) .i64 _ e0.out rfl rfl W) ?_
        simp only [Act.put, List.setIfInBounds_toArray, List.set_cons_zero, List.set_cons_succ]
        refine till_q (v := ?_) (by rfl) (H3.out) ?_ ?_
        rotate_left
        · intro W hW
          go_simp
          with_reducible rfl
        simp only [Act.put, List.setIfInBounds_toArray, List.set_cons_zero, List.set_cons_succ]
        refine till_q (v := ?_) (by rfl) (H3.out) ?_ ?_
        rotate_left
        · intro W hW
          go_simp
          with_reducible rfl
        simp only [Act.put, List.setIfInBounds_toArray, List.set_cons_zero, List.set_cons_succ]
        refine till_q (v := ?_) (by rfl) (H3.out) ?_ ?_
        rotate_left
        · intro W hW
          go_simp
          with_reducible rfl
        simp only [Act.put, List.setIfInBounds_toArray, List.set_cons_zero, List.set_cons_succ]
        refine till_q (v := ?_) (by rfl) (H3.out) ?_ ?_
        rotate_left
        · intro W hW
          go_simp
          with_reducible rfl
        simp only [Act.put, List.setIfInBounds_toArray, List.set_cons_zero, List.set_cons_succ]
        refine till_q (v := ?_) (by rfl) (H3.out) ?_ ?_
        rotate_left
        · intro W hW
          go_simp
          with_reducible rfl
        simp only [Act.put, List.setIfInBounds_toArray, List.set_cons_zero, List.set_cons_succ]
        refine till_q (v := ?_) (by rfl) (H3.out) ?_ ?_
        rotate_left
        · intro W hW
          go_simp
          with_reducible rfl
        simp only [Act.put, List.setIfInBounds_toArray, List.set_cons_zero, List.set_cons_succ]
        refine till_q (by rfl) (H3.out) (fun W hW => run_idx_str 9 (.tmp 32) (.tmp 35) rfl Try.underlying9 b (4 * t + 1) x1 D1.out (by have := HB.out; have := T16.out; omega) .i64 _ e1.out rfl rfl W) ?_
        simp only [Act.put, List.setIfInBounds_toArray, List.set_cons_zero, List.set_cons_succ]
        refine till_q (v := ?_) (by rfl) (H3.out) ?_ ?_
        rotate_left
        · intro W hW
          go_simp
          with_reducible rfl
        simp only [Act.put, List.setIfInBounds_toArray, List.set_cons_zero, List.set_cons_succ]
        refine till_q (v := ?_) (by rfl) (H3.out) ?_ ?_
        rotate_left
        · intro W hW
          go_simp
          with_reducible rfl
        simp only [Act.put, List.setIfInBounds_toArray, List.set_cons_zero, List.set_cons_succ]
        refine till_q (v := ?_) (by rfl) (H3.out) ?_ ?_
        rotate_left
        · intro W hW
          go_simp
          with_reducible rfl
        simp only [Act.put, List.setIfInBounds_toArray, List.set_cons_zero, List.set_cons_succ]
        refine till_q (v := ?_) (by rfl) (H3.out) ?_ ?_
        rotate_left
        · intro W hW
          go_simp
          with_reducible rfl
        simp only [Act.put, List.setIfInBounds_toArray, List.set_cons_zero, List.set_cons_succ]
        refine till_q (v := ?_) (by rfl) (H3.out) ?_ ?_
        rotate_left
        · intro W hW
          go_simp
          with_reducible rfl
        simp only [Act.put, List.setIfInBounds_toArray, List.set_cons_zero, List.set_cons_succ]
        refine till_q (v := ?_) (by rfl) (H3.out) ?_ ?_
        rotate_left
        · intro W hW
          go_simp
          with_reducible rfl
        simp only [Act.put, List.setIfInBounds_toArray, List.set_cons_zero, List.set_cons_succ]
        refine till_q (v := ?_) (by rfl) (H3.out) ?_ ?_
        rotate_left
        · intro W hW
          go_simp
          with_reducible rfl
        simp only [Act.put, List.setIfInBounds_toArray, List.set_cons_zero, List.set_cons_succ]
        refine till_q (by rfl) (H3.out) (fun W hW => run_idx_str 9 (.tmp 40) (.tmp 43) rfl Try.underlying9 b (4 * t + 2) x2 D2.out (by have := HB.out; have := T16.out; omega) .i64 _ e2.out rfl rfl W) ?_
        simp only [Act.put, List.setIfInBounds_toArray, List.set_cons_zero, List.set_cons_succ]
        refine till_q (v := ?_) (by rfl) (H3.out) ?_ ?_
        rotate_left
        · intro W hW
          go_simp
          with_reducible rfl
        simp only [Act.put, List.setIfInBounds_toArray, List.set_cons_zero, List.set_cons_succ]
        refine till_q (v := ?_) (by rfl) (H3.out) ?_ ?_
        rotate_left
        · intro W hW
          go_simp
          with_reducible rfl
        simp only [Act.put, List.setIfInBounds_toArray, List.set_cons_zero, List.set_cons_succ]
        refine till_q (v := ?_) (by rfl) (H3.out) ?_ ?_
        rotate_left
        · intro W hW
          go_simp
          with_reducible rfl
        simp only [Act.put, List.setIfInBounds_toArray, List.set_cons_zero, List.set_cons_succ]
        refine till_q (v := ?_) (by rfl) (H3.out) ?_ ?_
        rotate_left
        · intro W hW
          go_simp
          with_reducible rfl
        simp only [Act.put, List.setIfInBounds_toArray, List.set_cons_zero, List.set_cons_succ]
        refine till_q (v := ?_) (by rfl) (H3.out) ?_ ?_
        rotate_left
        · intro W hW
          go_simp
          with_reducible rfl
        simp only [Act.put, List.setIfInBounds_toArray, List.set_cons_zero, List.set_cons_succ]
        refine till_q (v := ?_) (by rfl) (H3.out) ?_ ?_
        rotate_left
        · intro W hW
          go_simp
          with_reducible rfl
        simp only [Act.put, List.setIfInBounds_toArray, List.set_cons_zero, List.set_cons_succ]
        refine till_q (v := ?_) (by rfl) (H3.out) ?_ ?_
        rotate_left
        · intro W hW
          go_simp
          with_reducible rfl
        simp only [Act.put, List.setIfInBounds_toArray, List.set_cons_zero, List.set_cons_succ]
        refine till_q (by rfl) (H3.out) (fun W hW => run_idx_str 9 (.tmp 48) (.tmp 51) rfl Try.underlying9 b (4 * t + 3) x3 D3.out (by have := HB.out; have := T16.out; omega) .i64 _ e3.out rfl rfl W) ?_
        simp only [Act.put, List.setIfInBounds_toArray, List.set_cons_zero, List.set_cons_succ]
        refine till_q (v := ?_) (by rfl) (H3.out) ?_ ?_
        rotate_left
        · intro W hW
          go_simp
          with_reducible rfl
        simp only [Act.put, List.setIfInBounds_toArray, List.set_cons_zero, List.set_cons_succ]
        refine till_q (v := ?_) (by rfl) (H3.out) ?_ ?_
        rotate_left
        · intro W hW
          go_simp
          with_reducible rfl
        simp only [Act.put, List.setIfInBounds_toArray, List.set_cons_zero, List.set_cons_succ]
        refine till_q (v := ?_) (by rfl) (H3.out) ?_ ?_
        rotate_left
        · intro W hW
          go_simp
          with_reducible rfl
        simp only [Act.put, List.setIfInBounds_toArray, List.set_cons_zero, List.set_cons_succ]
        have f4 := row_free H3.out.bw t
        have a4 := row_cell H3.out.bw t (W32_get _ t (by rw [schedK_length]; omega))
        refine till_last (fun K hK => ?_)
        go_simp
        rw [rword_valW, ← X.out]
        have H4 := Lib.hid ((H2.out.set t (word4 b t 4)).keep (Below.refl _ _).drew)
        obtain ⟨w4, hw4⟩ : ∃ w4, w4 = (wr.setCell ⟨w.heap.size + 2, t, none⟩ (.int .u32 ((word4 b t 4).toNat : Int))).drew := ⟨_, rfl⟩
        change K _ (wr.setCell ⟨w.heap.size + 2, t, none⟩ (.int .u32 ((word4 b t 4).toNat : Int))).drew
        rw [← hw4]
        have H5 : Hid (RbW w s ((schedK b t).set t (word4 b t 4)) w4) := by rw [hw4]; exact H4
        clear hw4 f4 a4 H4
        refine hK.out _ _ ?_
        clear hK K
        go_wp2_with fail
        go_roundw
        case rel => exact ⟨t + 1, by have := T16.out; omega, by go_num, by rw [schedK, if_pos T16.out]; exact H5.out⟩
        case measure => have := T16.out; simp [intOf]; omega
      · have hE : decide ((t : Int) < 16) = false := by simp; omega
        have T16 := Lib.hid (show 16 ≤ t by omega)
        have T64 := Lib.hid hlt
        obtain ⟨xa, hxa⟩ : ∃ x, x = (schedK b t).getD (t - 15) 0 := ⟨_, rfl⟩
        obtain ⟨xb, hxb⟩ : ∃ x, x = (schedK b t).getD (t - 2) 0 := ⟨_, rfl⟩
        obtain ⟨xc, hxc⟩ : ∃ x, x = (schedK b t).getD (t - 16) 0 := ⟨_, rfl⟩
        obtain ⟨xd, hxd⟩ : ∃ x, x = (schedK b t).getD (t - 7) 0 := ⟨_, rfl⟩
        have SL := Lib.hid (show (schedK b t).length = 64 from schedK_length b t)
        have a1 := row_cell H2.out.bw (t - 15) (W32_get _ (t - 15) (by rw [SL.out]; omega))
        have a2 := row_cell H2.out.bw (t - 2) (W32_get _ (t - 2) (by rw [SL.out]; omega))
        rw [← hxa] at a1
        rw [← hxb] at a2
        have C3 := Lib.hid (fun W (hW : RbW w s (schedK b t) W) => (show W.cell? ⟨w.heap.size + 2, t - 16, none⟩ = some (.int .u32 (xc.toNat : Int)) by
          have := row_cell hW.bw (t - 16) (W32_get _ (t - 16) (by rw [SL.out]; omega)); rwa [← hxc] at this))
        have C4 := Lib.hid (fun W (hW : RbW w s (schedK b t) W) => (show W.cell? ⟨w.heap.size + 2, t - 7, none⟩ = some (.int .u32 (xd.toNat : Int)) by
          have := row_cell hW.bw (t - 7) (W32_get _ (t - 7) (by rw [SL.out]; omega)); rwa [← hxd] at this))
        have NX := Lib.hid (show nextL (schedK b t) t = xc + lowL xa + xd + highL xb by rw [nextL, ← hxa, ← hxb, ← hxc, ← hxd])
        have e7 : Hid (IntKind.i64.wrap ((t : Int) - 7) = ((t - 7 : Nat) : Int)) := by show _ = _; rw [IntKind.wrap_i64]; omega
        have e16 : Hid (IntKind.i64.wrap ((t : Int) - 16) = ((t - 16 : Nat) : Int)) := by show _ = _; rw [IntKind.wrap_i64]; omega
        clear hxa hxb hxc hxd ht
        go_upto_region 9 with fail
        clear hlt hD h16 hE a1 a2
        have H3 := Lib.hid (H2.out.keep (Below.refl _ _).drew)
        refine wp_region_till (RbW w s (schedK b t)) 29 [(true, 0), (true, 1), (true, 3), (true, 6), (true, 7), (true, 9), (true, 10), (true, 11), (true, 12), (true, 14), (true, 16), (true, 19), (true, 20), (true, 23), (true, 24), (true, 25), (true, 26), (false, 2), (false, 4), (true, 5), (true, 8), (true, 13), (false, 15), (false, 17), (true, 18), (true, 21), (true, 22), (true, 27), (true, 28)] _ (by kernel_rfl) (by kernel_rfl) rfl (fun _ _ d _ _ h => by cases d <;> exact h) ?_
        simp only [List.filterMap_cons, List.filterMap_nil, List.getElem?_toArray, List.getElem?_cons_zero, List.getElem?_cons_succ, Option.map_some]
        refine till_q (v := ?_) (by rfl) (H3.out) ?_ ?_
        rotate_left
        · intro W hW
          go_simp
          with_reducible rfl
        simp only [Act.put, List.setIfInBounds_toArray, List.set_cons_zero, List.set_cons_succ]
        refine till_q (v := ?_) (by rfl) (H3.out) ?_ ?_
        rotate_left
        · intro W hW
          go_simp
          with_reducible rfl
        simp only [Act.put, List.setIfInBounds_toArray, List.set_cons_zero, List.set_cons_succ]
        refine till_q (v := ?_) (by rfl) (H3.out) ?_ ?_
        rotate_left
        · intro W hW
          go_simp
          with_reducible rfl
        simp only [Act.put, List.setIfInBounds_toArray, List.set_cons_zero, List.set_cons_succ]
        refine till_q (v := ?_) (by rfl) (H3.out) ?_ ?_
        rotate_left
        · intro W hW
          go_simp
          with_reducible rfl
        simp only [Act.put, List.setIfInBounds_toArray, List.set_cons_zero, List.set_cons_succ]
        refine till_q (v := ?_) (by rfl) (H3.out) ?_ ?_
        rotate_left
        · intro W hW
          go_simp
          with_reducible rfl
        simp only [Act.put, List.setIfInBounds_toArray, List.set_cons_zero, List.set_cons_succ]
        refine till_q (v := ?_) (by rfl) (H3.out) ?_ ?_
        rotate_left
        · intro W hW
          go_simp
          with_reducible rfl
        simp only [Act.put, List.setIfInBounds_toArray, List.set_cons_zero, List.set_cons_succ]
        refine till_q (v := ?_) (by rfl) (H3.out) ?_ ?_
        rotate_left
        · intro W hW
          go_simp
          with_reducible rfl
        simp only [Act.put, List.setIfInBounds_toArray, List.set_cons_zero, List.set_cons_succ]
        refine till_q (by rfl) (H3.out) (fun W hW => run_iaddr_arr 145 (.tmp 5) (.tmp 74) rfl 64 81 Try.underlying145 J0.out J2.out (w.heap.size + 2) (t - 7) (by have := T64.out; omega) .i64 _ e7.out rfl rfl W) ?_
        simp only [Act.put, List.setIfInBounds_toArray, List.set_cons_zero, List.set_cons_succ]
        refine till_q (by rfl) (H3.out) (fun W hW => run_cell 81 (.tmp 75) rfl _ Try.underlying81 rfl rfl (C4.out W hW)) ?_
        simp only [Act.put, List.setIfInBounds_toArray, List.set_cons_zero, List.set_cons_succ]
        refine till_q (v := ?_) (by rfl) (H3.out) ?_ ?_
        rotate_left
        · intro W hW
          go_simp
          with_reducible rfl
        simp only [Act.put, List.setIfInBounds_toArray, List.set_cons_zero, List.set_cons_succ]
        refine till_q (v := ?_) (by rfl) (H3.out) ?_ ?_
        rotate_left
        · intro W hW
          go_simp
          with_reducible rfl
        simp only [Act.put, List.setIfInBounds_toArray, List.set_cons_zero, List.set_cons_succ]
        refine till_q (v := ?_) (by rfl) (H3.out) ?_ ?_
        rotate_left
        · intro W hW
          go_simp
          with_reducible rfl
        simp only [Act.put, List.setIfInBounds_toArray, List.set_cons_zero, List.set_cons_succ]
        refine till_q (v := ?_) (by rfl) (H3.out) ?_ ?_
        rotate_left
        · intro W hW
          go_simp
          with_reducible rfl
        simp only [Act.put, List.setIfInBounds_toArray, List.set_cons_zero, List.set_cons_succ]
        refine till_q (v := ?_) (by rfl) (H3.out) ?_ ?_
        rotate_left
        · intro W hW
          go_simp
          with_reducible rfl
        simp only [Act.put, List.setIfInBounds_toArray, List.set_cons_zero, List.set_cons_succ]
        refine till_q (v := ?_) (by rfl) (H3.out) ?_ ?_
        rotate_left
        · intro W hW
          go_simp
          with_reducible rfl
        simp only [Act.put, List.setIfInBounds_toArray, List.set_cons_zero, List.set_cons_succ]
        refine till_q (by rfl) (H3.out) (fun W hW => run_iaddr_arr 145 (.tmp 5) (.tmp 88) rfl 64 81 Try.underlying145 J0.out J2.out (w.heap.size + 2) (t - 16) (by have := T64.out; omega) .i64 _ e16.out rfl rfl W) ?_
        simp only [Act.put, List.setIfInBounds_toArray, List.set_cons_zero, List.set_cons_succ]
        refine till_q (by rfl) (H3.out) (fun W hW => run_cell 81 (.tmp 89) rfl _ Try.underlying81 rfl rfl (C3.out W hW)) ?_
        simp only [Act.put, List.setIfInBounds_toArray, List.set_cons_zero, List.set_cons_succ]
        refine till_t (by rfl) (fun K hK => ?_)
        go_simp
        refine (rright_any xb 17 _ (by omega) (by omega)).mono ?_
        rintro e w' ⟨rfl, rfl⟩
        refine hK.out _ _ (H3.out) ?_
        clear hK K
        refine till_t (by rfl) (fun K hK => ?_)
        go_simp
        refine (rright_any xb 19 _ (by omega) (by omega)).mono ?_
        rintro e w' ⟨rfl, rfl⟩
        refine hK.out _ _ (H3.out) ?_
        clear hK K
        obtain ⟨hi, hhi, e2⟩ := high_ex xb
        refine till_q (v := ?_) (by rfl) (H3.out) ?_ ?_
        rotate_left
        · intro W hW
          go_simp
          with_reducible rfl
        simp only [Act.put, List.setIfInBounds_toArray, List.set_cons_zero, List.set_cons_succ]
        refine till_q (v := ?_) (by rfl) (H3.out) ?_ ?_
        rotate_left
        · intro W hW
          go_simp
          with_reducible rfl
        simp only [Act.put, List.setIfInBounds_toArray, List.set_cons_zero, List.set_cons_succ]
        refine till_q (v := ?_) (by rfl) (H3.out) ?_ ?_
        rotate_left
        · intro W hW
          go_simp
          with_reducible rfl
        simp only [Act.put, List.setIfInBounds_toArray, List.set_cons_zero, List.set_cons_succ]
        clear e2
        refine till_t (by rfl) (fun K hK => ?_)
        go_simp
        refine (rright_any xa 7 _ (by omega) (by omega)).mono ?_
        rintro e w' ⟨rfl, rfl⟩
        refine hK.out _ _ (H3.out) ?_
        clear hK K
        refine till_t (by rfl) (fun K hK => ?_)
        go_simp
        refine (rright_any xa 18 _ (by omega) (by omega)).mono ?_
        rintro e w' ⟨rfl, rfl⟩
        refine hK.out _ _ (H3.out) ?_
        clear hK K
        obtain ⟨lo, hlo, e3⟩ := low_ex xa
        refine till_q (v := ?_) (by rfl) (H3.out) ?_ ?_
        rotate_left
        · intro W hW
          go_simp
          with_reducible rfl
        simp only [Act.put, List.setIfInBounds_toArray, List.set_cons_zero, List.set_cons_succ]
        refine till_q (v := ?_) (by rfl) (H3.out) ?_ ?_
        rotate_left
        · intro W hW
          go_simp
          with_reducible rfl
        simp only [Act.put, List.setIfInBounds_toArray, List.set_cons_zero, List.set_cons_succ]
        clear e3
        have tb : (t : Int) < 64 := by have := T64.out; omega
        refine till_q (v := ?_) (by rfl) (H3.out) ?_ ?_
        rotate_left
        · intro W hW
          go_simp
          with_reducible rfl
        simp only [Act.put, List.setIfInBounds_toArray, List.set_cons_zero, List.set_cons_succ]
        refine till_q (v := ?_) (by rfl) (H3.out) ?_ ?_
        rotate_left
        · intro W hW
          go_simp
          with_reducible rfl
        simp only [Act.put, List.setIfInBounds_toArray, List.set_cons_zero, List.set_cons_succ]
        refine till_q (v := ?_) (by rfl) (H3.out) ?_ ?_
        rotate_left
        · intro W hW
          go_simp
          with_reducible rfl
        simp only [Act.put, List.setIfInBounds_toArray, List.set_cons_zero, List.set_cons_succ]
        have f4 := row_free H3.out.bw t
        have a4 := row_cell H3.out.bw t (W32_get _ t (by rw [schedK_length]; omega))
        refine till_last (fun K hK => ?_)
        go_simp
        rw [next_valW, show xc + lo + xd + hi = nextL (schedK b t) t by rw [NX.out, hlo.out, hhi.out]]
        have H4 := Lib.hid ((H2.out.set t (nextL (schedK b t) t)).keep (Below.refl _ _).drew)
        obtain ⟨w4, hw4⟩ : ∃ w4, w4 = (wr.setCell ⟨w.heap.size + 2, t, none⟩ (.int .u32 ((nextL (schedK b t) t).toNat : Int))).drew := ⟨_, rfl⟩
        change K _ (wr.setCell ⟨w.heap.size + 2, t, none⟩ (.int .u32 ((nextL (schedK b t) t).toNat : Int))).drew
        rw [← hw4]
        have H5 : Hid (RbW w s ((schedK b t).set t (nextL (schedK b t) t)) w4) := by rw [hw4]; exact H4
        clear hw4 f4 a4 H4
        refine hK.out _ _ ?_
        clear hK K
        go_wp2_with fail
        go_roundw
        case rel => exact ⟨t + 1, by have := T64.out; omega, by go_num, by rw [schedK, if_neg (by have := T16.out; omega)]; exact H5.out⟩
        case measure => have := T64.out; simp [intOf]; omega
    · have ht64 : Hid (t = 64) := show t = 64 by omega
      have hD : decide ((t : Int) < 64) = false := by simp; omega
      have H3 : Hid (RbW w s (schedK b 64) wr) := by have := H2.out; rw [ht64.out] at this; exact this
      clear H2 ht hlt
      obtain ⟨sw, hsw⟩ : ∃ sw, sw = schedK b 64 := ⟨_, rfl⟩
      rw [← hsw] at H3
      have SW := Lib.hid hsw
      have LW := Lib.hid (show sw.length = 64 by rw [hsw]; exact schedK_length _ _)
      clear hsw
      go_wp2_with fail
      refine (rk_any _).mono ?_
      rintro e w2 ⟨C, rfl, hC, hcc, hb2⟩
      have H4 := Lib.hid (H3.out.keep hb2)
      have CC := Lib.hid hcc
      have CG := Lib.hid (show w.heap.size + 2 < C by have := row_lt H3.out.bw; omega)
      have ZS := Lib.hid (show (Try.prog.info? 127).map (·.size) = some (W32 s).size by rw [W32_size, HS.out]; kernel_rfl)
      clear hC hcc hb2 H3
      go_upto_region 11 with fail
      go_wp2_with (first
        | (refine wpList_load_row rfl 127 (.tmp 2) rfl w.heap.size rfl 127 (W32 s) (0, 0) _ H4.out.bh Try.underlying127 rfl ZS.out ?_)
        | (refine wpList_store_new rfl rfl 127 (.tmp 10) (.tmp 94) rfl (W32 s) rfl rfl ZS.out (by rw [W32_size, HS.out]; rfl) (W32_one _) ?_))
      obtain ⟨V, hV⟩ : ∃ V, V = w2.heap.size := ⟨_, rfl⟩
      obtain ⟨w3, hw3⟩ : ∃ w3, w3 = w2.alloc (.cells (W32 s) 127) := ⟨_, rfl⟩
      have T5 := Lib.hid (show RvW w s sw s C V w3 by
        rw [hw3]
        exact ⟨ha_old _ _ _ (row_lt H4.out.bh) H4.out.bh, ha_old _ _ _ (row_lt H4.out.br) H4.out.br, ha_old _ _ _ (row_lt H4.out.bw) H4.out.bw, ha_old _ _ _ (row_lt CC.out) CC.out, ha_new _ _ _ hV, CG.out, by rw [hV]; exact row_lt CC.out, H4.out.bel.alloc H4.out.bel.size _⟩)
      rw [← hw3, ← hV]
      clear hw3 hV H4 CC CG ZS w2
      go_loopw [11, 12, 13, 14, 15, 16, 17] (fun i _ _ _ _ _ _ wr => ∃ t : Nat, t ≤ 64 ∧ i = .int .i64 (t : Int) ∧ RvW w s sw (roundsL constL sw s t) C V wr) (fun i _ _ _ _ _ _ _ => 64 - (intOf i).toNat)
      case atStart => exact ⟨0, by omega, rfl, T5.out⟩
      case round =>
        obtain ⟨r, hr, rfl, h6⟩ := hrel
        have T6 := Lib.hid h6
        clear h6 T5 w3 hD
        obtain ⟨v, hv⟩ : ∃ v, v = roundsL constL sw s r := ⟨_, rfl⟩
        rw [← hv] at T6
        have VE := Lib.hid hv
        have VL := Lib.hid (show v.length = 8 by rw [hv]; exact roundsL_length _ _ _ HS.out _)
        clear hv
        by_cases hlt : r < 64
        · have hD : decide ((r : Int) < 64) = true := by simp; omega
          have R64 := Lib.hid hlt
          obtain ⟨v0, d0⟩ : ∃ x, x = v.getD 0 0 := ⟨_, rfl⟩
          obtain ⟨v1, d1⟩ : ∃ x, x = v.getD 1 0 := ⟨_, rfl⟩
          obtain ⟨v2, d2⟩ : ∃ x, x = v.getD 2 0 := ⟨_, rfl⟩
          obtain ⟨v3, d3⟩ : ∃ x, x = v.getD 3 0 := ⟨_, rfl⟩
          obtain ⟨v4, d4⟩ : ∃ x, x = v.getD 4 0 := ⟨_, rfl⟩
          obtain ⟨v5, d5⟩ : ∃ x, x = v.getD 5 0 := ⟨_, rfl⟩
          obtain ⟨v6, d6⟩ : ∃ x, x = v.getD 6 0 := ⟨_, rfl⟩
          obtain ⟨v7, d7⟩ : ∃ x, x = v.getD 7 0 := ⟨_, rfl⟩
          have D0 := Lib.hid d0
          have D1 := Lib.hid d1
          have D2 := Lib.hid d2
          have D3 := Lib.hid d3
          have D4 := Lib.hid d4
          have D5 := Lib.hid d5
          have D6 := Lib.hid d6
          have D7 := Lib.hid d7
          obtain ⟨kt, hkt⟩ : ∃ x, x = constL.getD r 0 := ⟨_, rfl⟩
          obtain ⟨wt, hwt⟩ : ∃ x, x = sw.getD r 0 := ⟨_, rfl⟩
          have KT := Lib.hid hkt
          have WT := Lib.hid hwt
          have CL := Lib.hid (fun (W : World) (hW : RvW w s sw v C V W) (i : Nat) (hi : i < 8) => row_cell hW.bv i (W32_get v i (by rw [VL.out]; exact hi)))
          have a0 := CL.out wr T6.out 0 (by omega)
          have a1 := CL.out wr T6.out 1 (by omega)
          have a2 := CL.out wr T6.out 2 (by omega)
          have a4 := CL.out wr T6.out 4 (by omega)
          have a5 := CL.out wr T6.out 5 (by omega)
          have a6 := CL.out wr T6.out 6 (by omega)
          rw [← d0] at a0
          rw [← d1] at a1
          rw [← d2] at a2
          rw [← d4] at a4
          rw [← d5] at a5
          rw [← d6] at a6
          clear d0 d1 d2 d3 d4 d5 d6 d7 hkt hwt hr
          obtain ⟨ch, hch, e1⟩ := chR_ex v4 v5 v6
          obtain ⟨mj, hmj, e2⟩ := mjR_ex v0 v1 v2
          go_upto_region 19 with fail
          clear a0 a1 a2 a4 a5 a6 e1 e2 hD hlt
          have T7 := Lib.hid (T6.out.keep (Below.refl _ _).drew)
          have rb : (r : Int) < 64 := by have := R64.out; omega
          have C7 := Lib.hid (fun (W : World) (hW : RvW w s sw v C V W) => (show W.cell? ⟨V, 7, none⟩ = some (.int .u32 (v7.toNat : Int)) by have := CL.out W hW 7 (by omega); rwa [← D7.out] at this))
          have CK := Lib.hid (fun (W : World) (hW : RvW w s sw v C V W) => (show W.cell? ⟨C, 0 + r, none⟩ = some (.int .u32 (kt.toNat : Int)) by have := row_cell hW.bc r (W32_get _ r (by rw [constL_length]; omega)); rw [← KT.out] at this; rw [Nat.zero_add]; exact this))
          have CW := Lib.hid (fun (W : World) (hW : RvW w s sw v C V W) => (show W.cell? ⟨w.heap.size + 2, r, none⟩ = some (.int .u32 (wt.toNat : Int)) by have := row_cell hW.bw r (W32_get _ r (by rw [LW.out]; omega)); rwa [← WT.out] at this))
          obtain ⟨z0, hz0, e0⟩ := xor3_ex (rotr v4 6) (rotr v4 11) (rotr v4 25)
          obtain ⟨z1, hz1, e1⟩ := sumW_ex v7 z0
          obtain ⟨z2, hz2, e2⟩ := sumW_ex z1 ch
          obtain ⟨z3, hz3, e3⟩ := sumW_ex z2 kt
          obtain ⟨x, hx, e4⟩ := sumW_ex z3 wt
          refine wp_region_road (RvW w s sw v C V) [(true, 0), (true, 1), (true, 2), (true, 4), (true, 7), (true, 11), (true, 13), (true, 14), (true, 15), (true, 16), (true, 18), (true, 19), (true, 20), (false, 3), (false, 5), (true, 6), (false, 8), (true, 9), (true, 10), (true, 12), (true, 17), (true, 21), (true, 22)] (by kernel_rfl) (by kernel_rfl) (fun _ _ d _ _ h => by cases d <;> exact h) ?_
          simp only [List.filterMap_cons, List.filterMap_nil, List.getElem?_toArray, List.getElem?_cons_zero, List.getElem?_cons_succ, Option.map_some]
          refine planG_q (by rfl) (T7.out) (fun W hW => run_iaddr_arr 127 (.tmp 10) (.const (.int .i64 7)) rfl 8 81 Try.underlying127 J0.out J2.out V 7 (by omega) .i64 _ rfl rfl rfl W) ?_
          simp only [Act.put, List.setIfInBounds_toArray, List.set_cons_zero, List.set_cons_succ]
          refine planG_q (by rfl) (T7.out) (fun W hW => run_cell 81 (.tmp 128) rfl _ Try.underlying81 rfl rfl (C7.out W hW)) ?_
          simp only [Act.put, List.setIfInBounds_toArray, List.set_cons_zero, List.set_cons_succ]
          refine planG_q (v := ?_) (by rfl) (T7.out) ?_ ?_
          rotate_left
          · intro W hW
            go_simp
            with_reducible rfl
          simp only [Act.put, List.setIfInBounds_toArray, List.set_cons_zero, List.set_cons_succ]
          refine planG_q (v := ?_) (by rfl) (T7.out) ?_ ?_
          rotate_left
          · intro W hW
            go_simp
            with_reducible rfl
          simp only [Act.put, List.setIfInBounds_toArray, List.set_cons_zero, List.set_cons_succ]
          refine planG_q (v := ?_) (by rfl) (T7.out) ?_ ?_
          rotate_left
          · intro W hW
            go_simp
            with_reducible rfl
          simp only [Act.put, List.setIfInBounds_toArray, List.set_cons_zero, List.set_cons_succ]
          refine planG_q (v := ?_) (by rfl) (T7.out) ?_ ?_
          rotate_left
          · intro W hW
            go_simp
            with_reducible rfl
          simp only [Act.put, List.setIfInBounds_toArray, List.set_cons_zero, List.set_cons_succ]
          refine planG_q (v := ?_) (by rfl) (T7.out) ?_ ?_
          rotate_left
          · intro W hW
            go_simp
            with_reducible rfl
          simp only [Act.put, List.setIfInBounds_toArray, List.set_cons_zero, List.set_cons_succ]
          refine planG_q (v := ?_) (by rfl) (T7.out) ?_ ?_
          rotate_left
          · intro W hW
            go_simp
            with_reducible rfl
          simp only [Act.put, List.setIfInBounds_toArray, List.set_cons_zero, List.set_cons_succ]
          refine planG_q (by rfl) (T7.out) (fun W hW => run_iaddr_sl 147 (.tmp 141) (.tmp 142) rfl 81 Try.underlying147 J0.out J2.out C 0 64 64 r R64.out .i64 _ rfl rfl rfl W) ?_
          simp only [Act.put, List.setIfInBounds_toArray, List.set_cons_zero, List.set_cons_succ]
          refine planG_q (by rfl) (T7.out) (fun W hW => run_cell 81 (.tmp 143) rfl _ Try.underlying81 rfl rfl (CK.out W hW)) ?_
          simp only [Act.put, List.setIfInBounds_toArray, List.set_cons_zero, List.set_cons_succ]
          refine planG_q (v := ?_) (by rfl) (T7.out) ?_ ?_
          rotate_left
          · intro W hW
            go_simp
            with_reducible rfl
          simp only [Act.put, List.setIfInBounds_toArray, List.set_cons_zero, List.set_cons_succ]
          refine planG_q (by rfl) (T7.out) (fun W hW => run_iaddr_arr 145 (.tmp 5) (.tmp 146) rfl 64 81 Try.underlying145 J0.out J2.out (w.heap.size + 2) r R64.out .i64 _ rfl rfl rfl W) ?_
          simp only [Act.put, List.setIfInBounds_toArray, List.set_cons_zero, List.set_cons_succ]
          refine planG_q (by rfl) (T7.out) (fun W hW => run_cell 81 (.tmp 147) rfl _ Try.underlying81 rfl rfl (CW.out W hW)) ?_
          simp only [Act.put, List.setIfInBounds_toArray, List.set_cons_zero, List.set_cons_succ]
          refine planG_t (by rfl) (fun K hK => ?_)
          go_simp
          refine (rright_any v4 6 _ (by omega) (by omega)).mono ?_
          rintro e w' ⟨rfl, rfl⟩
          refine hK.out _ _ (T7.out) ?_
          clear hK K
          refine planG_t (by rfl) (fun K hK => ?_)
          go_simp
          refine (rright_any v4 11 _ (by omega) (by omega)).mono ?_
          rintro e w' ⟨rfl, rfl⟩
          refine hK.out _ _ (T7.out) ?_
          clear hK K
          refine planG_q (v := ?_) (by rfl) (T7.out) ?_ ?_
          rotate_left
          · intro W hW
            go_simp
            with_reducible rfl
          simp only [Act.put, List.setIfInBounds_toArray, List.set_cons_zero, List.set_cons_succ]
          refine planG_t (by rfl) (fun K hK => ?_)
          go_simp
          refine (rright_any v4 25 _ (by omega) (by omega)).mono ?_
          rintro e w' ⟨rfl, rfl⟩
          refine hK.out _ _ (T7.out) ?_
          clear hK K
          refine planG_q (v := ?_) (by rfl) (T7.out) ?_ ?_
          rotate_left
          · intro W hW
            go_simp
            with_reducible rfl
          simp only [Act.put, List.setIfInBounds_toArray, List.set_cons_zero, List.set_cons_succ]
          refine planG_q (v := ?_) (by rfl) (T7.out) ?_ ?_
          rotate_left
          · intro W hW
            go_simp
            with_reducible rfl
          simp only [Act.put, List.setIfInBounds_toArray, List.set_cons_zero, List.set_cons_succ]
          refine planG_q (v := ?_) (by rfl) (T7.out) ?_ ?_
          rotate_left
          · intro W hW
            go_simp
            with_reducible rfl
          simp only [Act.put, List.setIfInBounds_toArray, List.set_cons_zero, List.set_cons_succ]
          refine planG_q (v := ?_) (by rfl) (T7.out) ?_ ?_
          rotate_left
          · intro W hW
            go_simp
            with_reducible rfl
          simp only [Act.put, List.setIfInBounds_toArray, List.set_cons_zero, List.set_cons_succ]
          refine planG_q (v := ?_) (by rfl) (T7.out) ?_ ?_
          rotate_left
          · intro W hW
            go_simp
            with_reducible rfl
          simp only [Act.put, List.setIfInBounds_toArray, List.set_cons_zero, List.set_cons_succ]
          refine planG_q (v := ?_) (by rfl) (T7.out) ?_ ?_
          rotate_left
          · intro W hW
            go_simp
            with_reducible rfl
          simp only [Act.put, List.setIfInBounds_toArray, List.set_cons_zero, List.set_cons_succ]
          refine planG_nil ?_
          clear e0 e1 e2 e3 e4
          obtain ⟨w7, hw7⟩ : ∃ w7, w7 = wr.drew := ⟨_, rfl⟩
          rw [← hw7] at T7 ⊢
          clear hw7 T6 wr
          obtain ⟨y0, hy0, e0⟩ := xor3_ex (rotr v0 2) (rotr v0 13) (rotr v0 22)
          obtain ⟨y, hy, e1⟩ := sumM_ex y0 mj
          have E0 := Lib.hid e0
          have E1 := Lib.hid e1
          clear e0 e1
          go_wp2_with fail
          refine (rright_any v0 2 _ (by omega) (by omega)).mono ?_
          rintro e w' ⟨rfl, rfl⟩
          go_wp2_with fail
          refine (rright_any v0 13 _ (by omega) (by omega)).mono ?_
          rintro e w' ⟨rfl, rfl⟩
          go_wp2_with fail
          refine (rright_any v0 22 _ (by omega) (by omega)).mono ?_
          rintro e w' ⟨rfl, rfl⟩
          have e0 := E0.out
          have e1 := E1.out
          go_upto_region 21 with fail
          rw [E1.out]
          clear e0 e1 E0 E1
          have a0 := CL.out w' T7.out 0 (by omega)
          have a1 := CL.out w' T7.out 1 (by omega)
          have a2 := CL.out w' T7.out 2 (by omega)
          have a3 := CL.out w' T7.out 3 (by omega)
          have a4 := CL.out w' T7.out 4 (by omega)
          have a5 := CL.out w' T7.out 5 (by omega)
          have a6 := CL.out w' T7.out 6 (by omega)
          rw [← D0.out] at a0
          rw [← D1.out] at a1
          rw [← D2.out] at a2
          rw [← D3.out] at a3
          rw [← D4.out] at a4
          rw [← D5.out] at a5
          rw [← D6.out] at a6
          obtain ⟨n0, hn0, e0⟩ := sumM_ex x y
          obtain ⟨n4, hn4, e4⟩ := sumM_ex v3 x
          have ZS := Lib.hid (show (Try.prog.info? 127).map (·.size) = some (W32 [n0, v0, v1, v2, n4, v4, v5, v6]).size by kernel_rfl)
          go_wp2_with (refine wpList_store_whole rfl rfl 127 (.tmp 10) (.tmp 179) rfl V (W32 [n0, v0, v1, v2, n4, v4, v5, v6]) rfl rfl 127 (W32 v) T7.out.bv ZS.out (by rw [W32_size, W32_size, VL.out]; rfl) (W32_one _) ?_; intro w8 hz8 hg8 hs8)
          have T8 := Lib.hid (T7.out.setv hz8 hg8)
          clear hz8 hg8 hs8 T7 a0 a1 a2 a3 a4 a5 a6
          go_roundw
          case rel =>
            refine ⟨r + 1, by have := R64.out; omega, by go_num, ?_⟩
            have hxL : xL kt wt v = x := by
              unfold xL chL
              rw [← D4.out, ← D5.out, ← D6.out, ← D7.out, ← hch.out, ← hz0.out, ← hz1.out, ← hz2.out, ← hz3.out, ← hx.out]
            have hyL : yL v = y := by
              unfold yL mjL
              rw [← D0.out, ← D1.out, ← D2.out, ← hmj.out, ← hy0.out, ← hy.out]
            rw [roundsL, ← VE.out, ← KT.out, ← WT.out, roundL, hxL, hyL, ← D0.out, ← D1.out, ← D2.out, ← D3.out, ← D4.out, ← D5.out, ← D6.out, ← hn0.out, ← hn4.out]
            exact T8.out
          case measure => have := R64.out; simp [intOf]; omega
        · have hr64 : Hid (r = 64) := show r = 64 by omega
          have hD : decide ((r : Int) < 64) = false := by simp; omega
          clear hlt hr
          go_wp2_with fail
          go_loopw [18] (fun i wr => ∃ j : Nat, j ≤ 8 ∧ i = .int .i64 (j : Int) ∧ RvW w (sumK s v j) sw v C V wr) (fun i _ => 8 - (intOf i).toNat)
          case atStart => exact ⟨0, by omega, rfl, T6.out⟩
          case round =>
            clear hD
            obtain ⟨j, hj, rfl, h8⟩ := hrel
            have T8 := Lib.hid h8
            clear h8 T6
            obtain ⟨h, hh⟩ : ∃ h, h = sumK s v j := ⟨_, rfl⟩
            rw [← hh] at T8
            have HH := Lib.hid hh
            have HL := Lib.hid (show h.length = 8 by rw [hh, sumK_length]; exact HS.out)
            clear hh
            by_cases hlt : j < 8
            · have hD : decide ((j : Int) < 8) = true := by simp; omega
              have J8 := Lib.hid hlt
              obtain ⟨x, hx⟩ : ∃ x, x = h.getD j 0 := ⟨_, rfl⟩
              obtain ⟨y, hy⟩ : ∃ x, x = v.getD j 0 := ⟨_, rfl⟩
              have CX := Lib.hid (fun (W : World) (hW : RvW w h sw v C V W) => (show W.cell? ⟨w.heap.size, j, none⟩ = some (.int .u32 (x.toNat : Int)) by have := row_cell hW.bh j (W32_get _ j (by rw [HL.out]; exact hlt)); rwa [← hx] at this))
              have CY := Lib.hid (fun (W : World) (hW : RvW w h sw v C V W) => (show W.cell? ⟨V, j, none⟩ = some (.int .u32 (y.toNat : Int)) by have := row_cell hW.bv j (W32_get _ j (by rw [VL.out]; exact hlt)); rwa [← hy] at this))
              have SK := Lib.hid (show sumK s v (j + 1) = h.set j (x + y) by rw [sumK, ← HH.out, hx, hy])
              clear hx hy
              go_upto_region 25 with fail
              have jb : (j : Int) < 8 := by have := J8.out; omega
              have T9 := Lib.hid (T8.out.keep (Below.refl _ _).drew)
              clear hlt hD hj
              refine wp_region_till (RvW w h sw v C V) 9 [(true, 0), (true, 1), (true, 2), (true, 3), (true, 4), (true, 5), (true, 6), (true, 7), (true, 8)] _ (by kernel_rfl) (by kernel_rfl) rfl (fun _ _ d _ _ h => by cases d <;> exact h) ?_
              simp only [List.filterMap_cons, List.filterMap_nil, List.getElem?_toArray, List.getElem?_cons_zero, List.getElem?_cons_succ, Option.map_some]
              refine till_q (v := ?_) (by rfl) (T9.out) ?_ ?_
              rotate_left
              · intro W hW
                go_simp
                with_reducible rfl
              simp only [Act.put, List.setIfInBounds_toArray, List.set_cons_zero, List.set_cons_succ]
              refine till_q (v := ?_) (by rfl) (T9.out) ?_ ?_
              rotate_left
              · intro W hW
                go_simp
                with_reducible rfl
              simp only [Act.put, List.setIfInBounds_toArray, List.set_cons_zero, List.set_cons_succ]
              refine till_q (v := ?_) (by rfl) (T9.out) ?_ ?_
              rotate_left
              · intro W hW
                go_simp
                with_reducible rfl
              simp only [Act.put, List.setIfInBounds_toArray, List.set_cons_zero, List.set_cons_succ]
              refine till_q (by rfl) (T9.out) (fun W hW => run_cell 81 (.tmp 186) rfl _ Try.underlying81 rfl rfl (CX.out W hW)) ?_
              simp only [Act.put, List.setIfInBounds_toArray, List.set_cons_zero, List.set_cons_succ]
              refine till_q (v := ?_) (by rfl) (T9.out) ?_ ?_
              rotate_left
              · intro W hW
                go_simp
                with_reducible rfl
              simp only [Act.put, List.setIfInBounds_toArray, List.set_cons_zero, List.set_cons_succ]
              refine till_q (v := ?_) (by rfl) (T9.out) ?_ ?_
              rotate_left
              · intro W hW
                go_simp
                with_reducible rfl
              simp only [Act.put, List.setIfInBounds_toArray, List.set_cons_zero, List.set_cons_succ]
              refine till_q (by rfl) (T9.out) (fun W hW => run_cell 81 (.tmp 189) rfl _ Try.underlying81 rfl rfl (CY.out W hW)) ?_
              simp only [Act.put, List.setIfInBounds_toArray, List.set_cons_zero, List.set_cons_succ]
              obtain ⟨z, hz, e1⟩ := sumW_ex x y
              refine till_q (v := ?_) (by rfl) (T9.out) ?_ ?_
              rotate_left
              · intro W hW
                go_simp
                with_reducible rfl
              simp only [Act.put, List.setIfInBounds_toArray, List.set_cons_zero, List.set_cons_succ]
              refine till_q (v := ?_) (by rfl) (T9.out) ?_ ?_
              rotate_left
              · intro W hW
                go_simp
                with_reducible rfl
              simp only [Act.put, List.setIfInBounds_toArray, List.set_cons_zero, List.set_cons_succ]
              have f4 := row_free T9.out.bh j
              have a4 := CX.out _ T9.out
              refine till_last (fun K hK => ?_)
              go_simp
              have H4 := Lib.hid ((T8.out.seth j z).keep (Below.refl _ _).drew)
              clear e1 f4 a4 T9
              obtain ⟨w4, hw4⟩ : ∃ w4, w4 = (wr.setCell ⟨w.heap.size, j, none⟩ (.int .u32 (z.toNat : Int))).drew := ⟨_, rfl⟩
              rw [← hw4] at H4 ⊢
              clear hw4 T8
              refine hK.out _ _ ?_
              clear hK K
              go_wp2_with fail
              go_roundw
              case rel => exact ⟨j + 1, by have := J8.out; omega, by go_num, by rw [SK.out, ← hz.out]; exact H4.out⟩
              case measure => have := J8.out; simp [intOf]; omega
            · have hj8 : Hid (j = 8) := show j = 8 by omega
              have hD : decide ((j : Int) < 8) = false := by simp; omega
              have HT := Lib.hid (show h = takeL s b by rw [HH.out, VE.out, hr64.out, hj8.out, SW.out, takeL])
              have ZS := Lib.hid (show (Try.prog.info? 127).map (·.size) = some (W32 h).size by rw [W32_size, HL.out]; kernel_rfl)
              clear hlt hj
              go_wp2_with (first
                | (refine wpList_load_row rfl 127 (.tmp 2) rfl w.heap.size rfl 127 (W32 h) (0, 0) _ T8.out.bh Try.underlying127 rfl ZS.out ?_)
                | (refine wpList_store_whole rfl rfl 127 (.tmp 4) (.tmp 193) rfl (w.heap.size + 1) (W32 h) rfl rfl 127 (W32 zero8L) T8.out.br ZS.out (by rw [W32_size, W32_size, HL.out]; rfl) (W32_one _) ?_; intro w8 hz8 hg8 _))
              refine bodyPost_ret (results_cell_row rfl _ _ (w.heap.size + 1) 127 (W32 h) (0, 0) _ rfl hz8 Try.underlying127 rfl ZS.out) rfl ⟨?_, ?_⟩
              · rw [HT.out]
              · exact T8.out.bel.trans (grown_below hg8 T8.out.bel.size (by rintro g ⟨⟩; omega))
end Go.Proofs.Ytldjiigkebkgcaa

/- The document's text, and what stands behind it. -/
namespace Go.Proofs.Ytldjiigkebkgcaa
set_option linter.unusedVariables false
set_option linter.unusedSimpArgs false
open Go.RowKit
attribute [local go_sem ↓] Go.wp_at_zero Go.wp_at_succ

def padL (l : List UInt8) : List UInt8 := l ++ tailL l.length
theorem padL_length (l : List UInt8) (h : l.length ≤ 3000) : (padL l).length % 64 = 0 ∧ (padL l).length ≤ 3200 := by
  simp only [padL, tailL, List.length_append, List.length_cons, List.length_replicate, beLs_length, zerosN]
  omega
theorem beLs_get : ∀ (k x i : Nat), i < k → (beLs k x)[i]? = some (UInt8.ofNat (x / 2 ^ (8 * (k - 1 - i))))
  | 0, _, _, h => by omega
  | k + 1, x, 0, _ => by simp [beLs]
  | k + 1, x, i + 1, h => by
    rw [beLs, List.getElem?_cons_succ, beLs_get k x i (by omega), show k + 1 - 1 - (i + 1) = k - 1 - i by omega]
theorem zero8L_snoc (l : List UInt8) (j : Nat) : (l ++ 0x80 :: List.replicate j 0) ++ [0] = l ++ 0x80 :: List.replicate (j + 1) 0 := by
  rw [List.replicate_succ']
  simp
def sizeOfStr : Value → Nat
  | .string s => s.size
  | _ => 0
set_option maxRecDepth 100000 in
set_option maxHeartbeats 2000000 in
theorem rpadded_any (l : List UInt8) (n : Nat) (hn : l.length = n) (h : n ≤ 3000) (w : World) :
    Calls Try.prog 74 #[.string (strB l)] w fun e w' => e = .returned (.string (strB (padL l))) ∧ Below w.heap.size w w' := by
  have SZ := strB_size l
  rw [hn] at SZ
  have HN := Lib.hid hn
  have H := Lib.hid h
  have PE := Lib.hid (show padL l = (l ++ 0x80 :: List.replicate (zerosN n) 0) ++ beLs 8 (n * 8) by
    rw [padL, tailL, hn, Nat.mod_eq_of_lt (show n * 8 < 18446744073709551616 by omega)]; simp)
  clear hn
  go_enter Try.func74, Try.ntmps74
  go_upto_region 2 with fail
  clear SZ
  go_wp2_with (refine wpList_val rfl (run_cat 9 _ (.tmp 9) (.const (.string { data := #[128] })) rfl l [128] rfl rfl (by have := HN.out; have := H.out; simp; omega) _) ?_)
  go_loopw [0] (fun s wr => ∃ j : Nat, j ≤ zerosN n ∧ s = .string (strB (l ++ 0x80 :: List.replicate j 0)) ∧ wr = w) (fun s _ => 4000 - sizeOfStr s)
  case atStart => exact ⟨0, by omega, rfl, rfl⟩
  case round =>
    obtain ⟨j, hj, rfl, rfl⟩ := hrel
    have J := Lib.hid hj
    obtain ⟨s0, hs⟩ : ∃ s, s = l ++ 0x80 :: List.replicate j 0 := ⟨_, rfl⟩
    obtain ⟨m, hm⟩ : ∃ m, m = s0.length := ⟨_, rfl⟩
    have SS := strB_size s0
    rw [← hm] at SS
    rw [← hs]
    have M := Lib.hid (show m = n + 1 + j by rw [hm, hs]; have := HN.out; simp; omega)
    have M2 := Lib.hid (show m ≤ 3200 by have := M.out; have := H.out; unfold zerosN at hj; omega)
    have ME := Lib.hid hm
    have SE := Lib.hid hs
    clear hs hm hj
    by_cases h56 : m % 64 = 56
    · have hE : (((m : Nat) : Int) % 64 == 56) = true := by simp; omega
      have hE2 : (((m : Nat) : Int) % 64 != 56) = false := by simp; omega
      have JZ := Lib.hid (show j = zerosN n by have := J.out; have := M.out; unfold zerosN at *; omega)
      obtain ⟨x, hx⟩ : ∃ x, x = n * 8 := ⟨_, rfl⟩
      have X := Lib.hid hx
      have e8 : (n : Int) * 8 = (x : Int) := by omega
      go_wp2_with fail
      rw [e8]
      clear e8 hE hE2 SS h56 hx
      go_loopw [0, 4] (fun s i wr' => ∃ t : Nat, t ≤ 8 ∧ s = .string (strB (s0 ++ (beLs 8 x).take t)) ∧ i = .int .i64 (t : Int) ∧ Below wr.heap.size wr wr') (fun _ i _ => 8 - (intOf i).toNat)
      case atStart => exact ⟨0, by omega, by simp, rfl, Below.refl _ _⟩
      case round =>
        obtain ⟨t, ht, rfl, rfl, hb⟩ := hrel
        by_cases h8 : t < 8
        · have hD : decide ((t : Int) < 8) = true := by simp; omega
          have T8 := Lib.hid h8
          obtain ⟨r, hr⟩ : ∃ r, r = 7 - t := ⟨_, rfl⟩
          have R := Lib.hid hr
          have e1 : (56 - 8 * (t : Int)).toNat = 8 * r := by omega
          have e2 : 8 * (r : Int) ≤ 56 := by omega
          have e3 : 56 - 8 * (t : Int) = 8 * (r : Int) := by omega
          have XB := Lib.hid (show x < 18446744073709551616 by have := X.out; have := H.out; omega)
          obtain ⟨z, hz, e4⟩ := be_byte_ex x r XB.out
          clear hr h8 ht
          have HL := Lib.hid (show (s0 ++ (beLs 8 x).take t).length + 1 ≤ 4611686018427387903 by have := M2.out; have := ME.out; rw [List.length_append, List.length_take, beLs_length]; omega)
          have HB := Lib.hid (hb.alloc hb.size (.cells #[.int .u8 (z.toNat : Int)] 5))
          clear hb
          go_wp2_with (first
            | (refine wpList_val rfl (run_str 23 9 (.tmp 29) rfl Try.underlying23 Try.underlying5 Try.underlying9 (RdB.one (y := z) (row_cell (fr := (0, 0)) (ha_new _ _ _ rfl) 0 rfl)) 1 1 rfl rfl) ?_)
            | (refine wpList_val rfl (run_cat 9 _ (.tmp 21) (.tmp 30) rfl (s0 ++ (beLs 8 x).take t) [z] rfl rfl HL.out _) ?_))
          go_roundw
          case rel =>
            refine ⟨t + 1, by have := T8.out; omega, ?_, by go_num, HB.out⟩
            congr 2
            rw [List.take_add_one, beLs_get 8 x t T8.out, hz.out, R.out]
            rfl
          case measure => have := T8.out; simp [intOf]; omega
        · have hD : decide ((t : Int) < 8) = false := by simp; omega
          have T8 : Hid (t = 8) := show t = 8 by omega
          go_wp2_with fail
          go_ret
          refine ⟨?_, hb⟩
          show Ending.returned (.string (strB (s0 ++ (beLs 8 x).take t))) = _
          rw [T8.out, List.take_of_length_le (by rw [beLs_length]; exact Nat.le_refl _), PE.out, SE.out, X.out, JZ.out]
    · have hE : (((m : Nat) : Int) % 64 == 56) = false := by simp; omega
      have hE2 : (((m : Nat) : Int) % 64 != 56) = true := by simp; omega
      have JZ := Lib.hid (show j < zerosN n by have := J.out; have := M.out; unfold zerosN at *; omega)
      go_upto_region 4 with fail
      clear SS
      go_wp2_with (refine wpList_val rfl (run_cat 9 _ (.tmp 15) (.const (.string { data := #[0] })) rfl s0 [0] rfl rfl (by have := M2.out; have := ME.out; simp; omega) _) ?_)
      go_roundw
      case rel => exact ⟨j + 1, by have := JZ.out; omega, by rw [SE.out, zero8L_snoc], trivial⟩
      case measure => simp [sizeOfStr, strB_size]; have := M2.out; have := ME.out; omega
end Go.Proofs.Ytldjiigkebkgcaa

/- The document's sum. -/
namespace Go.Proofs.Ytldjiigkebkgcaa
set_option linter.unusedVariables false
set_option linter.unusedSimpArgs false
open Go.RowKit
attribute [local go_sem ↓] Go.wp_at_zero Go.wp_at_succ

/-- The words after some blocks. -/
def wordsK (p : List UInt8) (k : Nat) : List UInt32 := (putsB startH (p.take (64 * k))).s
theorem wordsK_zero (p : List UInt8) : wordsK p 0 = beginL := by simp [wordsK, putsB, startH]
theorem wordsK_succ (p : List UInt8) (k : Nat) (h : 64 * (k + 1) ≤ p.length) : wordsK p (k + 1) = takeL (wordsK p k) ((p.drop (64 * k)).take 64) := by
  unfold wordsK
  rw [show 64 * (k + 1) = 64 * k + 64 by omega, List.take_add, putsB_append, putsB_block _ (putsB_ok startH_ok _) _ (by rw [putsB_n, List.length_take]; simp [startH]; omega) (by rw [List.length_take, List.length_drop]; omega)]
theorem wordsK_length (p : List UInt8) (k : Nat) : (wordsK p k).length = 8 := (putsB_ok startH_ok _).hs
theorem wordsK_all (l : List UInt8) (k : Nat) (h : 64 * k = (padL l).length) : outL (wordsK (padL l) k) = hashL l := by
  unfold wordsK
  rw [h, List.take_length, padL, putsB_append]
  unfold hashL sumH
  rw [putsB_n]
  simp [startH]
/-- The call's own: the answer, the words. -/
structure RmW (w : World) (h : List UInt32) (W : World) : Prop where
  bo : W.heap[w.heap.size]? = some (.cells (W8 (List.replicate 32 0)) 36 (0, 0))
  bh : W.heap[w.heap.size + 1]? = some (.cells (W32 h) 127 (0, 0))
  bel : Below w.heap.size w W
theorem RmW.keep {w W W' : World} {h : List UInt32} (k : RmW w h W) (hb : Below W.heap.size W W') : RmW w h W' where
  bo := below_block hb (row_lt k.bo) k.bo
  bh := below_block hb (row_lt k.bh) k.bh
  bel := k.bel.trans (hb.mono k.bel.size)
theorem RmW.seth {w W W' : World} {h h' : List UInt32} (k : RmW w h W) (hb : W'.heap[w.heap.size + 1]? = some (.cells (W32 h') 127 (0, 0))) (hg : W.grownBy W' (some (w.heap.size + 1))) : RmW w h' W' where
  bo := grown_block hg (by simp) k.bo
  bh := hb
  bel := k.bel.trans (grown_below hg k.bel.size (by rintro g ⟨⟩; omega))

set_option maxRecDepth 100000 in
set_option maxHeartbeats 4000000 in
theorem rsum_any (l : List UInt8) (hl : l.length ≤ 3000) (w : World) :
    Calls Try.prog 62 #[.string (strB l)] w fun e w' => e = .returned (.agg (W8 (hashL l))) ∧ Below w.heap.size w w' := by
  have HL := Lib.hid hl
  clear hl
  obtain ⟨BL, hBL⟩ : ∃ BL, BL = W32 beginL := ⟨_, rfl⟩
  have B1 := Lib.hid hBL
  have ZB := Lib.hid (show (Try.prog.info? 127).map (·.size) = some BL.size by rw [hBL]; kernel_rfl)
  go_enter Try.func62, Try.ntmps62
  go_wp2_with (refine wpList_store_new rfl rfl 127 (.tmp 3) (.tmp 7) rfl BL (by rw [B1.out]; rfl) rfl ZB.out (by rw [B1.out]; rfl) (by rw [B1.out]; exact W32_one _) ?_)
  refine (rpadded_any l _ rfl HL.out _).mono ?_
  rintro e w1 ⟨rfl, hb1⟩
  have M1 := Lib.hid (show RmW w (wordsK (padL l) 0) w1 from RmW.keep ⟨ha_old _ _ _ (by simp) (ha_new _ _ _ rfl), (ha_new _ _ _ (by simp)).trans (by rw [wordsK_zero]; rfl), ((Below.refl _ _).alloc (Nat.le_refl _) _).alloc (by simp) _⟩ hb1)
  obtain ⟨p, hp⟩ : ∃ p, p = padL l := ⟨_, rfl⟩
  rw [← hp] at M1 ⊢
  obtain ⟨n, hn⟩ : ∃ n, n = p.length := ⟨_, rfl⟩
  obtain ⟨K, hK⟩ : ∃ K, 64 * K = n := ⟨n / 64, by have := padL_length l HL.out; rw [← hp, ← hn] at this; omega⟩
  have hs := strB_size p
  rw [← hn] at hs
  have PA := Lib.hid (show outL (wordsK p K) = hashL l by rw [hp]; exact wordsK_all l K (by rw [← hp, ← hn]; exact hK))
  have NE := Lib.hid (show p.length = n from hn.symm)
  have KE := Lib.hid hK
  have KB := Lib.hid (show n ≤ 3200 by rw [hn, hp]; exact (padL_length l HL.out).2)
  clear hb1 hp hn hK
  go_wp2_with fail
  go_loopw [4] (fun i wr => ∃ k : Nat, k ≤ K ∧ i = .int .i64 ((64 * k : Nat) : Int) ∧ RmW w (wordsK p k) wr) (fun i _ => n - (intOf i).toNat)
  case atStart => exact ⟨0, by omega, rfl, M1.out⟩
  case round =>
    obtain ⟨k, hk, rfl, h2⟩ := hrel
    have M2 := Lib.hid h2
    clear h2 M1 w1
    obtain ⟨z, hz⟩ : ∃ z, z = 64 * k := ⟨_, rfl⟩
    rw [← hz]
    have Z := Lib.hid hz
    obtain ⟨h, hh⟩ : ∃ h, h = wordsK p k := ⟨_, rfl⟩
    rw [← hh] at M2
    have HE := Lib.hid hh
    have HS := Lib.hid (show h.length = 8 by rw [hh]; exact wordsK_length _ _)
    have ZH := Lib.hid (show (Try.prog.info? 127).map (·.size) = some (W32 h).size by rw [W32_size, HS.out]; kernel_rfl)
    clear hz hh
    by_cases hlt : z < n
    · have hD : decide ((z : Int) < (n : Int)) = true := by simp; omega
      have KL := Lib.hid (show k < K by have := Z.out; have := KE.out; omega)
      have Z2 := Lib.hid (show z + 64 ≤ n by have := Z.out; have := KE.out; have := KL.out; omega)
      have e4 : IntKind.i64.wrap ((z : Int) + 64) = ((z + 64 : Nat) : Int) := by have := KB.out; have := Z2.out; rw [IntKind.wrap_i64]; omega
      have E4 := Lib.hid e4
      clear e4
      go_upto_region 6 with fail
      have M3 := Lib.hid (M2.out.keep (Below.refl _ _).drew)
      refine wp_region_till (RmW w h) 7 [(true, 0), (true, 1), (true, 2), (true, 3), (true, 4), (true, 5), (false, 6)] _ (by kernel_rfl) (by kernel_rfl) rfl (fun _ _ d _ _ h => by cases d <;> exact h) ?_
      simp only [List.filterMap_cons, List.filterMap_nil, List.getElem?_toArray, List.getElem?_cons_zero, List.getElem?_cons_succ, Option.map_some]
      refine till_q (by rfl) (M3.out) (fun W hW => run_load_row 127 (.tmp 3) rfl (w.heap.size + 1) rfl 127 (W32 h) (0, 0) _ hW.bh Try.underlying127 rfl ZH.out) ?_
      simp only [Act.put, List.setIfInBounds_toArray, List.set_cons_zero, List.set_cons_succ]
      refine till_q (v := ?_) (by rfl) (M3.out) ?_ ?_
      rotate_left
      · intro W hW
        go_simp
        with_reducible rfl
      simp only [Act.put, List.setIfInBounds_toArray, List.set_cons_zero, List.set_cons_succ]
      refine till_q (v := ?_) (by rfl) (M3.out) ?_ ?_
      rotate_left
      · intro W hW
        go_simp
        with_reducible rfl
      simp only [Act.put, List.setIfInBounds_toArray, List.set_cons_zero, List.set_cons_succ]
      refine till_q (v := ?_) (by rfl) (M3.out) ?_ ?_
      rotate_left
      · intro W hW
        go_simp
        with_reducible rfl
      simp only [Act.put, List.setIfInBounds_toArray, List.set_cons_zero, List.set_cons_succ]
      refine till_q (v := ?_) (by rfl) (M3.out) ?_ ?_
      rotate_left
      · intro W hW
        go_simp
        with_reducible rfl
      simp only [Act.put, List.setIfInBounds_toArray, List.set_cons_zero, List.set_cons_succ]
      refine till_q (by rfl) (M3.out) (fun W hW => run_str_mid 9 (.tmp 17) (.tmp 18) (.tmp 20) rfl Try.underlying9 p z (z + 64) (by omega) (by have := Z2.out; have := NE.out; omega) rfl .i64 .i64 _ _ rfl E4.out rfl rfl W) ?_
      simp only [Act.put, List.setIfInBounds_toArray, List.set_cons_zero, List.set_cons_succ]
      refine till_t (by rfl) (fun K hK => ?_)
      go_simp
      obtain ⟨c, hc⟩ : ∃ c, c = (p.drop z).take 64 := ⟨_, rfl⟩
      rw [← hc]
      have CL := Lib.hid (show c.length = 64 by have := Z2.out; have := NE.out; rw [hc, List.length_take, List.length_drop]; omega)
      have SK := Lib.hid (show wordsK p (k + 1) = takeL h c by have := Z2.out; have := NE.out; rw [wordsK_succ p k (by have := Z.out; omega), HE.out, hc, Z.out])
      clear hc
      refine (rblock_any h c HS.out CL.out _).mono ?_
      rintro e w4 ⟨rfl, hb4⟩
      have M4 := Lib.hid (M3.out.keep hb4)
      clear hb4 M3 M2
      obtain ⟨h4, hh4⟩ : ∃ h4, h4 = takeL h c := ⟨_, rfl⟩
      rw [← hh4] at SK ⊢
      have L4 := Lib.hid (show h4.length = 8 by rw [hh4, takeL_length]; exact HS.out)
      clear hh4
      refine hK.out _ _ (M4.out) ?_
      clear hK K
      refine till_last (fun K hK => ?_)
      refine storeW_wp 127 (.tmp 3) (.tmp 22) rfl (w.heap.size + 1) (W32 h4) rfl rfl _ _ M4.out.bh (by rw [W32_size, L4.out]; kernel_rfl) (by rw [W32_size, W32_size, L4.out, HS.out]) (W32_one _) ?_
      intro w5 hz5 hg5 hs5
      have M5 := Lib.hid (M4.out.seth hz5 hg5)
      clear hz5 hg5 hs5 M4
      refine hK.out _ _ ?_
      clear hK K
      have zb : (z : Int) ≤ 3200 := by have := KB.out; omega
      go_wp2_with fail
      go_roundw
      case rel => exact ⟨k + 1, by have := KL.out; omega, by have := Z.out; go_num, by rw [SK.out]; exact M5.out⟩
      case measure => simp [intOf] <;> omega
    · have hD : decide ((z : Int) < (n : Int)) = false := by simp; omega
      have KK := Lib.hid (show k = K by have := Z.out; have := KE.out; omega)
      obtain ⟨L, hL⟩ : ∃ L, L = outL h := ⟨_, rfl⟩
      have LL := Lib.hid (show L.length = 32 by rw [hL, outL_length])
      have LE := Lib.hid hL
      have LF := Lib.hid (show L = hashL l by rw [hL, HE.out, KK.out]; exact PA.out)
      clear hL hk
      go_upto_region 8 with fail
      rw [← zero32]
      obtain ⟨M, hM⟩ : ∃ M, M = wr.heap.size := ⟨_, rfl⟩
      have MG := Lib.hid (show w.heap.size + 1 < M by rw [hM]; exact row_lt M2.out.bh)
      obtain ⟨w3, hw3⟩ : ∃ w3, w3 = wr.alloc (.cells (W8 (List.replicate 32 0)) 36) := ⟨_, rfl⟩
      have M3 := Lib.hid (show RmW w h w3 by rw [hw3]; exact M2.out.keep ((Below.refl _ _).alloc (Nat.le_refl _) _))
      have O3 := Lib.hid (show w3.heap[M]? = some (.cells (W8 (partB L 0)) 36 (0, 0)) by rw [hw3, partB_zero, LL.out]; exact ha_new _ _ _ hM)
      rw [← hw3, ← hM]
      clear hw3 hM M2 hD hlt
      go_wp2_with fail
      go_loopw [6] (fun i wr => ∃ j : Nat, j ≤ 32 ∧ i = .int .i64 (j : Int) ∧ RmW w h wr ∧ wr.heap[M]? = some (.cells (W8 (partB L j)) 36 (0, 0))) (fun i _ => 32 - (intOf i).toNat)
      case atStart => exact ⟨0, by omega, rfl, M3.out, O3.out⟩
      case round =>
        obtain ⟨j, hj, rfl, h4, o4⟩ := hrel
        have M4 := Lib.hid h4
        have O4 := Lib.hid o4
        clear h4 o4 M3 O3
        by_cases hlt : j < 32
        · have hD : decide ((j : Int) < 32) = true := by simp; omega
          have J := Lib.hid hlt
          obtain ⟨x, hx⟩ : ∃ x, x = h.getD (j / 4) 0 := ⟨_, rfl⟩
          have a1 := row_cell M4.out.bh (j / 4) (W32_get _ (j / 4) (by rw [HS.out]; omega))
          rw [← hx] at a1
          have a2 := row_cell O4.out j (W8_get _ j (by rw [partB_length, LL.out]; exact hlt))
          have f2 := row_free O4.out j
          have X := Lib.hid hx
          have e1 : ((j : Int) / 4).toNat = j / 4 := by omega
          have e2 : (24 - 8 * ((j : Int) % 4)).toNat = 8 * (3 - j % 4) := by omega
          clear hx
          go_wp2_with fail
          rw [shr_out x (8 * (3 - j % 4)) (by omega)]
          obtain ⟨w3, hw3⟩ : ∃ w3, w3 = wr.setCell ⟨M, j, none⟩ (.int .u8 ((x >>> UInt32.ofNat (8 * (3 - j % 4))).toUInt8.toNat : Int)) := ⟨_, rfl⟩
          rw [← hw3]
          have hx2 : (x >>> UInt32.ofNat (8 * (3 - j % 4))).toUInt8 = L.getD j 0 := by
            rw [LE.out, outL, List.getD_eq_getElem?_getD, List.getElem?_map, List.getElem?_range hlt, X.out]
            rfl
          have M9 : w3.heap[M]? = some (.cells (W8 (partB L (j + 1))) 36 (0, 0)) := by
            rw [hw3, heap_setCell_same _ _ _ _ _ _ O4.out, W8_set, hx2, partB_set _ _ (by rw [LL.out]; exact hlt)]
          have S9 : RmW w h w3 := by
            have hgr : wr.grownBy w3 (some M) := by rw [hw3]; exact grown_set (World.grownBy.refl _ _) _ _
            have h1 := MG.out
            exact ⟨grown_block hgr (by simp; omega) M4.out.bo, grown_block hgr (by simp; omega) M4.out.bh, M4.out.bel.trans (grown_below hgr M4.out.bel.size (by intro g e; cases e; omega))⟩
          clear hw3
          go_roundw
          case rel => exact ⟨j + 1, by have := J.out; omega, by go_num, S9, M9⟩
          case measure => have := J.out; simp [intOf]; omega
        · have hj32 : Hid (j = 32) := show j = 32 by omega
          have hD : decide ((j : Int) < 32) = false := by simp; omega
          have OF := Lib.hid (show wr.heap[M]? = some (.cells (W8 L) 36 (0, 0)) by have := O4.out; rw [hj32.out] at this; rw [← LL.out, partB_full] at this; exact this)
          have ZS := Lib.hid (show (Try.prog.info? 36).map (·.size) = some (W8 L).size by rw [W8_size, LL.out]; kernel_rfl)
          clear hlt hj
          go_wp2_with (first
            | (refine wpList_load_row rfl 36 (.tmp 5) rfl M rfl 36 (W8 L) (0, 0) _ OF.out Try.underlying36 rfl ZS.out ?_)
            | (refine wpList_store_whole rfl rfl 36 (.tmp 2) (.tmp 40) rfl w.heap.size (W8 L) rfl rfl 36 (W8 (List.replicate 32 0)) M4.out.bo ZS.out (by rw [W8_size, W8_size, LL.out]; rfl) (W8_one _) ?_; intro w8 hz8 hg8 _))
          refine bodyPost_ret (results_cell_row rfl _ _ w.heap.size 36 (W8 L) (0, 0) _ rfl hz8 Try.underlying36 rfl ZS.out) rfl ⟨?_, ?_⟩
          · rw [LF.out]
          · exact M4.out.bel.trans (grown_below hg8 M4.out.bel.size (by rintro g ⟨⟩; omega))
end Go.Proofs.Ytldjiigkebkgcaa

/- The document's wire.Put and wire.Sized, as texts. No condition but those each theorem states. -/
namespace Go.Proofs.Ytldjiigkebkgcaa
set_option linter.unusedVariables false
set_option linter.unusedSimpArgs false
open Go.RowKit
attribute [local go_sem ↓] Go.wp_at_zero Go.wp_at_succ

theorem byte_of (y : Nat) : ∃ z : UInt8, Hid (z = UInt8.ofNat y) ∧ IntKind.u8.wrap (y : Int) = (z.toNat : Int) := by
  refine ⟨_, rfl, ?_⟩
  rw [IntKind.wrap_u8]
  simp
set_option maxRecDepth 100000 in
set_option maxHeartbeats 1000000 in
theorem rput_any (b : List UInt8) (x : UInt64) (k : Int) (hk : -9223372036854775808 ≤ k ∧ k ≤ 9223372036854775807) (hb : b.length ≤ 4611686018427387000) (w : World) :
    Calls Try.prog 63 #[.string (strB b), .int .u64 (x.toNat : Int), .int .i64 k] w fun e w' => e = .returned (.string (strB (b ++ beL (putN k) x.toNat))) ∧ Below w.heap.size w w' := by
  have HB := Lib.hid hb
  clear hb
  go_enter Try.func63, Try.ntmps63
  by_cases h1 : k < 1
  · have hD : decide (k < (1 : Int)) = true := by simp; omega
    have P0 := Lib.hid (show putN k = 0 by unfold putN; omega)
    go_wp2_with fail
    go_ret
    exact ⟨by rw [P0.out, beL, List.append_nil]; rfl, Below.refl _ _⟩
  · have hD : decide (k < (1 : Int)) = false := by simp; omega
    obtain ⟨m, hm⟩ : ∃ m, m = putN k := ⟨_, rfl⟩
    rw [← hm]
    have M8 := Lib.hid (show m ≤ 8 by rw [hm]; unfold putN; omega)
    go_upto_if 13 with fail
    go_cut [2] (fun u wx => u = .int .i64 (m : Int) ∧ wx = w)
    case first =>
      by_cases h8 : 8 < k
      · have hE : decide ((8 : Int) < k) = true := by simp; omega
        go_wp2_with fail
        go_meet
        exact ⟨by rw [hm]; unfold putN; congr 1; omega, rfl⟩
      · have hE : decide ((8 : Int) < k) = false := by simp; omega
        go_wp2_with fail
        go_meet
        exact ⟨by rw [hm]; unfold putN; congr 1; omega, rfl⟩
    case rest =>
    obtain ⟨rfl, hwx⟩ := hcut
    rw [hwx]
    clear hwx hm h1 hD hk
    have mb : (m : Int) ≤ 8 := by have := M8.out; omega
    go_wp2_with fail
    go_loopw [1, 7, 8] (fun v s i wr => ∃ j : Nat, j ≤ m ∧ v = .int .u64 ((x.toNat / 2 ^ (8 * j) : Nat) : Int) ∧ s = .string (strB (beL j x.toNat)) ∧ i = .int .i64 (j : Int) ∧ Below w.heap.size w wr) (fun _ _ i _ => 8 - (intOf i).toNat)
    case atStart => exact ⟨0, by omega, by simp, rfl, rfl, Below.refl _ _⟩
    case round =>
      obtain ⟨j, hj, rfl, rfl, rfl, hbel⟩ := hrel
      have J := Lib.hid hj
      have S := Lib.hid hbel
      obtain ⟨y, hy⟩ : ∃ y, y = x.toNat / 2 ^ (8 * j) := ⟨_, rfl⟩
      rw [← hy]
      have Y := Lib.hid hy
      have Y64 := Lib.hid (show y < 18446744073709551616 by have := x.toNat_lt; rw [hy]; exact Nat.lt_of_le_of_lt (Nat.div_le_self _ _) (by omega))
      have L := Lib.hid (beL_length j x.toNat)
      obtain ⟨s, hs⟩ : ∃ s, s = beL j x.toNat := ⟨_, rfl⟩
      rw [← hs] at L ⊢
      have SE := Lib.hid hs
      clear hy hbel hs
      by_cases hlt : j < m
      · have hD : decide ((j : Int) < (m : Int)) = true := by simp; omega
        obtain ⟨z, hz, e1⟩ := byte_of y
        have yb : (y : Int) < 18446744073709551616 := by have := Y64.out; omega
        have HBZ := Lib.hid (S.out.alloc S.out.size (.cells #[.int .u8 (z.toNat : Int)] 5))
        go_wp2_with (first
          | (refine wpList_val rfl (run_str 23 9 (.tmp 21) rfl Try.underlying23 Try.underlying5 Try.underlying9 (RdB.one (y := z) (row_cell (fr := (0, 0)) (ha_new _ _ _ rfl) 0 rfl)) 1 1 rfl rfl) ?_)
          | (refine wpList_val rfl (run_cat 9 _ (.tmp 22) (.tmp 23) rfl [z] s rfl rfl (by have := L.out; have := J.out; have := M8.out; simp; omega) _) ?_))
        go_roundw
        case rel =>
          refine ⟨j + 1, by omega, ?_, by rw [beL, SE.out, hz.out, Y.out], by go_num, HBZ.out⟩
          congr 1
          have e : x.toNat / 2 ^ (8 * (j + 1)) = y / 256 := by rw [Y.out, Nat.div_div_eq_div_mul, show 8 * (j + 1) = 8 * j + 8 by omega, Nat.pow_add]
          rw [e]
          first | omega | go_num
        case measure => have := M8.out; simp [intOf]; omega
      · have hD : decide ((j : Int) < (m : Int)) = false := by simp; omega
        have JE := Lib.hid (show j = m by have := J.out; omega)
        go_wp2_with (refine wpList_val rfl (run_cat 9 _ (.tmp 27) (.tmp 28) rfl b s rfl rfl (by have := L.out; have := J.out; have := M8.out; have := HB.out; omega) _) ?_)
        go_ret
        exact ⟨by rw [SE.out, JE.out]; rfl, S.out⟩
end Go.Proofs.Ytldjiigkebkgcaa

/- The document's bytes of a source. No condition but those each theorem states. -/
namespace Go.Proofs.Ytldjiigkebkgcaa
set_option linter.unusedVariables false
set_option linter.unusedSimpArgs false
open Go.RowKit
attribute [local go_sem ↓] Go.wp_at_zero Go.wp_at_succ

theorem putN_8b : putN 8 = 8 := rfl
def bLen : Value → Nat
  | .string s => s.size
  | _ => 0
theorem tellS_mid (F : List UInt8) (u m : Nat) (h : u + m ≤ F.length) : tellS F u m = (F.drop u).take m := by
  apply List.ext_getElem
  · rw [tellS_length, List.length_take, List.length_drop]; omega
  · intro i h1 h2
    rw [tellS_length] at h1
    simp only [tellS, List.getElem_map, List.getElem_range, List.getElem_take, List.getElem_drop]
    rw [byteS, if_pos (by omega)]
    simp [List.getD_eq_getElem?_getD, show u + i < F.length by omega]
theorem tellS_take (F : List UInt8) (u m k : Nat) (h : k ≤ m) : (tellS F u m).take k = tellS F u k := by
  obtain ⟨c, rfl⟩ : ∃ c, m = k + c := ⟨m - k, by omega⟩
  rw [tellS_add, List.take_append_of_le_length (by rw [tellS_length]; exact Nat.le_refl _), List.take_of_length_le (by rw [tellS_length]; exact Nat.le_refl _)]
theorem tellS_tail (F : List UInt8) (d : Nat) : tellS F (F.length + d) (32 - d % 32) = (hashL (hashL F ++ beL 8 (d / 32))).drop (d % 32) := by
  apply List.ext_getElem
  · rw [tellS_length, List.length_drop, hashL_length]
  · intro i h1 h2
    rw [tellS_length] at h1
    have hl : i + d % 32 < 32 := by omega
    simp only [tellS, List.getElem_map, List.getElem_range, List.getElem_drop]
    rw [byteS, if_neg (by omega), show F.length + d + i - F.length = d + i by omega, show (d + i) / 32 = d / 32 by omega, show (d + i) % 32 = d % 32 + i by omega]
    simp [List.getD_eq_getElem?_getD, hashL_length, show d % 32 + i < 32 by omega]
set_option maxRecDepth 100000 in
set_option maxHeartbeats 4000000 in
theorem rbytes_any (F : List UInt8) (n : Nat) (hn : F.length = n) (hb : n ≤ 2900) (u : Nat) (hu : u ≤ 1000000) (k : Nat) (hk : k ≤ 70000) (w : World) :
    Calls Try.prog 50 #[.string (strB F), .int .i64 (u : Int), .int .i64 (k : Int)] w fun e w' => e = .returned (.string (strB (tellS F u k))) ∧ Below w.heap.size w w' := by
  have SZ := strB_size F
  rw [hn] at SZ
  have HN := Lib.hid hn
  have HB := Lib.hid hb
  have HK := Lib.hid hk
  have HU := Lib.hid hu
  have ub : (u : Int) ≤ 1000000 := by omega
  have nb : (n : Int) ≤ 2900 := by omega
  have kb : (k : Int) ≤ 70000 := by omega
  have e1 : (if (k : Int) < 0 then (0 : Int) else (k : Int)) = (k : Int) := by split <;> omega
  obtain ⟨R, hR⟩ : ∃ R, R = tellS F u k := ⟨_, rfl⟩
  have RE := Lib.hid hR
  rw [← hR]
  obtain ⟨S, hS⟩ : ∃ S, S = hashL F := ⟨_, rfl⟩
  have SE := Lib.hid hS
  have SL := Lib.hid (show S.length = 32 by rw [hS, hashL_length])
  have ZS := Lib.hid (show (Try.prog.info? 36).map (·.size) = some (W8 S).size by rw [W8_size, SL.out]; kernel_rfl)
  obtain ⟨i0, hi0, hz0, hz1, hz2⟩ := info_parts (show (Try.prog.info? 5).map (fun i => (i.zero, i.size, i.bytes)) = some (some (.int .u8 0), 1, 1) by kernel_rfl)
  have I0 := Lib.hid hi0
  have I1 := Lib.hid hz1
  clear hn hb hk hu hR hS hi0 hz0 hz1 hz2
  go_enter Try.func50, Try.ntmps50
  go_upto_if 14 with fail
  go_cut [7] (fun v wx => (∃ m, m ≤ k ∧ v = .string (strB (tellS F u m)) ∧ (m < k → n ≤ u + m)) ∧ wx = w)
  case first =>
    by_cases hlt : u < n
    · have hD : decide ((u : Int) < (n : Int)) = true := by simp; omega
      obtain ⟨j, hj⟩ : ∃ j, j = min n (u + k) := ⟨_, rfl⟩
      have J := Lib.hid (show u ≤ j ∧ j ≤ n ∧ j ≤ u + k ∧ (j < u + k → j = n) by omega)
      have e2 : (if (u : Int) + (k : Int) < (n : Int) then (u : Int) + (k : Int) else (n : Int)) = (j : Int) := by split <;> omega
      clear hj
      go_wp2_with (refine wpList_val rfl (run_str_mid 9 (.tmp 15) (.tmp 16) (.tmp 23) rfl Try.underlying9 F u j J.out.1 (by rw [HN.out]; exact J.out.2.1) rfl .i64 .i64 _ _ rfl rfl rfl rfl _) ?_)
      go_meet
      refine ⟨⟨j - u, by have := J.out; omega, ?_, fun h => by have := J.out; omega⟩, rfl⟩
      rw [tellS_mid F u (j - u) (by rw [HN.out]; have := J.out; omega)]
    · have hD : decide ((u : Int) < (n : Int)) = false := by simp; omega
      go_wp2_with fail
      go_meet
      exact ⟨⟨0, by omega, rfl, fun h => by omega⟩, rfl⟩
  case rest =>
  obtain ⟨⟨m0, hm0, rfl, hm1⟩, hwx⟩ := hcut
  rw [hwx]
  have M0 := Lib.hid hm0
  have M1 := Lib.hid hm1
  clear hwx hm0 hm1
  go_wp2_with fail
  refine (rsum_any F (by rw [HN.out]; have := HB.out; omega) _).mono ?_
  rw [← SE.out]
  rintro e w1 ⟨rfl, hb1⟩
  have B := Lib.hid hb1
  clear hb1
  go_upto_region 5 with (refine wpList_store_new rfl rfl 36 (.tmp 8) (.tmp 26) rfl (W8 S) rfl rfl ZS.out ?c1 (W8_one _) ?_)
  case c1 => rw [W8_size, SL.out]; rfl
  obtain ⟨M, hM⟩ : ∃ M, M = w1.heap.size := ⟨_, rfl⟩
  obtain ⟨w2, hw2⟩ : ∃ w2, w2 = w1.alloc (.cells (W8 S) 36) := ⟨_, rfl⟩
  have R2 := Lib.hid (show w2.heap[M]? = some (.cells (W8 S) 36 (0, 0)) by rw [hw2]; exact ha_new _ _ _ hM)
  have B := Lib.hid (show Below w.heap.size w w2 by rw [hw2]; exact B.out.alloc B.out.size _)
  rw [← hw2, ← hM]
  clear hw2 hM
  go_loopw [7] (fun v wr => ∃ m X, X = tellS F u m ∧ v = .string (strB X) ∧ m ≤ k + 32 ∧ (m < k → n ≤ u + m) ∧ wr.heap[M]? = some (.cells (W8 S) 36 (0, 0)) ∧ Below w.heap.size w wr) (fun v _ => k - bLen v)
  case atStart => exact ⟨m0, _, rfl, rfl, by have := M0.out; omega, M1.out, R2.out, B.out⟩
  case round =>
    obtain ⟨m, X, hX, rfl, hm, hmn, hr, hbb⟩ := hrel
    have XE := Lib.hid hX
    have XL := Lib.hid (show X.length = m by rw [hX, tellS_length])
    have MK := Lib.hid hm
    have MN := Lib.hid hmn
    have R2 := Lib.hid hr
    have B := Lib.hid hbb
    have SX := strB_size X
    rw [XL.out] at SX
    have mb : (m : Int) ≤ 70032 := by have := HK.out; omega
    clear hX hm hmn hr hbb
    by_cases hlt : m < k
    · have hD : decide ((m : Int) < (k : Int)) = true := by simp; omega
      have LT := Lib.hid hlt
      obtain ⟨d, hd⟩ : ∃ d, u + m = n + d := ⟨u + m - n, by have := MN.out hlt; omega⟩
      have eD : (u : Int) + (m : Int) - (n : Int) = (d : Int) := by omega
      have DE := Lib.hid hd
      obtain ⟨x, hx⟩ : ∃ x : UInt64, x.toNat = d / 32 := ⟨UInt64.ofNat (d / 32), by have := HU.out; have := HK.out; simp; omega⟩
      obtain ⟨r, hr⟩ : ∃ r, r = d % 32 := ⟨_, rfl⟩
      have R := Lib.hid hr
      have XN := Lib.hid hx
      have R32 := Lib.hid (show r < 32 by omega)
      have db : (d : Int) ≤ 1100000 := by have := HU.out; have := HK.out; omega
      have e3 : (d : Int).tdiv 32 = (x.toNat : Int) := by rw [Int.tdiv_eq_ediv_of_nonneg (by omega), hx]; omega
      have e2 : (d : Int).tmod 32 = (r : Int) := by rw [Int.tmod_eq_emod_of_nonneg (by omega)]; omega
      have xb : (x.toNat : Int) ≤ 1100000 := by omega
      have rb : (r : Int) < 32 := by omega
      obtain ⟨T, hT⟩ : ∃ T, T = hashL (S ++ beL 8 x.toNat) := ⟨_, rfl⟩
      have TE := Lib.hid hT
      have TL := Lib.hid (show T.length = 32 by rw [hT, hashL_length])
      have ZT := Lib.hid (show (Try.prog.info? 36).map (·.size) = some (W8 T).size by rw [W8_size, TL.out]; kernel_rfl)
      have NX := Lib.hid (show X ++ T.drop r = tellS F u (m + (32 - r)) by
        rw [tellS_add, ← XE.out, DE.out, ← HN.out, hr, tellS_tail, hT, SE.out, hx])
      clear hd hx hr hT hlt
      go_wp2_with (first
        | (refine wpList_val rfl (run_arr_all 36 (.tmp 8) rfl 32 5 Try.underlying36 I0.out M rfl _) ?_)
        | (refine wpList_val rfl (run_str 23 9 (.tmp 38) rfl Try.underlying23 Try.underlying5 Try.underlying9 (RdB.row R2.out) 32 32 SL.out rfl) ?_))
      refine (rput_any S x 8 (by omega) (by rw [SL.out]; omega) _).mono ?_
      rw [putN_8b]
      rintro e w3 ⟨rfl, hb3⟩
      have B := Lib.hid (B.out.trans (hb3.mono B.out.size))
      have R2 := Lib.hid (below_block hb3 (row_lt R2.out) R2.out)
      clear hb3
      go_wp2_with fail
      refine (rsum_any (S ++ beL 8 x.toNat) (by rw [List.length_append, SL.out, beL_length]; omega) _).mono ?_
      rw [← TE.out]
      rintro e w4 ⟨rfl, hb4⟩
      have B := Lib.hid (B.out.trans (hb4.mono B.out.size))
      have R2 := Lib.hid (below_block hb4 (row_lt R2.out) R2.out)
      clear hb4
      go_upto_region 8 with (refine wpList_store_new rfl rfl 36 (.tmp 10) (.tmp 44) rfl (W8 T) rfl rfl ZT.out ?c1 (W8_one _) ?_)
      case c1 => rw [W8_size, TL.out]; rfl
      obtain ⟨M2, hM⟩ : ∃ M, M = w4.heap.size := ⟨_, rfl⟩
      obtain ⟨w5, hw5⟩ : ∃ w5, w5 = w4.alloc (.cells (W8 T) 36) := ⟨_, rfl⟩
      have RT := Lib.hid (show RdB w5 (some ⟨M2, 0 + r, none⟩) (T.drop r) from fun j hj => by
        rw [List.length_drop, TL.out] at hj
        have h1 := row_cell (show w5.heap[M2]? = some (.cells (W8 T) 36 (0, 0)) by rw [hw5]; exact ha_new _ _ _ hM) (r + j) (W8_get _ (r + j) (by rw [TL.out]; omega))
        refine ⟨M2, 0 + r, rfl, ?_⟩
        rw [Nat.zero_add, h1]
        simp [List.getD_eq_getElem?_getD, List.getElem?_drop])
      have R2 := Lib.hid (show w5.heap[M]? = some (.cells (W8 S) 36 (0, 0)) by rw [hw5]; exact ha_old _ _ _ (row_lt R2.out) R2.out)
      have B := Lib.hid (show Below w.heap.size w w5 by rw [hw5]; exact B.out.alloc B.out.size _)
      rw [← hw5, ← hM]
      have hcat : ¬ 9223372036854775807 < (strB X).size + (strB (T.drop r)).size := by rw [strB_size, strB_size, XL.out, List.length_drop, TL.out]; have := MK.out; have := HK.out; omega
      clear hw5 hM SX
      go_wp2_with (first
        | (refine wpList_val rfl (run_ptr_from 36 (.tmp 10) (.tmp 47) rfl 32 5 Try.underlying36 I0.out I1.out .i64 M2 0 r R32.out rfl rfl _) ?_)
        | (refine wpList_val rfl (run_str 23 9 (.tmp 48) rfl Try.underlying23 Try.underlying5 Try.underlying9 RT.out (32 - r) (32 - r) (by rw [List.length_drop, TL.out]) rfl) ?_))
      case roundEnd =>
        have h1 := LT.out
        have h2 := R32.out
        have h3 : (strB X).size = m := by rw [strB_size, XL.out]
        have h4 : (strB X ++ strB (T.drop r)).size = m + (32 - r) := by rw [strB_append, strB_size, List.length_append, XL.out, List.length_drop, TL.out]
        refine ⟨⟨m + (32 - r), _, rfl, by rw [strB_append, NX.out], by omega, fun _ => by have := MN.out h1; omega, R2.out, B.out⟩, ?_⟩
        show k - (strB X ++ strB (T.drop r)).size < k - (strB X).size
        rw [h3, h4]
        omega
    · have hD : decide ((m : Int) < (k : Int)) = false := by simp; omega
      have LT := Lib.hid hlt
      clear hlt
      go_wp2_with (refine wpList_val rfl (run_str_to 9 (.tmp 51) (.tmp 53) rfl Try.underlying9 X k (by rw [XL.out]; have := LT.out; omega) rfl rfl _) ?_)
      go_ret
      refine ⟨?_, B.out⟩
      show Ending.returned (.string (strB (X.take k))) = _
      rw [XE.out, tellS_take F u m k (by have := LT.out; omega), RE.out]
end Go.Proofs.Ytldjiigkebkgcaa

/- The document's box: Draw, Known. No condition but those each theorem states. -/
namespace Go.Proofs.Ytldjiigkebkgcaa
set_option linter.unusedVariables false
set_option linter.unusedSimpArgs false
open Go.RowKit
attribute [local go_sem ↓] Go.wp_at_zero Go.wp_at_succ

/-- An entry of the document's box; such a box. -/
structure REnt where
  x : List UInt8
  key : List UInt8
  beside : List UInt8
  text : List UInt8
structure RBx where
  mode : Nat
  F : List UInt8
  u : Nat
  L : List REnt
def RowE (p : REnt) : List Value := [.string (strB p.x), .string (strB p.key), .string (strB p.beside), .string (strB p.text)]
def EC (L : List REnt) : List Value := L.flatMap RowE
theorem EC_length (L : List REnt) : (EC L).length = L.length * 4 := by
  induction L with
  | nil => rfl
  | cons p L ih => simp only [EC, List.flatMap_cons, List.length_append] at *; rw [ih]; simp [RowE]; omega
theorem EC_append (L L' : List REnt) : EC (L ++ L') = EC L ++ EC L' := by simp [EC]
theorem EC_get (L : List REnt) (j i : Nat) (hi : i < 4) (p : REnt) (hp : L[j]? = some p) : (EC L)[j * 4 + i]? = (RowE p)[i]? := by
  induction L generalizing j with
  | nil => simp at hp
  | cons q L ih =>
    have e : EC (q :: L) = RowE q ++ EC L := by simp [EC]
    rw [e]
    cases j with
    | zero =>
      simp at hp
      subst hp
      rw [Nat.zero_mul, Nat.zero_add, List.getElem?_append_left (by simpa [RowE] using hi)]
    | succ j =>
      rw [List.getElem?_append_right (by simp [RowE]; omega), show (j + 1) * 4 + i - (RowE q).length = j * 4 + i by simp [RowE]; omega]
      exact ih j (by simpa using hp)
theorem EC_one (L : List REnt) : ∀ u ∈ EC L, u.oneCell' = true := by
  intro u hu
  simp only [EC, List.mem_flatMap, RowE, List.mem_cons, List.mem_nil_iff, or_false] at hu
  obtain ⟨p, _, rfl | rfl | rfl | rfl⟩ := hu <;> rfl
/-- Its cells. -/
def RBC (m : Nat) (F : List UInt8) (u : Nat) (A : Option Addr) (n c : Nat) : Array Value := #[.int .i64 (m : Int), .string (strB F), .int .i64 (u : Int), .slice A n c]
def RBZ : Array Value := #[.int .i64 0, .string ⟨#[]⟩, .int .i64 0, .slice none 0 0]
theorem RBC_size (m : Nat) (F : List UInt8) (u : Nat) (A : Option Addr) (n c : Nat) : (RBC m F u A n c).size = 4 := rfl
theorem RBC_one (m : Nat) (F : List UInt8) (u : Nat) (A : Option Addr) (n c : Nat) : (RBC m F u A n c).all (·.oneCell') = true := by simp [RBC, Value.oneCell']
theorem info_rbx : (Try.prog.info? 53).map (·.size) = some 4 := by kernel_rfl
theorem ret_rbx {fn : Func} {R : Ending → World → Prop} {a : Act} {w : World} (g : Nat) (cs : Array Value) (v : Value) {p u : Tmp} (h : fn.results = #[.cell p 53, .tmp u])
    (hp : a.tmps.getD p undef = .pointer (some ⟨g, 0, none⟩)) (hu : a.tmps.getD u undef = v) (hd : a.defers = []) (hg : w.heap[g]? = some (.cells cs 53 (0, 0))) (hs : cs.size = 4) (hR : R (.returned (.tuple #[.agg cs, v])) w) : bodyPost Try.prog fn R .ret a w := by
  refine bodyPost_ret ?_ hd hR
  rw [results_cell_tmp h, hp, hu]
  show (((asAddr (.pointer (some ⟨g, 0, none⟩))).run _ _).andThen _) = _
  simp only [asAddr, Sem.run_pure, Result.andThen_ok]
  rw [run_loadVar_row w g _ 53 cs (0, 0) _ hg Try.underlying53 rfl (by rw [hs]; exact info_rbx)]
  rfl
theorem results_cell_tmp2 {fn : Func} {p u v : Tmp} {ty : TypeId} (h : fn.results = #[.cell p ty, .tmp u, .tmp v]) (tmps : Array Value) (P : Program) (w : World) :
    (results fn tmps).run P w =
      ((asAddr (tmps.getD p undef)).run P w).andThen fun a w₁ => ((loadVar ty a).run P w₁).andThen fun x w₂ => .ok (.tuple #[x, tmps.getD u undef, tmps.getD v undef]) w₂ := by
  simp only [results, h]
  simp [Sem.run_bind, Result.andThen]
theorem ret_rbx2 {fn : Func} {R : Ending → World → Prop} {a : Act} {w : World} (g : Nat) (cs : Array Value) (v v2 : Value) {p u u2 : Tmp} (h : fn.results = #[.cell p 53, .tmp u, .tmp u2])
    (hp : a.tmps.getD p undef = .pointer (some ⟨g, 0, none⟩)) (hu : a.tmps.getD u undef = v) (hu2 : a.tmps.getD u2 undef = v2) (hd : a.defers = []) (hg : w.heap[g]? = some (.cells cs 53 (0, 0))) (hs : cs.size = 4) (hR : R (.returned (.tuple #[.agg cs, v, v2])) w) : bodyPost Try.prog fn R .ret a w := by
  refine bodyPost_ret ?_ hd hR
  rw [results_cell_tmp2 h, hp, hu, hu2]
  show (((asAddr (.pointer (some ⟨g, 0, none⟩))).run _ _).andThen _) = _
  simp only [asAddr, Sem.run_pure, Result.andThen_ok]
  rw [run_loadVar_row w g _ 53 cs (0, 0) _ hg Try.underlying53 rfl (by rw [hs]; exact info_rbx)]
  rfl
set_option maxRecDepth 100000 in
set_option maxHeartbeats 4000000 in
theorem rdraw_any (m : Nat) (F : List UInt8) (u : Nat) (A : Option Addr) (n c : Nat) (hF : F.length ≤ 2900) (hu : u ≤ 1000000) (k : Nat) (hk : k ≤ 70000) (w : World) :
    Calls Try.prog 34 #[.agg (RBC m F u A n c), .int .i64 (k : Int)] w fun e w' => e = .returned (.tuple #[.agg (RBC m F (u + k) A n c), .string (strB (tellS F u k))]) ∧ Below w.heap.size w w' := by
  have HF := Lib.hid hF
  have HU := Lib.hid hu
  have HK := Lib.hid hk
  have ub : (u : Int) ≤ 1000000 := by omega
  have kb : (k : Int) ≤ 70000 := by omega
  obtain ⟨X, hX⟩ : ∃ X, X = tellS F u k := ⟨_, rfl⟩
  have XE := Lib.hid hX
  rw [← hX]
  obtain ⟨cs, hcs⟩ : ∃ cs, cs = RBC m F u A n c := ⟨_, rfl⟩
  have CE := Lib.hid hcs
  rw [← hcs]
  have CZ := Lib.hid (show (Try.prog.info? 53).map (·.size) = some cs.size by rw [hcs]; exact info_rbx)
  clear hF hu hk hX hcs
  go_enter Try.func34, Try.ntmps34
  go_upto_region 1 with fail
  generalize hw1 : World.alloc w _ = w1
  generalize hw2 : World.alloc w1 _ = w2
  have R2 := Lib.hid (show w2.heap[w.heap.size]? = some (.cells cs 53 (0, 0)) by rw [← hw2, ← hw1]; exact ha_old _ _ _ (by simp) (ha_new _ _ _ rfl))
  have Z2 := Lib.hid (show w2.heap[w.heap.size + 1]? = some (.cells RBZ 53 (0, 0)) by rw [← hw2, ← hw1]; exact ha_new _ _ _ (by simp))
  have B2 := Lib.hid (show Below w.heap.size w w2 by rw [← hw2, ← hw1]; exact (below_new _ _).trans ((below_new _ _).mono (by simp)))
  clear hw1 hw2
  have c1 := row_cell R2.out 1 (show cs[1]? = some (.string (strB F)) by rw [CE.out]; rfl)
  have c2 := row_cell R2.out 2 (show cs[2]? = some (.int .i64 (u : Int)) by rw [CE.out]; rfl)
  go_wp2_with fail
  refine (rbytes_any F F.length rfl HF.out u HU.out k HK.out w2).mono ?_
  rw [← XE.out]
  rintro e w3 ⟨rfl, hb3⟩
  have R3 := Lib.hid (below_block hb3 (row_lt R2.out) R2.out)
  have Z3 := Lib.hid (below_block hb3 (row_lt Z2.out) Z2.out)
  have B3 := Lib.hid (B2.out.trans (hb3.mono B2.out.size))
  clear hb3 c1 c2
  have c2 := row_cell R3.out 2 (show cs[2]? = some (.int .i64 (u : Int)) by rw [CE.out]; rfl)
  have f2 := row_free R3.out 2
  go_upto_region 3 with fail
  rw [show ((u : Int) + (k : Int)) = ((u + k : Nat) : Int) by omega]
  generalize hw4 : World.setCell w3 _ _ = w4
  have G4 := Lib.hid (show w3.grownBy w4 (some w.heap.size) by rw [← hw4]; exact grown_set (World.grownBy.refl _ _) _ _)
  obtain ⟨ds, hds⟩ : ∃ ds, ds = RBC m F (u + k) A n c := ⟨_, rfl⟩
  have DE := Lib.hid hds
  have R4 := Lib.hid (show w4.heap[w.heap.size]? = some (.cells ds 53 (0, 0)) by rw [← hw4, heap_setCell_same _ _ _ _ _ _ R3.out, CE.out, hds]; rfl)
  have Z4 := Lib.hid (grown_block G4.out (by simp) Z3.out)
  have B4 := Lib.hid (B3.out.trans (grown_below G4.out B3.out.size (by rintro x ⟨⟩; exact Nat.le_refl _)))
  have DZ := Lib.hid (show (Try.prog.info? 53).map (·.size) = some ds.size by rw [hds]; exact info_rbx)
  have DO := Lib.hid (show ds.all (·.oneCell') = true by rw [hds]; exact RBC_one _ _ _ _ _ _)
  have DS := Lib.hid (show ds.size = 4 by rw [hds]; rfl)
  clear hw4 hds c2 f2
  go_wp2_with (first
    | (refine wpList_val rfl (run_load_row 53 (.tmp 2) rfl w.heap.size rfl 53 ds (0, 0) _ R4.out Try.underlying53 rfl DZ.out) ?_)
    | (refine wpList_store_whole rfl rfl 53 (.tmp 4) (.tmp 18) rfl (w.heap.size + 1) ds rfl rfl 53 RBZ Z4.out DZ.out (by rw [DS.out]; rfl) DO.out ?_; intro w5 hz5 hg5 _))
  refine ret_rbx (w.heap.size + 1) ds _ rfl rfl rfl rfl hz5 DS.out ⟨by rw [DE.out]; rfl, B4.out.trans (grown_below hg5 B4.out.size (by rintro x ⟨⟩; omega))⟩
/-- Is it one that was sealed. -/
def knownR (L : List REnt) (x : List UInt8) : Bool := L.any fun p => decide (p.x = x)
theorem rng_cell {W : World} {A : Option Addr} {L : List REnt} (h : RdV W A (EC L)) {j : Nat} {p : REnt} (hp : L[j]? = some p) : ∃ b o, A = some ⟨b, o, none⟩ ∧ ∀ i v, (RowE p)[i]? = some v → W.cell? ⟨b, o + j * 4 + i, none⟩ = some v := by
  obtain ⟨b, o, e, _⟩ := h (j * 4 + 0) (.string (strB p.x)) (by rw [EC_get L j 0 (by omega) p hp]; rfl)
  refine ⟨b, o, e, fun i v hi => ?_⟩
  have hi4 : i < 4 := by have := (List.getElem?_eq_some_iff.1 hi).1; simpa [RowE] using this
  obtain ⟨b', o', e', hc⟩ := h (j * 4 + i) v (by rw [EC_get L j i hi4 p hp]; exact hi)
  rw [e] at e'
  cases e'
  rw [Nat.add_assoc]
  exact hc
set_option maxRecDepth 100000 in
set_option maxHeartbeats 4000000 in
theorem rknown_any (m : Nat) (F : List UInt8) (u : Nat) (A : Option Addr) (n c : Nat) (L : List REnt) (hn : L.length = n) (w : World) (hR : RdV w A (EC L)) (x : List UInt8) (hm : n ≤ 1000000) :
    Calls Try.prog 20 #[.agg (RBC m F u A n c), .string (strB x)] w fun e w' => e = .returned (.bool (knownR L x)) ∧ Below w.heap.size w w' := by
  have IE := Lib.hid (show (Try.prog.info? 57).map (·.size) = some 4 by kernel_rfl)
  have HN := Lib.hid hn
  have RL := Lib.hid hR
  have nb : (n : Int) ≤ 1000000 := by omega
  obtain ⟨cs, hcs⟩ : ∃ cs, cs = RBC m F u A n c := ⟨_, rfl⟩
  have CE := Lib.hid hcs
  rw [← hcs]
  clear hn hR hcs hm
  go_enter Try.func20, Try.ntmps20
  go_upto_region 1 with fail
  generalize hw1 : World.alloc w _ = w1
  have R1 := Lib.hid (show w1.heap[w.heap.size]? = some (.cells cs 53 (0, 0)) by rw [← hw1]; exact ha_new _ _ _ rfl)
  have B1 := Lib.hid (show Below w.heap.size w w1 by rw [← hw1]; exact below_new _ _)
  have RL := Lib.hid (show RdV w1 A (EC L) from fun j v hj => by
    obtain ⟨b, o, e, hc⟩ := RL.out j v hj
    exact ⟨b, o, e, (grown_of_below B1.out).cell hc (fun er => by cases er)⟩)
  clear hw1
  have c3 := row_cell R1.out 3 (show cs[3]? = some (.slice A n c) by rw [CE.out]; rfl)
  go_wp2_with fail
  go_loopw [5] (fun i wr => ∃ j : Nat, j ≤ n ∧ i = .int .i64 (j : Int) ∧ knownR (L.take j) x = false ∧ wr = w1) (fun i _ => n - (intOf i).toNat)
  case atStart => exact ⟨0, by omega, rfl, rfl, rfl⟩
  case round =>
    obtain ⟨j, hj, rfl, hk, hwr⟩ := hrel
    rw [hwr]
    clear hwr wr
    have J := Lib.hid hj
    have K := Lib.hid hk
    clear hj hk
    by_cases hlt : j < n
    · have hD : decide ((j : Int) < (n : Int)) = true := by simp; omega
      obtain ⟨p, hp⟩ : ∃ p, L[j]? = some p := ⟨_, List.getElem?_eq_getElem (by rw [HN.out]; exact hlt)⟩
      obtain ⟨b, o, hA, hc⟩ := rng_cell RL.out hp
      have AE := Lib.hid hA
      have C0 := Lib.hid (hc 0 _ rfl)
      have LT := Lib.hid hlt
      have KN := Lib.hid (show knownR (L.take (j + 1)) x = decide (p.x = x) by
        rw [knownR, List.take_succ_eq_append_getElem (by rw [HN.out]; exact hlt), List.any_append]
        have h1 : (L.take j).any (fun p => decide (p.x = x)) = false := K.out
        have h2 : L[j]'(by rw [HN.out]; exact hlt) = p := by
          rw [List.getElem?_eq_getElem (by rw [HN.out]; exact hlt)] at hp
          exact Option.some.inj hp
        rw [h1, h2]
        simp)
      have KT := Lib.hid (show p.x = x → knownR L x = true from fun e => by
        simp only [knownR, List.any_eq_true, decide_eq_true_eq]
        exact ⟨p, List.mem_of_getElem? hp, e⟩)
      obtain ⟨y, hy⟩ : ∃ y, y = p.x := ⟨_, rfl⟩
      rw [← hy] at C0 KN KT
      clear hp hA hc hlt hy
      by_cases hq : y = x
      · have HQ := Lib.hid hq
        go_wp2_with (first
          | (refine wpList_val rfl (run_iaddr_slk 51 (.tmp 14) (.tmp 15) rfl 57 Try.underlying51 4 IE.out b o n c j LT.out .i64 _ rfl (by rw [← AE.out]; rfl) rfl _) ?_)
          | (refine wpList_val rfl (run_cell 9 (.tmp 17) rfl _ Try.underlying9 rfl rfl C0.out) ?_)
          | (refine wpList_val rfl (run_eqstr_true 9 _ (.tmp 18) (.tmp 19) rfl y x HQ.out rfl rfl _) ?_))
        go_ret
        exact ⟨by rw [KT.out HQ.out]; rfl, B1.out⟩
      · have HQ := Lib.hid hq
        go_wp2_with (first
          | (refine wpList_val rfl (run_iaddr_slk 51 (.tmp 14) (.tmp 15) rfl 57 Try.underlying51 4 IE.out b o n c j LT.out .i64 _ rfl (by rw [← AE.out]; rfl) rfl _) ?_)
          | (refine wpList_val rfl (run_cell 9 (.tmp 17) rfl _ Try.underlying9 rfl rfl C0.out) ?_)
          | (refine wpList_val rfl (show (execOp _ _).run _ _ = .ok (.value (.bool false)) _ from (run_eqstr 9 _ (.tmp 18) (.tmp 19) rfl y x rfl rfl _).trans (by rw [decide_eq_false HQ.out])) ?_))
        go_roundw
        case rel => exact ⟨j + 1, by have := LT.out; omega, by go_num, by rw [KN.out]; exact decide_eq_false HQ.out, trivial⟩
        case measure => have := LT.out; simp [intOf]; omega
    · have hD : decide ((j : Int) < (n : Int)) = false := by simp; omega
      have KF := Lib.hid (show knownR L x = false by
        have := K.out
        rwa [List.take_of_length_le (by rw [HN.out]; omega)] at this)
      go_wp2_with fail
      go_ret
      exact ⟨by rw [KF.out]; rfl, B1.out⟩
end Go.Proofs.Ytldjiigkebkgcaa

/- append at slices of structs. No condition but those each theorem states. -/
namespace Go.Proofs.Ytldjiigkebkgcaa
set_option linter.unusedVariables false
set_option linter.unusedSimpArgs false
open Go.RowKit

/-- A slice type's rows of the program's table: elements of sz cells, of so many bytes. -/
structure SlK (P : Program) (t e : TypeId) (z : Value) (sz b : Nat) : Prop where
  ht : P.underlying t = some (.slice e)
  hinfo : (P.info? e).map (fun i => (i.zero, i.size, i.bytes)) = some (some z, sz, b)
  hz : z.cells.size = sz
  h0 : 0 < sz
def OwnK (w : World) (base : Nat) (e : TypeId) (sz : Nat) (v : Value) (n : Nat) (l : List Value) : Prop := w.ownsRow base e sz v n l
theorem OwnK.read {w : World} {base : Nat} {e : TypeId} {sz : Nat} {v : Value} {n : Nat} {l : List Value} (h : OwnK w base e sz v n l) :
    l.length = n * sz ∧ ∃ A c, v = .slice A n c ∧ RdV w A l ∧ n ≤ c ∧ c ≤ 9223372036854775807 ∧ ∀ a, A = some a → base ≤ a.block ∧ a.block < w.heap.size := by
  have h' := h
  refine ⟨h.1, ?_⟩
  rcases h'.2 with ⟨hv, hn⟩ | ⟨g, cap, cur, hv, hb, hh, hnc, hcm, hcs, _⟩
  · exact ⟨none, 0, by rw [hv, hn], fun j v hj => by have := (List.getElem?_eq_some_iff.1 hj).1; have := h.1; rw [hn] at this; omega, by omega, by omega, fun a e => by cases e⟩
  · refine ⟨_, cap, hv, fun j u hj => ⟨g, 0, rfl, ?_⟩, hnc, by simpa [maxLen] using hcm, fun a e => by cases e; exact ⟨hb, row_lt hh⟩⟩
    have := World.ownsRow.cells h (g := g) (by rw [hv]; rfl) j _ hj
    rwa [add_at] at this
theorem OwnK.nil (w : World) (base : Nat) (e : TypeId) (sz : Nat) : OwnK w base e sz (.slice none 0 0) 0 [] := World.ownsRow_nil _ _ _ _
theorem OwnK.made (w : World) (base : Nat) (e : TypeId) (sz : Nat) (hb : base ≤ w.heap.size) : OwnK (w.alloc (.cells #[] e)) base e sz (.slice (some ⟨w.heap.size, 0, none⟩) 0 0) 0 [] := World.ownsRow_made w #[] 0 hb (Nat.zero_le _) (by simp)
theorem OwnK.lt {w : World} {base : Nat} {e : TypeId} {sz : Nat} {v : Value} {n : Nat} {l : List Value} (h : OwnK w base e sz v n l) : ∀ k, v.ownBlock = some k → base ≤ k ∧ k < w.heap.size := World.ownsRow.lt h
theorem OwnK.grown {w w' : World} {base : Nat} {e : TypeId} {sz : Nat} {v : Value} {n : Nat} {l : List Value} {r : Option Nat} (h : OwnK w base e sz v n l) (hg : w.grownBy w' r) (hne : v.ownBlock = none ∨ v.ownBlock ≠ r) : OwnK w' base e sz v n l := World.ownsRow.kept h hg hne
theorem OwnK.below {w w' : World} {base : Nat} {e : TypeId} {sz : Nat} {v : Value} {n : Nat} {l : List Value} (h : OwnK w base e sz v n l) (hb : Below w.heap.size w w') : OwnK w' base e sz v n l := h.grown (grown_of_below hb) (by cases v.ownBlock <;> simp)
theorem OwnK.mono {w : World} {base base' : Nat} {e : TypeId} {sz : Nat} {v : Value} {n : Nat} {l : List Value} (h : OwnK w base e sz v n l) (hb : base' ≤ base) : OwnK w base' e sz v n l := by
  refine ⟨h.1, ?_⟩
  rcases h.2 with h2 | ⟨g, cap, cur, hv, hg, r⟩
  · exact .inl h2
  · exact .inr ⟨g, cap, cur, hv, Nat.le_trans hb hg, r⟩
/-- append(v, ys...): the run. -/
theorem run_appK {P : Program} {t e : TypeId} {z : Value} {sz bt : Nat} (T : SlK P t e z sz bt) (ty : TypeId) (W : World) (base : Nat) (v : Value) (n : Nat) (l ys : List Value) (A : Option Addr) (m c : Nat) (hm : ys.length = m * sz) (HO : OwnK W base e sz v n l) (HR : RdV W A ys) (h1 : ∀ u ∈ ys, u.oneCell' = true)
    (hbase : base ≤ W.heap.size) (hl : n + m ≤ 9223372036854775807) (hl2 : (n + m) * bt ≤ 140737488355328) :
    ∃ v1 w1, (Builtin.append_ #[t, t] ty #[v, .slice A m c]).run P W = .ok v1 w1 ∧ OwnK w1 base e sz v1 (n + m) (l ++ ys) ∧ W.grownBy w1 v.ownBlock ∧ (v1.ownBlock = v.ownBlock ∨ v1.ownBlock = some W.heap.size) := by
  obtain ⟨i0, hi, hzz⟩ := Option.map_eq_some_iff.1 T.hinfo
  simp only [Prod.mk.injEq] at hzz
  obtain ⟨hz0, hz1, hz2⟩ := hzz
  have ht := T.ht
  have h0 := T.h0
  rcases ys with _ | ⟨y, r⟩
  · have hm0 : m = 0 := by
      rcases Nat.eq_zero_or_pos m with h | h
      · exact h
      · have := Nat.mul_pos h h0; simp at hm; omega
    subst hm0
    rcases A with _ | ad
    · refine ⟨v, W, ?_, by simpa using HO, World.grownBy.refl W _, .inl rfl⟩
      rcases HO.2 with ⟨rfl, hn⟩ | ⟨g, cap, cur, rfl, _, _, hnc, _⟩
      · simp [Builtin.append_, run_underlying ht, sizeOf, typeInfo, hi, Builtin.lenOf, Builtin.firstCells]
      · simp [Builtin.append_, run_underlying ht, sizeOf, typeInfo, hi, Builtin.lenOf, Builtin.firstCells, hnc, storeCells]
    · obtain ⟨v1, w1, hr, h2, h3, _, h5⟩ := run_append_own_at (P := P) W base t ty e i0 z sz bt ht hi hz0 hz1 hz2 T.hz h0 v n l HO ad 0 c [] (by simp) (by simp) (by simp) (by simpa [maxLen] using hl) (by simpa using hl2) hbase
      exact ⟨v1, w1, hr, by simpa [OwnK] using h2, h3, h5⟩
  · obtain ⟨b, o, rfl, _⟩ := HR 0 y (by simp)
    obtain ⟨v1, w1, hr, h2, h3, _, h5⟩ := run_append_own_at (P := P) W base t ty e i0 z sz bt ht hi hz0 hz1 hz2 T.hz h0 v n l HO ⟨b, o, none⟩ m c (y :: r) hm
      (fun j u hu => by
        obtain ⟨b', o', e', hc'⟩ := HR j u hu
        injection e' with e'
        injection e' with e1 e2
        subst e1 e2
        rw [add_at, hc']) h1 (by simpa [maxLen] using hl) hl2 hbase
    exact ⟨v1, w1, hr, h2, h3, h5⟩
section
variable {P : Program} {ops : Array Oper} {rest : List Oper} {o : Oper} {a : Act} {Q : Exit → Act → World → Prop} {K : Act → World → Prop} {E : Prop} {t e : TypeId} {z : Value} {sz bt : Nat}
theorem appK_wp (T : SlK P t e z sz bt) (s x : Operand) (ho : o.op = .call { callee := .builtin .append, args := #[s, x], argTypes := #[t, t] }) {W : World}
    (base : Nat) (v : Value) (n : Nat) (l ys : List Value) (A : Option Addr) (m c : Nat) (hs : a.eval s = v) (hx : a.eval x = .slice A m c) (hm : ys.length = m * sz) (HO : OwnK W base e sz v n l) (HR : RdV W A ys) (h1 : ∀ u ∈ ys, u.oneCell' = true) (hbase : base ≤ W.heap.size) (hl : n + m ≤ 9223372036854775807) (hl2 : (n + m) * bt ≤ 140737488355328)
    (h : ∀ v1 w1, OwnK w1 base e sz v1 (n + m) (l ++ ys) → W.grownBy w1 v.ownBlock → (v1.ownBlock = v.ownBlock ∨ v1.ownBlock = some W.heap.size) → K (a.put o.dst v1) w1) : o.wp P a W K Q := by
  obtain ⟨v1, w1, hr, h2, h3, h5⟩ := run_appK T o.type W base v n l ys A m c hm HO HR h1 hbase hl hl2
  unfold Oper.wp execOp
  simp only [ho, resolve, invoke, builtin, Sem.run_bind, Sem.run_pure, Result.andThen_ok, List.map_toArray, List.map_cons, List.map_nil, hs, hx, hr]
  exact h v1 w1 h2 h3 h5
/-- append(v, ys...) at a list of operations. -/
theorem appK_list (hgd : o.guard = none) (T : SlK P t e z sz bt) (s x : Operand) (ho : o.op = .call { callee := .builtin .append, args := #[s, x], argTypes := #[t, t] }) {W : World}
    (base : Nat) (v : Value) (n : Nat) (l ys : List Value) (A : Option Addr) (m c : Nat) (hs : a.eval s = v) (hx : a.eval x = .slice A m c) (hm : ys.length = m * sz) (HO : OwnK W base e sz v n l) (HR : RdV W A ys) (h1 : ∀ u ∈ ys, u.oneCell' = true) (hbase : base ≤ W.heap.size) (hl : n + m ≤ 9223372036854775807) (hl2 : (n + m) * bt ≤ 140737488355328)
    (h : ∀ v1 w1, OwnK w1 base e sz v1 (n + m) (l ++ ys) → W.grownBy w1 v.ownBlock → (v1.ownBlock = v.ownBlock ∨ v1.ownBlock = some W.heap.size) → wpList P ops Q rest (a.put o.dst v1) w1) : wpList P ops Q (o :: rest) a W :=
  wpList_plain hgd fun _ hK => appK_wp T s x ho base v n l ys A m c hs hx hm HO HR h1 hbase hl hl2 (fun v1 w1 h1 h2 h3 => hK _ _ (h v1 w1 h1 h2 h3))
end
end Go.Proofs.Ytldjiigkebkgcaa

/- The document's numbers: digits to the base 256, the lowest first. -/
namespace Go.Proofs.Ytldjiigkebkgcaa
set_option linter.unusedVariables false
set_option linter.unusedSimpArgs false
open Go.RowKit
attribute [local go_sem ↓] Go.wp_at_zero Go.wp_at_succ

def valB : List Nat → Nat
  | [] => 0
  | d :: l => d + 256 * valB l
theorem valB_append (a b : List Nat) : valB (a ++ b) = valB a + 256 ^ a.length * valB b := by
  induction a with
  | nil => simp [valB]
  | cons d a ih =>
    rw [List.cons_append, valB, valB, ih, List.length_cons, Nat.pow_succ]
    grind
theorem valB_drop (l : List Nat) (i : Nat) : valB (l.drop i) = l.getD i 0 + 256 * valB (l.drop (i + 1)) := by
  by_cases hi : i < l.length
  · rw [List.drop_eq_getElem_cons hi, valB]
    simp [List.getD_eq_getElem?_getD, hi]
  · rw [List.drop_of_length_le (by omega), List.drop_of_length_le (by omega)]
    simp [valB, List.getD_eq_getElem?_getD, List.getElem?_eq_none (show l.length ≤ i by omega)]
theorem valB_bytes (l : List UInt8) : valB (l.map (·.toNat)) = leNat l := by
  induction l with
  | nil => rfl
  | cons c l ih => rw [List.map_cons, valB, leNat, ih]
def NumV (l : List Nat) : List Value := l.map fun n : Nat => Value.int .i64 (n : Int)
theorem NumV_length (l : List Nat) : (NumV l).length = l.length := by simp [NumV]
theorem NumV_get (l : List Nat) (i : Nat) (h : i < l.length) : (NumV l)[i]? = some (.int .i64 ((l.getD i 0 : Nat) : Int)) := by simp [NumV, h]
theorem NumV_append (a b : List Nat) : NumV (a ++ b) = NumV a ++ NumV b := by simp [NumV]
set_option maxRecDepth 100000 in
set_option maxHeartbeats 1000000 in
theorem digit_any (l : List Nat) (A : Option Addr) (n c : Nat) (hn : l.length = n) (i : Nat) (w : World) (hR : RdV w A (NumV l)) :
    Calls Try.prog 83 #[.slice A n c, .int .i64 (i : Int)] w fun e w' => e = .returned (.int .i64 ((l.getD i 0 : Nat) : Int)) ∧ w' = w := by
  have HN := Lib.hid hn
  have HR := Lib.hid hR
  clear hn hR
  go_enter Try.func83, Try.ntmps83
  by_cases h : i < n
  · have hD : decide ((i : Int) < (n : Int)) = true := by simp; omega
    obtain ⟨b, o, rfl, hc⟩ := HR.out i _ (NumV_get l i (by rw [HN.out]; exact h))
    go_wp2_with fail
    go_ret
    exact ⟨rfl, rfl⟩
  · have hD : decide ((i : Int) < (n : Int)) = false := by simp; omega
    have e : Hid (l.getD i 0 = 0) := by show _ = _; rw [List.getD_eq_getElem?_getD, List.getElem?_eq_none (by rw [HN.out]; omega)]; rfl
    go_wp2_with fail
    go_ret
    rw [e.out]
    exact ⟨rfl, rfl⟩
end Go.Proofs.Ytldjiigkebkgcaa

/- The document's numbers: carried. -/
namespace Go.Proofs.Ytldjiigkebkgcaa
set_option linter.unusedVariables false
set_option linter.unusedSimpArgs false
open Go.RowKit
attribute [local go_sem ↓] Go.wp_at_zero Go.wp_at_succ

/-- What a sum of numbers comes to. -/
structure Digs (l : List Nat) (x m : Nat) : Prop where
  val : valB l = x
  dig : ∀ d ∈ l, d < 256
  len : m ≤ l.length
  top : l.length ≤ m ∨ 256 ^ (l.length - 1) ≤ x
theorem numT : SlT Try.prog 133 3 (.int .i64 0) 8 := ⟨Try.underlying133, by kernel_rfl, by rfl⟩
theorem NumV_one (l : List Nat) : ∀ u ∈ NumV l, u.oneCell' = true := by
  intro u hu
  simp only [NumV, List.mem_map] at hu
  obtain ⟨q, _, rfl⟩ := hu
  rfl
/-- While it is carried. -/
structure CarS (l : List Nat) (o : List Nat) (c : Nat) : Prop where
  val : valB o + 256 ^ o.length * (c + valB (l.drop o.length)) = valB l
  dig : ∀ d ∈ o, d < 256
  cb : c ≤ 1099511627776
  top : o.length ≤ l.length ∨ 256 ^ (o.length - 1) ≤ valB l
  few : o.length ≤ l.length ∨ o.length + c ≤ l.length + 1099511627776
theorem CarS.start (l : List Nat) : CarS l [] 0 := ⟨by simp [valB], by simp, by omega, by simp, by simp⟩
theorem getD_le {l : List Nat} {B : Nat} (h : ∀ d ∈ l, d ≤ B) (i : Nat) : l.getD i 0 ≤ B := by
  by_cases hi : i < l.length
  · rw [List.getD_eq_getElem?_getD, List.getElem?_eq_getElem hi]
    exact h _ (List.getElem_mem hi)
  · rw [List.getD_eq_getElem?_getD, List.getElem?_eq_none (by omega)]
    exact Nat.zero_le _
theorem CarS.step {l o : List Nat} {c : Nat} (h : CarS l o c) (hl : ∀ d ∈ l, d ≤ 1099511627776) (hgo : o.length < l.length ∨ 0 < c) : CarS l (o ++ [(c + l.getD o.length 0) % 256]) ((c + l.getD o.length 0) / 256) where
  val := by
    have e := h.val
    rw [valB_drop] at e
    rw [valB_append, List.length_append, List.length_singleton, ← e, valB, valB, Nat.pow_succ]
    have := Nat.div_add_mod (c + l.getD o.length 0) 256
    generalize (c + l.getD o.length 0) / 256 = q at *
    generalize (c + l.getD o.length 0) % 256 = r at *
    have e2 : c + (l.getD o.length 0 + 256 * valB (l.drop (o.length + 1))) = r + 256 * (q + valB (l.drop (o.length + 1))) := by omega
    rw [e2]
    grind
  dig := by
    intro d hd
    rcases List.mem_append.1 hd with hd | hd
    · exact h.dig d hd
    · simp at hd
      omega
  cb := by
    have := h.cb
    have := getD_le hl o.length
    omega
  top := by
    rw [List.length_append, List.length_singleton]
    by_cases h1 : o.length < l.length
    · left; omega
    · right
      have e := h.val
      rw [List.drop_of_length_le (by omega)] at e
      have hc : 0 < c := hgo.resolve_left h1
      simp only [valB, Nat.add_zero] at e
      rw [Nat.add_sub_cancel, ← e]
      have := Nat.le_mul_of_pos_right (256 ^ o.length) hc
      omega
  few := by
    rw [List.length_append, List.length_singleton]
    by_cases h1 : o.length < l.length
    · left; omega
    · right
      have hc : 0 < c := hgo.resolve_left h1
      have := h.cb
      have e : l.getD o.length 0 = 0 := by rw [List.getD_eq_getElem?_getD, List.getElem?_eq_none (by omega)]; rfl
      rw [e]
      rcases h.few with h2 | h2 <;> omega
theorem CarS.done {l o : List Nat} {c : Nat} (h : CarS l o c) (h1 : ¬ (o.length < l.length)) (h2 : c = 0) : Digs o (valB l) l.length := by
  refine ⟨?_, h.dig, by omega, h.top⟩
  have e := h.val
  rw [List.drop_of_length_le (by omega), h2] at e
  simpa [valB] using e
set_option maxRecDepth 100000 in
set_option maxHeartbeats 2000000 in
theorem carried_any (l : List Nat) (hl : ∀ d ∈ l, d ≤ 1099511627776) (A : Option Addr) (n c : Nat) (hn : l.length = n) (hm : n ≤ 1000) (w : World) (hR : RdV w A (NumV l)) :
    Calls Try.prog 93 #[.slice A n c] w fun e w' => ∃ v o, e = .returned v ∧ OwnV w' w.heap.size 3 v (NumV o) ∧ Digs o (valB l) n ∧ Below w.heap.size w w' := by
  have HL := Lib.hid hl
  have HN := Lib.hid hn
  have HR := Lib.hid hR
  have HM := Lib.hid hm
  have NT := Lib.hid numT
  clear hl hn hR hm
  go_enter Try.func93, Try.ntmps93
  go_wp2_with fail
  go_loopw [3, 4, 5] (fun u q i wr => ∃ (o : List Nat) (k : Nat), OwnV wr w.heap.size 3 u (NumV o) ∧ q = .int .i64 (k : Int) ∧ i = .int .i64 (o.length : Int) ∧ CarS l o k ∧ Below w.heap.size w wr) (fun _ q i _ => (n - (intOf i).toNat) * 4398046511104 + (intOf q).toNat)
  case atStart => exact ⟨[], 0, OwnV.nil _ _ _, rfl, rfl, CarS.start l, Below.refl _ _⟩
  case round =>
    obtain ⟨o, k, ho, rfl, rfl, hs, hb⟩ := hrel
    have O1 := Lib.hid ho
    have S1 := Lib.hid hs
    have B1 := Lib.hid hb
    obtain ⟨i, hi⟩ : ∃ i, i = o.length := ⟨_, rfl⟩
    rw [← hi]
    have IE := Lib.hid hi
    clear ho hs hb hi
    have kb : (k : Int) ≤ 1099511627776 := by have := S1.out.cb; omega
    have ib : (i : Int) ≤ 2199023256552 := by have := S1.out.few; have := IE.out; have := HM.out; have := HN.out; omega
    obtain ⟨d, hd⟩ : ∃ d, d = l.getD i 0 := ⟨_, rfl⟩
    have DE := Lib.hid hd
    have db : (d : Int) ≤ 1099511627776 := by have := getD_le HL.out i; omega
    clear hd
    by_cases hlt : i < n
    · have hD : decide ((i : Int) < (n : Int)) = true := by simp; omega
      have hgo := Lib.hid (show o.length < l.length ∨ 0 < k from .inl (by rw [HN.out, ← IE.out]; exact hlt))
      go_wp2_with fail
      refine (digit_any l A n c HN.out i _ (HR.out.keep B1.out)).mono ?_
      rintro e w1 ⟨rfl, rfl⟩
      rw [← DE.out]
      obtain ⟨q, hq⟩ : ∃ q, q = k + d := ⟨_, rfl⟩
      obtain ⟨q0, hq0⟩ : ∃ q0, q0 = q % 256 := ⟨_, rfl⟩
      obtain ⟨q1, hq1⟩ : ∃ q1, q1 = q / 256 := ⟨_, rfl⟩
      have e1 : (k : Int) + (d : Int) = (q : Int) := by omega
      have e2 : (q : Int) % 256 = (q0 : Int) := by omega
      have e3 : (q : Int) / 256 = (q1 : Int) := by omega
      have qb : (q : Int) ≤ 2199023255552 := by omega
      have ST := Lib.hid (show CarS l (o ++ [q0]) q1 by have := S1.out.step HL.out hgo.out; rw [← IE.out, ← DE.out, ← hq, ← hq0, ← hq1] at this; exact this)
      have Q1 := Lib.hid (show q1 ≤ 8589934592 by omega)
      have QK := Lib.hid (show ¬ i < n → q1 < k by intro h; have e : d = 0 := by rw [DE.out, List.getD_eq_getElem?_getD, List.getElem?_eq_none (by rw [HN.out]; omega)]; rfl
                                                   have := hgo.out.resolve_left (by rw [HN.out, ← IE.out]; exact h); omega)
      clear hq hq0 hq1
      go_wp2_with (refine appV_list rfl NT.out (.tmp 21) (.tmp 24) rfl w.heap.size _ (NumV o) [.int .i64 (q0 : Int)] (some ⟨_, 0, none⟩) 1 1 rfl rfl rfl (O1.out.alloc _) (RdV.one (row_cell (fr := (0, 0)) (ha_new _ _ _ rfl) 0 rfl)) (by intro u hu; simp at hu; subst hu; rfl) ?c1 ?c2 ?c3 ?_)
      case c1 => have := B1.out.size; simp; omega
      case c2 => have := IE.out; rw [NumV_length]; omega
      case c3 => have := IE.out; rw [NumV_length]; omega
      intro v1 w2 ho hg _
      have B2 := Lib.hid (B1.out.alloc B1.out.size (.cells #[.int .i64 (q0 : Int)] 3))
      have B3 := Lib.hid (B2.out.trans (grown_below hg B2.out.size (fun g e => (O1.out.lt g e).1)))
      have O2 := Lib.hid (show OwnV w2 w.heap.size 3 v1 (NumV (o ++ [q0])) by rw [NumV_append]; exact ho)
      clear ho hg
      go_wp2_with fail
      go_roundw
      case rel => exact ⟨o ++ [q0], q1, O2.out, by go_num, by rw [List.length_append, ← IE.out]; go_num, ST.out, B3.out⟩
      case measure => have := Q1.out; have := QK.out; simp [intOf]; omega
    · by_cases hk : 0 < k
      · have hD : decide ((i : Int) < (n : Int)) = false := by simp; omega
        have hE : decide ((0 : Int) < (k : Int)) = true := by simp; omega
        have hgo := Lib.hid (show o.length < l.length ∨ 0 < k from .inr hk)
        go_wp2_with fail
        refine (digit_any l A n c HN.out i _ (HR.out.keep B1.out)).mono ?_
        rintro e w1 ⟨rfl, rfl⟩
        rw [← DE.out]
        obtain ⟨q, hq⟩ : ∃ q, q = k + d := ⟨_, rfl⟩
        obtain ⟨q0, hq0⟩ : ∃ q0, q0 = q % 256 := ⟨_, rfl⟩
        obtain ⟨q1, hq1⟩ : ∃ q1, q1 = q / 256 := ⟨_, rfl⟩
        have e1 : (k : Int) + (d : Int) = (q : Int) := by omega
        have e2 : (q : Int) % 256 = (q0 : Int) := by omega
        have e3 : (q : Int) / 256 = (q1 : Int) := by omega
        have qb : (q : Int) ≤ 2199023255552 := by omega
        have ST := Lib.hid (show CarS l (o ++ [q0]) q1 by have := S1.out.step HL.out hgo.out; rw [← IE.out, ← DE.out, ← hq, ← hq0, ← hq1] at this; exact this)
        have Q1 := Lib.hid (show q1 ≤ 8589934592 by omega)
        have QK := Lib.hid (show ¬ i < n → q1 < k by intro h; have e : d = 0 := by rw [DE.out, List.getD_eq_getElem?_getD, List.getElem?_eq_none (by rw [HN.out]; omega)]; rfl
                                                     have := hgo.out.resolve_left (by rw [HN.out, ← IE.out]; exact h); omega)
        clear hq hq0 hq1
        go_wp2_with (refine appV_list rfl NT.out (.tmp 21) (.tmp 24) rfl w.heap.size _ (NumV o) [.int .i64 (q0 : Int)] (some ⟨_, 0, none⟩) 1 1 rfl rfl rfl (O1.out.alloc _) (RdV.one (row_cell (fr := (0, 0)) (ha_new _ _ _ rfl) 0 rfl)) (by intro u hu; simp at hu; subst hu; rfl) ?c1 ?c2 ?c3 ?_)
        case c1 => have := B1.out.size; simp; omega
        case c2 => have := IE.out; rw [NumV_length]; omega
        case c3 => have := IE.out; rw [NumV_length]; omega
        intro v1 w2 ho hg _
        have B2 := Lib.hid (B1.out.alloc B1.out.size (.cells #[.int .i64 (q0 : Int)] 3))
        have B3 := Lib.hid (B2.out.trans (grown_below hg B2.out.size (fun g e => (O1.out.lt g e).1)))
        have O2 := Lib.hid (show OwnV w2 w.heap.size 3 v1 (NumV (o ++ [q0])) by rw [NumV_append]; exact ho)
        clear ho hg
        go_wp2_with fail
        go_roundw
        case rel => exact ⟨o ++ [q0], q1, O2.out, by go_num, by rw [List.length_append, ← IE.out]; go_num, ST.out, B3.out⟩
        case measure => have := Q1.out; have := QK.out; simp [intOf]; omega
      · have hD : decide ((i : Int) < (n : Int)) = false := by simp; omega
        have hE : decide ((0 : Int) < (k : Int)) = false := by simp; omega
        go_wp2_with fail
        go_ret
        exact ⟨_, o, rfl, O1.out, by have := S1.out.done (by rw [HN.out, ← IE.out]; exact hlt) (by omega); rwa [HN.out] at this, B1.out⟩
end Go.Proofs.Ytldjiigkebkgcaa

/- The document's numbers: added. -/
namespace Go.Proofs.Ytldjiigkebkgcaa
set_option linter.unusedVariables false
set_option linter.unusedSimpArgs false
open Go.RowKit
attribute [local go_sem ↓] Go.wp_at_zero Go.wp_at_succ

def tabN (f : Nat → Nat) (m : Nat) : List Nat := (List.range m).map f
theorem tabN_length (f : Nat → Nat) (m : Nat) : (tabN f m).length = m := by simp [tabN]
theorem tabN_succ (f : Nat → Nat) (m : Nat) : tabN f (m + 1) = tabN f m ++ [f m] := by simp [tabN, List.range_succ]
theorem valB_tab_add (f g : Nat → Nat) : ∀ m, valB (tabN (fun j => f j + g j) m) = valB (tabN f m) + valB (tabN g m)
  | 0 => rfl
  | m + 1 => by
    rw [tabN_succ, tabN_succ, tabN_succ, valB_append, valB_append, valB_append, valB_tab_add f g m, tabN_length, tabN_length, tabN_length]
    simp only [valB]
    grind
theorem valB_tab (a : List Nat) : ∀ m, a.length ≤ m → valB (tabN (fun j => a.getD j 0) m) = valB a := by
  have key : ∀ m, valB (tabN (fun j => a.getD j 0) m) + 256 ^ m * valB (a.drop m) = valB a := by
    intro m
    induction m with
    | zero => simp [tabN, valB]
    | succ m ih =>
      rw [tabN_succ, valB_append, tabN_length, ← ih, valB_drop a m]
      simp only [valB, Nat.pow_succ]
      grind
  intro m h
  have := key m
  rw [List.drop_of_length_le h] at this
  simpa [valB] using this
theorem tabN_le {f : Nat → Nat} {B : Nat} (h : ∀ j, f j ≤ B) (m : Nat) : ∀ d ∈ tabN f m, d ≤ B := by
  intro d hd
  simp only [tabN, List.mem_map] at hd
  obtain ⟨j, _, rfl⟩ := hd
  exact h j
set_option maxRecDepth 100000 in
set_option maxHeartbeats 2000000 in
theorem nsum_any (a b : List Nat) (ha : ∀ d ∈ a, d ≤ 255) (hb : ∀ d ∈ b, d ≤ 255) (A : Option Addr) (n c : Nat) (hn : a.length = n) (A' : Option Addr) (n' c' : Nat) (hn' : b.length = n') (hm : n ≤ 1000) (hm' : n' ≤ 1000) (w : World) (hR : RdV w A (NumV a)) (hR' : RdV w A' (NumV b)) :
    Calls Try.prog 81 #[.slice A n c, .slice A' n' c'] w fun e w' => ∃ v o, e = .returned v ∧ OwnV w' w.heap.size 3 v (NumV o) ∧ Digs o (valB a + valB b) (max n n') ∧ Below w.heap.size w w' := by
  have HA := Lib.hid ha
  have HB := Lib.hid hb
  have HN := Lib.hid hn
  have HN' := Lib.hid hn'
  have HR := Lib.hid hR
  have HR' := Lib.hid hR'
  have HM := Lib.hid hm
  have HM' := Lib.hid hm'
  have NT := Lib.hid numT
  obtain ⟨f, hf⟩ : ∃ f : Nat → Nat, f = fun j => a.getD j 0 + b.getD j 0 := ⟨_, rfl⟩
  have FE := Lib.hid hf
  have FB := Lib.hid (show ∀ j, f j ≤ 510 from fun j => by rw [hf]; have := getD_le ha j; have := getD_le hb j; show a.getD j 0 + b.getD j 0 ≤ 510; omega)
  obtain ⟨m, hmx⟩ : ∃ m, m = max n n' := ⟨_, rfl⟩
  rw [← hmx]
  have MX := Lib.hid hmx
  have M1 := Lib.hid (show m ≤ 1000 by omega)
  clear ha hb hn hn' hR hR' hm hm' hf hmx
  go_enter Try.func81, Try.ntmps81
  go_wp2_with fail
  go_loopw [5, 6] (fun u i wr => ∃ k : Nat, k ≤ m ∧ OwnV wr w.heap.size 3 u (NumV (tabN f k)) ∧ i = .int .i64 (k : Int) ∧ Below w.heap.size w wr) (fun _ i _ => 2000 - (intOf i).toNat)
  case atStart => exact ⟨0, by omega, OwnV.nil _ _ _, rfl, Below.refl _ _⟩
  case round =>
    obtain ⟨k, hk, ho, rfl, hb⟩ := hrel
    have KM := Lib.hid hk
    have O1 := Lib.hid ho
    have B1 := Lib.hid hb
    clear ho hb hk
    obtain ⟨x, hx⟩ : ∃ x, x = a.getD k 0 := ⟨_, rfl⟩
    obtain ⟨y, hy⟩ : ∃ x, x = b.getD k 0 := ⟨_, rfl⟩
    have X := Lib.hid hx
    have Y := Lib.hid hy
    have FK := Lib.hid (show f k = x + y by rw [FE.out, hx, hy])
    have xb : (x : Int) ≤ 255 := by have := getD_le HA.out k; omega
    have yb : (y : Int) ≤ 255 := by have := getD_le HB.out k; omega
    have kb : (k : Int) ≤ 1000 := by have := KM.out; have := M1.out; omega
    clear hx hy
    by_cases h1 : k < n
    · have hD : decide ((k : Int) < (n : Int)) = true := by simp; omega
      have KL := Lib.hid (show k < m by have := MX.out; omega)
      go_wp2_with fail
      refine (digit_any a A n c HN.out k _ (HR.out.keep B1.out)).mono ?_
      rintro e w1 ⟨rfl, rfl⟩
      rw [← X.out]
      go_wp2_with fail
      refine (digit_any b A' n' c' HN'.out k _ (HR'.out.keep B1.out)).mono ?_
      rintro e w1 ⟨rfl, rfl⟩
      rw [← Y.out]
      obtain ⟨q, hq⟩ : ∃ q, q = x + y := ⟨_, rfl⟩
      have e1 : (x : Int) + (y : Int) = (q : Int) := by omega
      have Q := Lib.hid (show q = f k by rw [hq, FK.out])
      clear hq
      go_wp2_with (refine appV_list rfl NT.out (.tmp 19) (.tmp 27) rfl w.heap.size _ (NumV (tabN f k)) [.int .i64 (q : Int)] (some ⟨_, 0, none⟩) 1 1 rfl rfl rfl (O1.out.alloc _) (RdV.one (row_cell (fr := (0, 0)) (ha_new _ _ _ rfl) 0 rfl)) (by intro u hu; simp at hu; subst hu; rfl) ?c1 ?c2 ?c3 ?_)
      case c1 => have := B1.out.size; simp; omega
      case c2 => rw [NumV_length, tabN_length]; omega
      case c3 => rw [NumV_length, tabN_length]; omega
      intro v1 w2 ho hg _
      have B2 := Lib.hid (B1.out.alloc B1.out.size (.cells #[.int .i64 (q : Int)] 3))
      have B3 := Lib.hid (B2.out.trans (grown_below hg B2.out.size (fun g e => (O1.out.lt g e).1)))
      have O2 := Lib.hid (show OwnV w2 w.heap.size 3 v1 (NumV (tabN f (k + 1))) by rw [tabN_succ, NumV_append, ← Q.out]; exact ho)
      clear ho hg
      go_wp2_with fail
      go_roundw
      case rel => exact ⟨k + 1, by have := KL.out; omega, O2.out, by go_num, B3.out⟩
      case measure => simp [intOf] <;> omega
    · have hD : decide ((k : Int) < (n : Int)) = false := by simp; omega
      by_cases h2 : k < n'
      · have hE : decide ((k : Int) < (n' : Int)) = true := by simp; omega
        have KL := Lib.hid (show k < m by have := MX.out; omega)
        go_wp2_with fail
        refine (digit_any a A n c HN.out k _ (HR.out.keep B1.out)).mono ?_
        rintro e w1 ⟨rfl, rfl⟩
        rw [← X.out]
        go_wp2_with fail
        refine (digit_any b A' n' c' HN'.out k _ (HR'.out.keep B1.out)).mono ?_
        rintro e w1 ⟨rfl, rfl⟩
        rw [← Y.out]
        obtain ⟨q, hq⟩ : ∃ q, q = x + y := ⟨_, rfl⟩
        have e1 : (x : Int) + (y : Int) = (q : Int) := by omega
        have Q := Lib.hid (show q = f k by rw [hq, FK.out])
        clear hq
        go_wp2_with (refine appV_list rfl NT.out (.tmp 19) (.tmp 27) rfl w.heap.size _ (NumV (tabN f k)) [.int .i64 (q : Int)] (some ⟨_, 0, none⟩) 1 1 rfl rfl rfl (O1.out.alloc _) (RdV.one (row_cell (fr := (0, 0)) (ha_new _ _ _ rfl) 0 rfl)) (by intro u hu; simp at hu; subst hu; rfl) ?c1 ?c2 ?c3 ?_)
        case c1 => have := B1.out.size; simp; omega
        case c2 => rw [NumV_length, tabN_length]; omega
        case c3 => rw [NumV_length, tabN_length]; omega
        intro v1 w2 ho hg _
        have B2 := Lib.hid (B1.out.alloc B1.out.size (.cells #[.int .i64 (q : Int)] 3))
        have B3 := Lib.hid (B2.out.trans (grown_below hg B2.out.size (fun g e => (O1.out.lt g e).1)))
        have O2 := Lib.hid (show OwnV w2 w.heap.size 3 v1 (NumV (tabN f (k + 1))) by rw [tabN_succ, NumV_append, ← Q.out]; exact ho)
        clear ho hg
        go_wp2_with fail
        go_roundw
        case rel => exact ⟨k + 1, by have := KL.out; omega, O2.out, by go_num, B3.out⟩
        case measure => simp [intOf] <;> omega
      · have hE : decide ((k : Int) < (n' : Int)) = false := by simp; omega
        have KE := Lib.hid (show k = m by have := MX.out; have := KM.out; omega)
        go_wp2_with fail
        obtain ⟨A5, c5, rfl, hr5, hl5, _, _⟩ := O1.out.read
        rw [NumV_length, tabN_length]
        refine (carried_any (tabN f k) (tabN_le (fun j => by have := FB.out j; omega) k) A5 k c5 (tabN_length _ _) (by have := KM.out; have := M1.out; omega) _ hr5).mono ?_
        rintro e w2 ⟨v, o, rfl, ho, hd, hb⟩
        have VE := Lib.hid (show valB (tabN f k) = valB a + valB b by
          rw [KE.out, FE.out, valB_tab_add, valB_tab a m (by have := MX.out; have := HN.out; omega), valB_tab b m (by have := MX.out; have := HN'.out; omega)])
        have O2 := Lib.hid (ho.mono B1.out.size)
        have D2 := Lib.hid hd
        have B2 := Lib.hid (B1.out.trans (hb.mono B1.out.size))
        clear ho hd hb
        go_wp2_with fail
        go_ret
        exact ⟨_, o, rfl, O2.out, by have := D2.out; rw [VE.out, KE.out] at this; exact this, B2.out⟩
end Go.Proofs.Ytldjiigkebkgcaa

/- The document's numbers: multiplied. -/
namespace Go.Proofs.Ytldjiigkebkgcaa
set_option linter.unusedVariables false
set_option linter.unusedSimpArgs false
open Go.RowKit
attribute [local go_sem ↓] Go.wp_at_zero Go.wp_at_succ

theorem valB_set (l : List Nat) (j x : Nat) (hj : j < l.length) : valB (l.set j (l.getD j 0 + x)) = valB l + 256 ^ j * x := by
  have e : l = l.take j ++ (l.getD j 0 :: l.drop (j + 1)) := by
    have h1 : l.drop j = l.getD j 0 :: l.drop (j + 1) := by rw [List.drop_eq_getElem_cons hj]; simp [List.getD_eq_getElem?_getD, hj]
    rw [← h1, List.take_append_drop]
  have e2 : l.set j (l.getD j 0 + x) = l.take j ++ ((l.getD j 0 + x) :: l.drop (j + 1)) := List.set_eq_take_append_cons_drop.trans (if_pos hj)
  rw [e2, valB_append, valB]
  conv => rhs; rw [e]
  rw [valB_append, valB, List.length_take, Nat.min_eq_left (by omega)]
  grind
theorem valB_take (l : List Nat) (i : Nat) (hi : i < l.length) : valB (l.take (i + 1)) = valB (l.take i) + 256 ^ i * l.getD i 0 := by
  rw [List.take_add_one, List.getElem?_eq_getElem hi]
  rw [valB_append, List.length_take, Nat.min_eq_left (by omega)]
  simp [valB, List.getD_eq_getElem?_getD, hi]
/-- While they are multiplied. -/
structure TimS (a b acc : List Nat) (i k : Nat) : Prop where
  val : valB acc = valB (a.take i) * valB b + 256 ^ i * (a.getD i 0 * valB (b.take k))
  len : acc.length = a.length + b.length
  bd : ∀ j, acc.getD j 0 ≤ 65025 * (1000 * i + k)
theorem TimS.start (a b : List Nat) : TimS a b (List.replicate (a.length + b.length) 0) 0 0 := by
  have z : ∀ n, valB (List.replicate n 0) = 0 := fun n => by
    induction n with
    | zero => rfl
    | succ n ih => rw [List.replicate_succ, valB, ih]
  refine ⟨by simp [z, valB], by simp, fun j => ?_⟩
  rw [List.getD_eq_getElem?_getD, List.getElem?_replicate]
  split <;> simp
theorem TimS.step {a b acc : List Nat} {i k : Nat} (h : TimS a b acc i k) (hi : i < a.length) (hk : k < b.length) (ha : ∀ d ∈ a, d ≤ 255) (hb : ∀ d ∈ b, d ≤ 255) : TimS a b (acc.set (i + k) (acc.getD (i + k) 0 + a.getD i 0 * b.getD k 0)) i (k + 1) where
  val := by
    rw [valB_set _ _ _ (by rw [h.len]; omega), h.val, valB_take b k hk, Nat.pow_add]
    grind
  len := by rw [List.length_set, h.len]
  bd := fun j => by
    have h1 := h.bd j
    have h2 := h.bd (i + k)
    have h3 : a.getD i 0 * b.getD k 0 ≤ 255 * 255 := Nat.mul_le_mul (getD_le ha i) (getD_le hb k)
    rw [List.getD_eq_getElem?_getD, List.getElem?_set]
    split
    · split
      · simp only [Option.getD_some]
        omega
      · simp
    · rw [← List.getD_eq_getElem?_getD]
      omega
theorem TimS.next {a b acc : List Nat} {i : Nat} (h : TimS a b acc i b.length) (hi : i < a.length) (hb : b.length ≤ 1000) : TimS a b acc (i + 1) 0 where
  val := by
    rw [h.val, List.take_length, valB_take a i hi]
    simp only [List.take_zero, valB, Nat.mul_zero, Nat.add_zero]
    grind
  len := h.len
  bd := fun j => by have := h.bd j; omega
theorem TimS.done {a b acc : List Nat} (h : TimS a b acc a.length 0) : valB acc = valB a * valB b := by
  have := h.val
  rw [List.take_length] at this
  simpa [valB] using this
def WI (l : List Nat) : Array Value := (NumV l).toArray
theorem WI_size (l : List Nat) : (WI l).size = l.length := by simp [WI, NumV]
theorem WI_get (l : List Nat) (i : Nat) (h : i < l.length) : (WI l)[i]? = some (.int .i64 ((l.getD i 0 : Nat) : Int)) := by simp [WI, NumV, h]
theorem WI_set (l : List Nat) (i x : Nat) : (WI l).setIfInBounds i (.int .i64 (x : Int)) = WI (l.set i x) := by simp [WI, NumV, List.map_set]
theorem made_WI (n : Nat) : madeCells #[Value.int .i64 0] n = WI (List.replicate n 0) := by
  rw [← Array.toArray_toList (xs := madeCells #[Value.int .i64 0] n), toList_madeCells_one]
  simp [WI, NumV]
theorem makeI_run (n : Nat) (hn : n ≤ 1000000) (W : World) : (Instr.makeSlice 133 (.int .i64 (n : Int)) (.int .i64 (n : Int))).run Try.prog W = .ok (.slice (some ⟨W.heap.size, 0, none⟩) n n) (W.alloc (.cells (WI (List.replicate n 0)) 3)) := by
  have h := Go.run_make_row' (P := Try.prog) 133 3 (.int .i64 0) 8 Try.underlying133 (by kernel_rfl) rfl .i64 .i64 n (by omega) (by omega) W
  rw [made_WI] at h
  exact h
theorem RdV.rowI {w : World} {g : Nat} {l : List Nat} {t : TypeId} {fr : Nat × Nat} (h : w.heap[g]? = Option.some (.cells (WI l) t fr)) : RdV w (Option.some ⟨g, 0, none⟩) (NumV l) := RdV.row h
/-- The call's own row. -/
structure OwI (w : World) (g : Nat) (l : List Nat) (W : World) : Prop where
  b : W.heap[g]? = some (.cells (WI l) 3 (0, 0))
  hg : w.heap.size ≤ g
  bel : Below w.heap.size w W
theorem OwI.keep {w W W' : World} {g : Nat} {l : List Nat} (h : OwI w g l W) (hb : Below W.heap.size W W') : OwI w g l W' := ⟨below_block hb (row_lt h.b) h.b, h.hg, h.bel.trans (hb.mono h.bel.size)⟩
theorem OwI.set {w W : World} {g : Nat} {l : List Nat} (h : OwI w g l W) (i x : Nat) : OwI w g (l.set i x) (W.setCell ⟨g, i, none⟩ (.int .i64 (x : Int))) where
  b := by rw [heap_setCell_same _ _ _ _ _ _ h.b, WI_set]
  hg := h.hg
  bel := h.bel.trans (grown_below (grown_set (World.grownBy.refl W (some g)) _ _) h.bel.size (by rintro k ⟨⟩; exact h.hg))
theorem muladd_ex (u x y : Nat) (hx : x ≤ 255) (hy : y ≤ 255) (hu : u ≤ 1099511627776) : ∃ z : Nat, Hid (z = u + x * y) ∧ IntKind.i64.wrap ((u : Int) + IntKind.i64.wrap ((x : Int) * (y : Int))) = (z : Int) := by
  refine ⟨_, rfl, ?_⟩
  have h : x * y ≤ 255 * 255 := Nat.mul_le_mul hx hy
  rw [← Int.natCast_mul]
  generalize x * y = m at *
  simp only [IntKind.wrap_i64]
  omega
set_option maxRecDepth 100000 in
set_option maxHeartbeats 2000000 in
theorem ntim_any (a b : List Nat) (ha : ∀ d ∈ a, d ≤ 255) (hb : ∀ d ∈ b, d ≤ 255) (A : Option Addr) (n c : Nat) (hn : a.length = n) (A' : Option Addr) (n' c' : Nat) (hn' : b.length = n') (hm : n ≤ 400) (hm' : n' ≤ 400) (w : World) (hR : RdV w A (NumV a)) (hR' : RdV w A' (NumV b)) :
    Calls Try.prog 80 #[.slice A n c, .slice A' n' c'] w fun e w' => ∃ v o, e = .returned v ∧ OwnV w' w.heap.size 3 v (NumV o) ∧ Digs o (valB a * valB b) (n + n') ∧ Below w.heap.size w w' := by
  have HA := Lib.hid ha
  have HB := Lib.hid hb
  have HN := Lib.hid hn
  have HN' := Lib.hid hn'
  have HR := Lib.hid hR
  have HR' := Lib.hid hR'
  have nb : (n : Int) ≤ 400 := by omega
  have nb' : (n' : Int) ≤ 400 := by omega
  obtain ⟨N, hN⟩ : ∃ N, N = n + n' := ⟨_, rfl⟩
  have e1 : (n : Int) + (n' : Int) = (N : Int) := by omega
  have mk := makeI_run N (by omega)
  have NE := Lib.hid hN
  have NB := Lib.hid (show n ≤ 400 ∧ n' ≤ 400 from ⟨hm, hm'⟩)
  obtain ⟨i0, hi, hz0, hz1, hz2⟩ := info_parts (show (Try.prog.info? 3).map (fun i => (i.zero, i.size, i.bytes)) = some (some (.int .i64 0), 1, 8) by kernel_rfl)
  have I0 := Lib.hid hi
  have I2 := Lib.hid hz1
  clear ha hb hn hn' hR hR' hm hm' hN hi hz0 hz1 hz2
  go_enter Try.func80, Try.ntmps80
  go_upto_region 2 with fail
  clear e1 mk
  obtain ⟨g, hg⟩ : ∃ g, g = w.heap.size := ⟨_, rfl⟩
  obtain ⟨w1, hw1⟩ : ∃ w1, w1 = w.alloc (.cells (WI (List.replicate N 0)) 3) := ⟨_, rfl⟩
  have W1 := Lib.hid (show OwI w g (List.replicate N 0) w1 by rw [hw1]; exact ⟨ha_new _ _ _ hg, by omega, (Below.refl _ _).alloc (Nat.le_refl _) _⟩)
  rw [← hg, ← hw1]
  clear hg hw1
  go_wp2_with fail
  go_loopw [6, 7] (fun i _ wr => ∃ (j : Nat) (acc : List Nat), j ≤ n ∧ i = .int .i64 (j : Int) ∧ TimS a b acc j 0 ∧ OwI w g acc wr) (fun i _ _ => n - (intOf i).toNat)
  case atStart => exact ⟨0, _, by omega, rfl, by have := TimS.start a b; rw [HN.out, HN'.out, ← NE.out] at this; exact this, W1.out⟩
  case round =>
    obtain ⟨j, acc, hj, rfl, ht, hw⟩ := hrel
    have T1 := Lib.hid ht
    have W2 := Lib.hid hw
    clear ht hw W1
    by_cases hlt : j < n
    · have hD : decide ((j : Int) < (n : Int)) = true := by simp; omega
      have JN := Lib.hid hlt
      have jb : (j : Int) ≤ 400 := by omega
      go_wp2_with fail
      clear hlt hj
      go_loopw [7] (fun u wq => ∃ (k : Nat) (acc' : List Nat), k ≤ n' ∧ u = .int .i64 (k : Int) ∧ TimS a b acc' j k ∧ OwI w g acc' wq) (fun u _ => n' - (intOf u).toNat)
      case atStart => exact ⟨0, acc, by omega, rfl, T1.out, W2.out⟩
      case round =>
        obtain ⟨k, ac, hk, rfl, ht, hw⟩ := hrel
        have T2 := Lib.hid ht
        have W3 := Lib.hid hw
        clear ht hw T1 W2 hD
        by_cases hlk : k < n'
        · have hE : decide ((k : Int) < (n' : Int)) = true := by simp; omega
          have KN := Lib.hid hlk
          have kb : (k : Int) ≤ 400 := by omega
          go_upto_region 8 with fail
          have W4 := Lib.hid (W3.out.keep (Below.refl _ _).drew)
          obtain ⟨ba, oa, rfl, hca⟩ := HR.out j _ (NumV_get a j (by rw [HN.out]; exact JN.out))
          obtain ⟨bb, ob, rfl, hcb⟩ := HR'.out k _ (NumV_get b k (by rw [HN'.out]; exact KN.out))
          obtain ⟨x, hx⟩ : ∃ x, x = a.getD j 0 := ⟨_, rfl⟩
          obtain ⟨y, hy⟩ : ∃ x, x = b.getD k 0 := ⟨_, rfl⟩
          obtain ⟨u, hu⟩ : ∃ x, x = ac.getD (j + k) 0 := ⟨_, rfl⟩
          have LA := Lib.hid (show j + k < ac.length by rw [T2.out.len, HN.out, HN'.out]; have := JN.out; have := KN.out; omega)
          have ST := Lib.hid (show TimS a b (ac.set (j + k) (u + x * y)) j (k + 1) by rw [hx, hy, hu]; exact T2.out.step (by rw [HN.out]; exact JN.out) (by rw [HN'.out]; exact KN.out) HA.out HB.out)
          rw [← hx] at hca
          rw [← hy] at hcb
          have CA := Lib.hid (fun (W : World) (hW : OwI w g ac W) => cell_grown (grown_of_below hW.bel) hca (by simp))
          have CB := Lib.hid (fun (W : World) (hW : OwI w g ac W) => cell_grown (grown_of_below hW.bel) hcb (by simp))
          have CU := Lib.hid (fun (W : World) (hW : OwI w g ac W) => (show W.cell? ⟨g, 0 + (j + k), none⟩ = some (.int .i64 (u : Int)) by rw [Nat.zero_add, hu]; exact row_cell hW.b (j + k) (WI_get _ _ LA.out)))
          have ei : Hid (IntKind.i64.wrap ((j : Int) + (k : Int)) = ((j + k : Nat) : Int)) := by show _ = _; rw [IntKind.wrap_i64]; omega
          have NL := Lib.hid (show j + k < N by have := NE.out; have := JN.out; have := KN.out; omega)
          obtain ⟨z, hz, e1⟩ := muladd_ex u x y (by rw [hx]; exact getD_le HA.out j) (by rw [hy]; exact getD_le HB.out k) (by have := T2.out.bd (j + k); rw [← hu] at this; have := NB.out; have := JN.out; have := KN.out; omega)
          clear hca hcb hx hy hu hlk hk
          refine wp_region_till (OwI w g ac) 21 [(true, 0), (true, 1), (true, 2), (true, 3), (true, 4), (true, 5), (true, 6), (true, 7), (true, 8), (true, 9), (true, 10), (true, 11), (true, 12), (true, 13), (true, 14), (true, 15), (true, 16), (true, 17), (true, 18), (true, 19), (true, 20)] _ (by kernel_rfl) (by kernel_rfl) rfl (fun _ _ d _ _ h => by cases d <;> exact h) ?_
          simp only [List.filterMap_cons, List.filterMap_nil, List.getElem?_toArray, List.getElem?_cons_zero, List.getElem?_cons_succ, Option.map_some]
          refine till_q (v := ?_) (by rfl) (W4.out) ?_ ?_
          rotate_left
          · intro W hW
            go_simp
            with_reducible rfl
          simp only [Act.put, List.setIfInBounds_toArray, List.set_cons_zero, List.set_cons_succ]
          refine till_q (v := ?_) (by rfl) (W4.out) ?_ ?_
          rotate_left
          · intro W hW
            go_simp
            with_reducible rfl
          simp only [Act.put, List.setIfInBounds_toArray, List.set_cons_zero, List.set_cons_succ]
          refine till_q (v := ?_) (by rfl) (W4.out) ?_ ?_
          rotate_left
          · intro W hW
            go_simp
            with_reducible rfl
          simp only [Act.put, List.setIfInBounds_toArray, List.set_cons_zero, List.set_cons_succ]
          refine till_q (v := ?_) (by rfl) (W4.out) ?_ ?_
          rotate_left
          · intro W hW
            go_simp
            with_reducible rfl
          simp only [Act.put, List.setIfInBounds_toArray, List.set_cons_zero, List.set_cons_succ]
          refine till_q (v := ?_) (by rfl) (W4.out) ?_ ?_
          rotate_left
          · intro W hW
            go_simp
            with_reducible rfl
          simp only [Act.put, List.setIfInBounds_toArray, List.set_cons_zero, List.set_cons_succ]
          refine till_q (v := ?_) (by rfl) (W4.out) ?_ ?_
          rotate_left
          · intro W hW
            go_simp
            with_reducible rfl
          simp only [Act.put, List.setIfInBounds_toArray, List.set_cons_zero, List.set_cons_succ]
          refine till_q (v := ?_) (by rfl) (W4.out) ?_ ?_
          rotate_left
          · intro W hW
            go_simp
            with_reducible rfl
          simp only [Act.put, List.setIfInBounds_toArray, List.set_cons_zero, List.set_cons_succ]
          refine till_q (v := ?_) (by rfl) (W4.out) ?_ ?_
          rotate_left
          · intro W hW
            go_simp
            with_reducible rfl
          simp only [Act.put, List.setIfInBounds_toArray, List.set_cons_zero, List.set_cons_succ]
          refine till_q (by rfl) (W4.out) (fun W hW => run_iaddr_sl 133 (.tmp 30) (.tmp 33) rfl 3 Try.underlying133 I0.out I2.out g 0 N N (j + k) NL.out .i64 _ ei.out rfl rfl W) ?_
          simp only [Act.put, List.setIfInBounds_toArray, List.set_cons_zero, List.set_cons_succ]
          refine till_q (by rfl) (W4.out) (fun W hW => run_cell 3 (.tmp 34) rfl _ Try.underlying3 rfl rfl (CU.out W hW)) ?_
          simp only [Act.put, List.setIfInBounds_toArray, List.set_cons_zero, List.set_cons_succ]
          refine till_q (v := ?_) (by rfl) (W4.out) ?_ ?_
          rotate_left
          · intro W hW
            go_simp
            with_reducible rfl
          simp only [Act.put, List.setIfInBounds_toArray, List.set_cons_zero, List.set_cons_succ]
          refine till_q (v := ?_) (by rfl) (W4.out) ?_ ?_
          rotate_left
          · intro W hW
            go_simp
            with_reducible rfl
          simp only [Act.put, List.setIfInBounds_toArray, List.set_cons_zero, List.set_cons_succ]
          refine till_q (by rfl) (W4.out) (fun W hW => run_iaddr_sl 133 (.tmp 36) (.tmp 37) rfl 3 Try.underlying133 I0.out I2.out ba oa n c j JN.out .i64 _ rfl rfl rfl W) ?_
          simp only [Act.put, List.setIfInBounds_toArray, List.set_cons_zero, List.set_cons_succ]
          refine till_q (by rfl) (W4.out) (fun W hW => run_cell 3 (.tmp 38) rfl _ Try.underlying3 rfl rfl (CA.out W hW)) ?_
          simp only [Act.put, List.setIfInBounds_toArray, List.set_cons_zero, List.set_cons_succ]
          refine till_q (v := ?_) (by rfl) (W4.out) ?_ ?_
          rotate_left
          · intro W hW
            go_simp
            with_reducible rfl
          simp only [Act.put, List.setIfInBounds_toArray, List.set_cons_zero, List.set_cons_succ]
          refine till_q (v := ?_) (by rfl) (W4.out) ?_ ?_
          rotate_left
          · intro W hW
            go_simp
            with_reducible rfl
          simp only [Act.put, List.setIfInBounds_toArray, List.set_cons_zero, List.set_cons_succ]
          refine till_q (by rfl) (W4.out) (fun W hW => run_iaddr_sl 133 (.tmp 40) (.tmp 41) rfl 3 Try.underlying133 I0.out I2.out bb ob n' c' k KN.out .i64 _ rfl rfl rfl W) ?_
          simp only [Act.put, List.setIfInBounds_toArray, List.set_cons_zero, List.set_cons_succ]
          refine till_q (by rfl) (W4.out) (fun W hW => run_cell 3 (.tmp 42) rfl _ Try.underlying3 rfl rfl (CB.out W hW)) ?_
          simp only [Act.put, List.setIfInBounds_toArray, List.set_cons_zero, List.set_cons_succ]
          refine till_q (v := ?_) (by rfl) (W4.out) ?_ ?_
          rotate_left
          · intro W hW
            go_simp
            with_reducible rfl
          simp only [Act.put, List.setIfInBounds_toArray, List.set_cons_zero, List.set_cons_succ]
          refine till_q (v := ?_) (by rfl) (W4.out) ?_ ?_
          rotate_left
          · intro W hW
            go_simp
            with_reducible rfl
          simp only [Act.put, List.setIfInBounds_toArray, List.set_cons_zero, List.set_cons_succ]
          clear e1
          refine till_q (by rfl) (W4.out) (fun W hW => run_iaddr_sl 133 (.tmp 26) (.tmp 29) rfl 3 Try.underlying133 I0.out I2.out g 0 N N (j + k) NL.out .i64 _ ei.out rfl rfl W) ?_
          simp only [Act.put, List.setIfInBounds_toArray, List.set_cons_zero, List.set_cons_succ]
          simp only [Nat.zero_add]
          have f4 := row_free W4.out.b (j + k)
          have a4 := row_cell W4.out.b (j + k) (WI_get _ _ LA.out)
          refine till_last (fun K hK => ?_)
          go_simp
          have H4 := Lib.hid ((W3.out.set (j + k) z).keep (Below.refl _ _).drew)
          obtain ⟨w4, hw4⟩ : ∃ w4, w4 = (wr.setCell ⟨g, j + k, none⟩ (.int .i64 (z : Int))).drew := ⟨_, rfl⟩
          rw [← hw4] at H4 ⊢
          clear hw4 f4 a4 W4 W3
          refine hK.out _ _ ?_
          clear hK K
          go_wp2_with fail
          go_roundw
          case rel => exact ⟨k + 1, _, by have := KN.out; omega, by go_num, by rw [← hz.out] at ST; exact ST.out, H4.out⟩
          case measure => have := KN.out; simp [intOf] <;> omega
        · have hE : decide ((k : Int) < (n' : Int)) = false := by simp; omega
          have KE := Lib.hid (show k = b.length by rw [HN'.out]; omega)
          go_wp2_with fail
          go_roundw
          case rel => exact ⟨j + 1, ac, by have := JN.out; omega, by go_num, by have := T2.out; rw [KE.out] at this; exact this.next (by rw [HN.out]; exact JN.out) (by rw [HN'.out]; omega), W3.out⟩
          case measure => have := JN.out; simp [intOf] <;> omega
    · have hD : decide ((j : Int) < (n : Int)) = false := by simp; omega
      have JE := Lib.hid (show j = a.length by rw [HN.out]; omega)
      go_wp2_with fail
      have DV := Lib.hid (show valB acc = valB a * valB b by have := T1.out; rw [JE.out] at this; exact this.done)
      have DL := Lib.hid (show acc.length = N by rw [T1.out.len, HN.out, HN'.out, NE.out])
      refine (carried_any acc ?dl (some ⟨g, 0, none⟩) N N DL.out (by have := NB.out; have := NE.out; omega) _ (RdV.rowI W2.out.b)).mono ?_
      case dl =>
        intro d hd
        obtain ⟨i, hi, rfl⟩ := List.mem_iff_getElem.1 hd
        have h1 := T1.out.bd i
        have h2 := NB.out
        rw [List.getD_eq_getElem?_getD, List.getElem?_eq_getElem hi, Option.getD_some] at h1
        omega
      rintro e w2 ⟨v, o, rfl, ho, hd, hb⟩
      rw [DV.out] at hd
      have O2 := Lib.hid (ho.mono W2.out.bel.size)
      have D2 := Lib.hid hd
      have B2 := Lib.hid (W2.out.bel.trans (hb.mono W2.out.bel.size))
      clear ho hd hb
      go_wp2_with fail
      go_ret
      exact ⟨_, o, rfl, O2.out, by have := D2.out; rwa [NE.out] at this, B2.out⟩
end Go.Proofs.Ytldjiigkebkgcaa

/- The document's numbers: the prime, comparing, subtracting. No condition but those each theorem states. -/
namespace Go.Proofs.Ytldjiigkebkgcaa
set_option linter.unusedVariables false
set_option linter.unusedSimpArgs false
open Go.RowKit
attribute [local go_sem ↓] Go.wp_at_zero Go.wp_at_succ

/-! ### plain -/
theorem valB_lt (l : List Nat) (h : ∀ d ∈ l, d ≤ 255) : valB l < 256 ^ l.length := by
  induction l with
  | nil => simp [valB]
  | cons d l ih =>
    have h1 := ih (fun x hx => h x (by simp [hx]))
    have h2 := h d (by simp)
    rw [valB, List.length_cons, Nat.pow_succ]
    omega
theorem valB_split (l : List Nat) (i : Nat) : valB l = valB (tabN (fun j => l.getD j 0) i) + 256 ^ i * valB (l.drop i) := by
  induction i with
  | zero => simp [tabN, valB]
  | succ m ih =>
    rw [ih, tabN_succ, valB_append, tabN_length, valB_drop l m]
    simp only [valB, Nat.pow_succ]
    grind
theorem tab_lt (l : List Nat) (h : ∀ d ∈ l, d ≤ 255) (i : Nat) : valB (tabN (fun j => l.getD j 0) i) < 256 ^ i := by
  have := valB_lt (tabN (fun j => l.getD j 0) i) (tabN_le (fun j => getD_le h j) i)
  rwa [tabN_length] at this
/-- Numbers whose higher digits are alike. -/
theorem below_at (a b : List Nat) (ha : ∀ d ∈ a, d ≤ 255) (hb : ∀ d ∈ b, d ≤ 255) (i : Nat) (hhi : valB (a.drop (i + 1)) = valB (b.drop (i + 1))) (hne : a.getD i 0 ≠ b.getD i 0) : (valB a < valB b) ↔ (a.getD i 0 < b.getD i 0) := by
  rw [valB_split a i, valB_split b i, valB_drop a i, valB_drop b i, hhi]
  have h1 := tab_lt a ha i
  have h2 := tab_lt b hb i
  generalize valB (tabN (fun j => a.getD j 0) i) = x at *
  generalize valB (tabN (fun j => b.getD j 0) i) = y at *
  generalize valB (b.drop (i + 1)) = z at *
  generalize a.getD i 0 = p at *
  generalize b.getD i 0 = q at *
  generalize 256 ^ i = m at *
  rw [Nat.mul_add, Nat.mul_add]
  generalize m * (256 * z) = t
  constructor
  · intro h
    rcases Nat.lt_or_ge p q with h3 | h3
    · exact h3
    · exfalso
      have h4 : q + 1 ≤ p := by omega
      have h5 := Nat.mul_le_mul (Nat.le_refl m) h4
      rw [Nat.mul_add, Nat.mul_one] at h5
      omega
  · intro h
    have h4 : p + 1 ≤ q := h
    have h5 := Nat.mul_le_mul (Nat.le_refl m) h4
    rw [Nat.mul_add, Nat.mul_one] at h5
    omega
def primeL : List Nat := [251, 255, 255, 255, 255, 255, 255, 255, 255, 255, 255, 255, 255, 255, 255, 255, 3]
theorem primeL_val : valB primeL = PN := by decide +kernel
theorem primeL_dig : ∀ d ∈ primeL, d ≤ 255 := by decide
/-- While a difference is taken. -/
structure LesS (a b o : List Nat) (c : Nat) : Prop where
  val : valB (tabN (fun j => a.getD j 0) o.length) + 256 ^ o.length * c = valB o + valB (tabN (fun j => b.getD j 0) o.length)
  dig : ∀ d ∈ o, d ≤ 255
  cb : c ≤ 1
theorem LesS.start (a b : List Nat) : LesS a b [] 0 := ⟨by simp [tabN, valB], by simp, by omega⟩
theorem LesS.step {a b o : List Nat} {c : Nat} (h : LesS a b o c) (ha : ∀ d ∈ a, d ≤ 255) (hb : ∀ d ∈ b, d ≤ 255) (d c' : Nat) (hd : (d : Int) = (a.getD o.length 0 : Int) - (b.getD o.length 0 : Int) - (c : Int) + 256 * (c' : Int)) (hd2 : d ≤ 255) (hc : c' ≤ 1) : LesS a b (o ++ [d]) c' where
  val := by
    rw [List.length_append, List.length_singleton, tabN_succ, tabN_succ, valB_append, valB_append, valB_append, tabN_length, tabN_length, Nat.pow_succ]
    have h1 := h.val
    simp only [valB]
    generalize valB (tabN (fun j => a.getD j 0) o.length) = x at *
    generalize valB (tabN (fun j => b.getD j 0) o.length) = y at *
    generalize valB o = z at *
    generalize a.getD o.length 0 = p at *
    generalize b.getD o.length 0 = q at *
    generalize 256 ^ o.length = m at *
    have h2 : p + 256 * c' = d + q + c := by omega
    have h3 : m * (p + 256 * c') = m * (d + q + c) := by rw [h2]
    grind
  dig := by
    intro x hx
    rcases List.mem_append.1 hx with hx | hx
    · exact h.dig x hx
    · simp at hx; omega
  cb := hc
theorem LesS.done {a b o : List Nat} {c : Nat} (h : LesS a b o c) (hl : o.length = a.length) (hle : valB b ≤ valB a) (ha : ∀ d ∈ a, d ≤ 255) : valB o = valB a - valB b := by
  have h1 := h.val
  have h2 := valB_split b o.length
  have h3 := valB_split a o.length
  have h4 : a.drop o.length = [] := List.drop_of_length_le (by omega)
  rw [h4] at h3
  have h5 := valB_lt o h.dig
  have h6 := valB_lt a ha
  rw [← hl] at h6
  have h7 : (valB [] : Nat) = 0 := rfl
  rw [h7, Nat.mul_zero, Nat.add_zero] at h3
  rw [← h3] at h1
  have hcb := h.cb
  generalize valB (tabN (fun j => b.getD j 0) o.length) = y at *
  have h8 : valB (b.drop o.length) = 0 := by
    rcases Nat.eq_zero_or_pos (valB (b.drop o.length)) with h9 | h9
    · exact h9
    · exfalso
      have := Nat.le_mul_of_pos_right (256 ^ o.length) h9
      omega
  rw [h8, Nat.mul_zero, Nat.add_zero] at h2
  obtain rfl | rfl : c = 0 ∨ c = 1 := by omega
  · omega
  · omega

/-! ### walked -/
theorem own_built (W : World) (e : TypeId) (x : Value) {base : Nat} (hb : base ≤ W.heap.size) : OwnV (W.alloc (.cells #[x] e)) base e (.slice (some ⟨W.heap.size, 0, none⟩) 1 1) [x] :=
  ⟨rfl, .inr ⟨W.heap.size, 1, #[x], rfl, hb, ha_new _ _ _ rfl, Nat.le_refl _, by decide, rfl, rfl⟩⟩
set_option maxRecDepth 100000 in
set_option maxHeartbeats 1000000 in
theorem prime_any (w : World) : Calls Try.prog 91 #[] w fun e w' => ∃ v, e = .returned v ∧ OwnV w' w.heap.size 3 v (NumV primeL) ∧ Below w.heap.size w w' := by
  have NT := Lib.hid numT
  go_enter Try.func91, Try.ntmps91
  go_wp2_with fail
  obtain ⟨w1, hw1⟩ : ∃ w1, w1 = w.alloc (.cells #[.int .i64 251] 3) := ⟨_, rfl⟩
  have O0 := Lib.hid (show OwnV w1 w.heap.size 3 (.slice (some ⟨w.heap.size, 0, none⟩) 1 1) (NumV [251]) by rw [hw1]; exact own_built w 3 _ (Nat.le_refl _))
  have S0 := Lib.hid (show Below w.heap.size w w1 by rw [hw1]; exact (Below.refl _ _).alloc (Nat.le_refl _) _)
  rw [← hw1]
  clear hw1
  go_loopw [1] (fun u wr => ∃ k : Nat, k ≤ 15 ∧ OwnV wr w.heap.size 3 u (NumV (251 :: List.replicate k 255)) ∧ Below w.heap.size w wr) (fun u _ => 16 - lenOf u)
  case atStart => exact ⟨0, by omega, O0.out, S0.out⟩
  case round =>
    obtain ⟨k, hk, ho, hb⟩ := hrel
    have K := Lib.hid hk
    have O := Lib.hid ho
    have S := Lib.hid hb
    obtain ⟨A2, c2, hu, _⟩ := ho.read
    obtain ⟨m, hm⟩ : ∃ m, m = k + 1 := ⟨_, rfl⟩
    have hl : (NumV (251 :: List.replicate k 255)).length = m := by rw [NumV_length, hm]; simp
    rw [hl] at hu
    have HL := Lib.hid hl
    have ME := Lib.hid hm
    have mb : (m : Int) ≤ 16 := by omega
    rw [hu] at O ⊢
    clear hk ho hb hu hl hm
    by_cases hlt : m < 16
    · have hD : decide ((m : Int) < 16) = true := by simp; omega
      have M16 := Lib.hid hlt
      clear hlt
      go_wp2_with (refine appV_list rfl NT.out (.tmp 6) (.tmp 7) rfl w.heap.size _ (NumV (251 :: List.replicate k 255)) [.int .i64 255] (some ⟨wr.heap.size, 0, none⟩) 1 1 rfl rfl rfl (O.out.alloc _) (RdV.one (row_cell (fr := (0, 0)) (ha_new wr _ _ rfl) 0 rfl)) (by intro u hu; simp at hu; subst hu; rfl) ?c1 ?c2 ?c3 ?_)
      case c1 => have := S.out.size; rw [ha_size]; omega
      case c2 => have := HL.out; have := M16.out; omega
      case c3 => have := HL.out; have := M16.out; omega
      intro v2 w2 ho hg _
      have B2 : Below w.heap.size w (wr.alloc (.cells #[.int .i64 255] 3)) := S.out.alloc S.out.size _
      have S2 := Lib.hid (B2.trans (grown_below hg (by rw [ha_size]; have := S.out.size; omega) (fun q e => (O.out.lt q e).1)))
      have O2 := Lib.hid (show OwnV w2 w.heap.size 3 v2 (NumV (251 :: List.replicate (k + 1) 255)) by rw [List.replicate_succ', ← List.cons_append, NumV_append]; exact ho)
      have VL := Lib.hid (show lenOf v2 = m + 1 by
        obtain ⟨A3, c3, e3, _⟩ := O2.out.read
        rw [e3]
        show (NumV (251 :: List.replicate (k + 1) 255)).length = m + 1
        rw [NumV_length, ME.out]; simp)
      clear ho hg B2 hD
      go_wp2_with fail
      go_roundw
      case rel => exact ⟨k + 1, by have := M16.out; have := ME.out; omega, O2.out, S2.out⟩
      case measure => rw [VL.out]; show 16 - (m + 1) < 16 - m; have := M16.out; omega
    · have hD : decide ((m : Int) < 16) = false := by simp; omega
      have KE := Lib.hid (show k = 15 by have := ME.out; have := K.out; omega)
      clear hlt
      go_wp2_with (refine appV_list rfl NT.out (.tmp 9) (.tmp 10) rfl w.heap.size _ (NumV (251 :: List.replicate k 255)) [.int .i64 3] (some ⟨wr.heap.size, 0, none⟩) 1 1 rfl rfl rfl (O.out.alloc _) (RdV.one (row_cell (fr := (0, 0)) (ha_new wr _ _ rfl) 0 rfl)) (by intro u hu; simp at hu; subst hu; rfl) ?d1 ?d2 ?d3 ?_)
      case d1 => have := S.out.size; rw [ha_size]; omega
      case d2 => have := HL.out; have := ME.out; have := K.out; omega
      case d3 => have := HL.out; have := ME.out; have := K.out; omega
      intro v2 w2 ho hg _
      have B2 : Below w.heap.size w (wr.alloc (.cells #[.int .i64 3] 3)) := S.out.alloc S.out.size _
      have S2 := Lib.hid (B2.trans (grown_below hg (by rw [ha_size]; have := S.out.size; omega) (fun q e => (O.out.lt q e).1)))
      have O2 := Lib.hid (show OwnV w2 w.heap.size 3 v2 (NumV primeL) by rw [KE.out] at ho; exact ho)
      clear ho hg B2 hD
      go_wp2_with fail
      go_ret
      exact ⟨_, rfl, O2.out, S2.out⟩
set_option maxRecDepth 100000 in
set_option maxHeartbeats 1000000 in
theorem below_any (a b : List Nat) (ha : ∀ d ∈ a, d ≤ 255) (hb : ∀ d ∈ b, d ≤ 255) (A : Option Addr) (n c : Nat) (hn : a.length = n) (A' : Option Addr) (n' c' : Nat) (hn' : b.length = n') (hm : n ≤ 1000) (hm' : n' ≤ 1000) (w : World) (hR : RdV w A (NumV a)) (hR' : RdV w A' (NumV b)) :
    Calls Try.prog 90 #[.slice A n c, .slice A' n' c'] w fun e w' => e = .returned (.bool (decide (valB a < valB b))) ∧ w' = w := by
  have HA := Lib.hid ha
  have HB := Lib.hid hb
  have HN := Lib.hid hn
  have HN' := Lib.hid hn'
  have HR := Lib.hid hR
  have HR' := Lib.hid hR'
  obtain ⟨m, hmx⟩ : ∃ m, m = max n n' := ⟨_, rfl⟩
  have e1 : (if n < n' then (n' : Int) else (n : Int)) = (m : Int) := by split <;> omega
  have M1 := Lib.hid (show m ≤ 1000 by omega)
  have ML := Lib.hid (show n ≤ m ∧ n' ≤ m by omega)
  obtain ⟨r, hr⟩ : ∃ r, r = decide (valB a < valB b) := ⟨_, rfl⟩
  rw [← hr]
  have RE := Lib.hid hr
  have mb : (m : Int) ≤ 1000 := by omega
  clear ha hb hn hn' hm hm' hR hR' hmx hr
  go_enter Try.func90, Try.ntmps90
  go_wp2_with fail
  clear e1
  go_loopw [5] (fun i wr => ∃ k : Nat, k ≤ m ∧ i = .int .i64 ((k : Int) - 1) ∧ valB (a.drop k) = valB (b.drop k) ∧ wr = w) (fun i _ => (intOf i + 1).toNat)
  case atStart => exact ⟨m, Nat.le_refl _, rfl, by rw [List.drop_of_length_le (by rw [HN.out]; exact ML.out.1), List.drop_of_length_le (by rw [HN'.out]; exact ML.out.2)], rfl⟩
  case round =>
    obtain ⟨k, hk, rfl, hv, hw⟩ := hrel
    rw [hw]
    clear hw wr
    have V := Lib.hid hv
    clear hv
    rcases k with _ | k
    · have hD : decide ((0 : Int) ≤ (((0 : Nat) : Int) - 1)) = false := by decide
      have R0 := Lib.hid (show r = false by
        rw [RE.out]
        have := V.out
        simp only [List.drop_zero] at this
        simp [this])
      go_wp2_with fail
      go_ret
      exact ⟨by rw [R0.out]; rfl, rfl⟩
    · have hc : (((k + 1 : Nat) : Int) - 1) = (k : Int) := by omega
      rw [hc]
      have hD : decide ((0 : Int) ≤ (k : Int)) = true := by simp
      have kb : (k : Int) ≤ 1000 := by have := M1.out; omega
      obtain ⟨x, hx⟩ : ∃ x, x = a.getD k 0 := ⟨_, rfl⟩
      obtain ⟨y, hy⟩ : ∃ y, y = b.getD k 0 := ⟨_, rfl⟩
      have DA := Lib.hid (digit_any a A n c HN.out k w HR.out)
      have DB := Lib.hid (digit_any b A' n' c' HN'.out k w HR'.out)
      rw [← hx] at DA
      rw [← hy] at DB
      have XE := Lib.hid hx
      have YE := Lib.hid hy
      have xb : (x : Int) ≤ 255 := by have := getD_le HA.out k; omega
      have yb : (y : Int) ≤ 255 := by have := getD_le HB.out k; omega
      clear hc hx hy
      go_wp2_with fail
      refine DA.out.mono ?_
      rintro e w1 ⟨rfl, hw⟩
      rw [hw]
      clear hw w1
      go_wp2_with fail
      refine DB.out.mono ?_
      rintro e w1 ⟨rfl, hw⟩
      rw [hw]
      clear hw w1
      by_cases hxy : x = y
      · have hE : (((x : Int)) != (y : Int)) = false := by simp; omega
        have hE2 : decide (x = y) = true := by simp [hxy]
        have V2 := Lib.hid (show valB (a.drop k) = valB (b.drop k) by rw [valB_drop a, valB_drop b, V.out, ← XE.out, ← YE.out, hxy])
        clear hxy
        go_wp2_with fail
        go_roundw
        case rel => exact ⟨k, by omega, by go_num, V2.out, trivial⟩
        case measure => simp [intOf]
      · have hE : (((x : Int)) != (y : Int)) = true := by simp; omega
        have hE2 : decide (x = y) = false := by simp [hxy]
        have R2 := Lib.hid (show r = decide (x < y) by
          rw [RE.out, XE.out, YE.out]
          have := below_at a b HA.out HB.out k V.out (by rw [← XE.out, ← YE.out]; exact hxy)
          rw [decide_eq_decide]
          exact this)
        clear hxy
        go_wp2_with fail
        refine DA.out.mono ?_
        rintro e w1 ⟨rfl, hw⟩
        rw [hw]
        clear hw w1
        go_wp2_with fail
        refine DB.out.mono ?_
        rintro e w1 ⟨rfl, hw⟩
        rw [hw]
        clear hw w1
        go_wp2_with fail
        go_ret
        exact ⟨by rw [R2.out]; simp, rfl⟩
set_option maxRecDepth 100000 in
set_option maxHeartbeats 2000000 in
theorem less_any (a b : List Nat) (ha : ∀ d ∈ a, d ≤ 255) (hb : ∀ d ∈ b, d ≤ 255) (hle : valB b ≤ valB a) (A : Option Addr) (n c : Nat) (hn : a.length = n) (A' : Option Addr) (n' c' : Nat) (hn' : b.length = n') (hm : n ≤ 1000) (hm' : n' ≤ 1000) (w : World) (hR : RdV w A (NumV a)) (hR' : RdV w A' (NumV b)) :
    Calls Try.prog 92 #[.slice A n c, .slice A' n' c'] w fun e w' => ∃ v o, e = .returned v ∧ OwnV w' w.heap.size 3 v (NumV o) ∧ o.length = n ∧ (∀ d ∈ o, d ≤ 255) ∧ valB o = valB a - valB b ∧ Below w.heap.size w w' := by
  have HA := Lib.hid ha
  have HB := Lib.hid hb
  have HN := Lib.hid hn
  have HN' := Lib.hid hn'
  have HR := Lib.hid hR
  have HR' := Lib.hid hR'
  have HLE := Lib.hid hle
  have NT := Lib.hid numT
  have nb : (n : Int) ≤ 1000 := by omega
  have HM := Lib.hid hm
  clear ha hb hn hn' hm hm' hR hR' hle
  go_enter Try.func92, Try.ntmps92
  go_wp2_with fail
  go_loopw [5, 6, 7] (fun u q i wr => ∃ (o : List Nat) (k s : Nat), o.length = s ∧ s ≤ n ∧ OwnV wr w.heap.size 3 u (NumV o) ∧ q = .int .i64 (k : Int) ∧ i = .int .i64 (s : Int) ∧ LesS a b o k ∧ Below w.heap.size w wr) (fun _ _ i _ => n - (intOf i).toNat)
  case atStart => exact ⟨[], 0, 0, rfl, by omega, OwnV.nil _ _ _, rfl, rfl, LesS.start a b, Below.refl _ _⟩
  case round =>
    obtain ⟨o, k, s, hos, hsn, ho, rfl, rfl, hs, hb⟩ := hrel
    have OS := Lib.hid hos
    have O := Lib.hid ho
    have L := Lib.hid hs
    have S := Lib.hid hb
    have kb : (k : Int) ≤ 1 := by have := hs.cb; omega
    clear hos ho hs hb
    by_cases hlt : s < n
    · have hD : decide ((s : Int) < (n : Int)) = true := by simp; omega
      have hD2 : decide (s < n) = true := by simp; omega
      have sb : (s : Int) < (n : Int) := by omega
      obtain ⟨x, hx⟩ : ∃ x, x = a.getD s 0 := ⟨_, rfl⟩
      obtain ⟨y, hy⟩ : ∃ y, y = b.getD s 0 := ⟨_, rfl⟩
      have DA := Lib.hid (digit_any a A n c HN.out s wr (HR.out.keep S.out))
      have DB := Lib.hid (digit_any b A' n' c' HN'.out s wr (HR'.out.keep S.out))
      rw [← hx] at DA
      rw [← hy] at DB
      have XE := Lib.hid hx
      have YE := Lib.hid hy
      have xb : (x : Int) ≤ 255 := by have := getD_le HA.out s; omega
      have yb : (y : Int) ≤ 255 := by have := getD_le HB.out s; omega
      clear hx hy
      go_wp2_with fail
      refine DA.out.mono ?_
      rintro e w1 ⟨rfl, hw⟩
      rw [hw]
      clear hw w1
      go_wp2_with fail
      refine DB.out.mono ?_
      rintro e w1 ⟨rfl, hw⟩
      rw [hw]
      clear hw w1
      obtain ⟨d, c2, hd, hd2, hc2, hk⟩ : ∃ d c2 : Nat, (d : Int) = (x : Int) - (y : Int) - (k : Int) + 256 * (c2 : Int) ∧ d ≤ 255 ∧ c2 ≤ 1 ∧ (((x : Int) - (y : Int) - (k : Int) < 0 ∧ c2 = 1) ∨ (¬ ((x : Int) - (y : Int) - (k : Int) < 0) ∧ c2 = 0)) := by
        by_cases h : (x : Int) - (y : Int) - (k : Int) < 0
        · exact ⟨(x + 256 - y - k), 1, by omega, by omega, by omega, .inl ⟨h, rfl⟩⟩
        · exact ⟨(x - y - k), 0, by omega, by omega, by omega, .inr ⟨h, rfl⟩⟩
      have L2 := Lib.hid (L.out.step HA.out HB.out d c2 (by rw [OS.out, ← XE.out, ← YE.out]; exact hd) hd2 hc2)
      have DL := Lib.hid hd2
      have hcase := hk
      clear hk hd2 hc2
      rcases hcase with ⟨h1, rfl⟩ | ⟨h1, rfl⟩
      · have hN : decide ((x : Int) - (y : Int) - (k : Int) < 0) = true := by simp; omega
        have e2 : (x : Int) - (y : Int) - (k : Int) + 256 = (d : Int) := by omega
        have HD := Lib.hid hd
        clear hd
        go_upto_region 11 with fail
        clear hN h1 e2
        go_wp2_with (
          refine appV_list rfl NT.out (.tmp 28) (.tmp 30) rfl w.heap.size u5 (NumV o) [.int .i64 (d : Int)] (some ⟨wr.heap.size, 0, none⟩) 1 1 rfl rfl rfl (O.out.alloc _) (RdV.one (row_cell (fr := (0, 0)) (ha_new wr _ _ rfl) 0 rfl)) (by intro u hu; simp at hu; subst hu; rfl) ?c1 ?c2 ?c3 ?_
          )
        case c1 => have := S.out.size; rw [ha_size]; omega
        case c2 => have := OS.out; have := HM.out; rw [NumV_length]; omega
        case c3 => have := OS.out; have := HM.out; rw [NumV_length]; omega
        intro v2 w2 ho hg _
        have B2 : Below w.heap.size w (wr.alloc (.cells #[.int .i64 (d : Int)] 3)) := S.out.alloc S.out.size _
        have S2 := Lib.hid (B2.trans (grown_below hg (by rw [ha_size]; have := S.out.size; omega) (fun q e => (O.out.lt q e).1)))
        have O2 := Lib.hid (show OwnV w2 w.heap.size 3 v2 (NumV (o ++ [d])) by rw [NumV_append]; exact ho)
        clear ho hg B2
        go_wp2_with fail
        go_roundw
        case rel => exact ⟨o ++ [d], 1, s + 1, by rw [List.length_append, OS.out]; rfl, by omega, O2.out, rfl, by go_num, L2.out, S2.out⟩
        case measure => simp [intOf]; omega
      · have hN : decide ((x : Int) - (y : Int) - (k : Int) < 0) = false := by simp; omega
        have e2 : (x : Int) - (y : Int) - (k : Int) = (d : Int) := by omega
        have HD := Lib.hid hd
        clear hd
        go_upto_region 11 with fail
        clear hN h1 e2
        go_wp2_with (
          refine appV_list rfl NT.out (.tmp 28) (.tmp 30) rfl w.heap.size u5 (NumV o) [.int .i64 (d : Int)] (some ⟨wr.heap.size, 0, none⟩) 1 1 rfl rfl rfl (O.out.alloc _) (RdV.one (row_cell (fr := (0, 0)) (ha_new wr _ _ rfl) 0 rfl)) (by intro u hu; simp at hu; subst hu; rfl) ?c1 ?c2 ?c3 ?_
          )
        case c1 => have := S.out.size; rw [ha_size]; omega
        case c2 => have := OS.out; have := HM.out; rw [NumV_length]; omega
        case c3 => have := OS.out; have := HM.out; rw [NumV_length]; omega
        intro v2 w2 ho hg _
        have B2 : Below w.heap.size w (wr.alloc (.cells #[.int .i64 (d : Int)] 3)) := S.out.alloc S.out.size _
        have S2 := Lib.hid (B2.trans (grown_below hg (by rw [ha_size]; have := S.out.size; omega) (fun q e => (O.out.lt q e).1)))
        have O2 := Lib.hid (show OwnV w2 w.heap.size 3 v2 (NumV (o ++ [d])) by rw [NumV_append]; exact ho)
        clear ho hg B2
        go_wp2_with fail
        go_roundw
        case rel => exact ⟨o ++ [d], 0, s + 1, by rw [List.length_append, OS.out]; rfl, by omega, O2.out, rfl, by go_num, L2.out, S2.out⟩
        case measure => simp [intOf]; omega
    · have hD : decide ((s : Int) < (n : Int)) = false := by simp; omega
      have hD2 : decide (s < n) = false := by simp; omega
      have SN := Lib.hid (show s = n by omega)
      clear hlt hsn
      go_wp2_with fail
      go_ret
      exact ⟨_, o, rfl, O.out, by rw [OS.out, SN.out], L.out.dig, L.out.done (by rw [OS.out, SN.out, HN.out]) HLE.out HA.out, S.out⟩
end Go.Proofs.Ytldjiigkebkgcaa

/- What is left by the prime: plain. No program. -/
namespace Go.Proofs.Ytldjiigkebkgcaa
set_option linter.unusedVariables false
set_option linter.unusedSimpArgs false
open Go.RowKit

def M130 : Nat := 1361129467683753853853498429727072845824
theorem M130_eq : M130 = 256 ^ 16 * 4 := by decide +kernel
theorem M130_PN : M130 = PN + 5 := by decide +kernel
/-- One round. -/
def foldM (x : Nat) : Nat := x % M130 + 5 * (x / M130)
theorem foldM_mod (x : Nat) : foldM x % PN = x % PN := by
  have h : x = x % M130 + M130 * (x / M130) := (Nat.mod_add_div x M130).symm
  conv => rhs; rw [h, M130_PN, Nat.add_mul, ← M130_PN]
  unfold foldM
  rw [show x % M130 + (PN * (x / M130) + 5 * (x / M130)) = (x % M130 + 5 * (x / M130)) + PN * (x / M130) by omega, Nat.add_mul_mod_self_left]
theorem foldM_le (x : Nat) : foldM x ≤ x := by
  unfold foldM
  have h : x % M130 + M130 * (x / M130) = x := Nat.mod_add_div x M130
  have : 5 * (x / M130) ≤ M130 * (x / M130) := Nat.mul_le_mul (by decide) (Nat.le_refl _)
  omega
theorem foldM_small (x : Nat) (h : x < M130) : foldM x = x := by
  unfold foldM
  rw [Nat.mod_eq_of_lt h, Nat.div_eq_of_lt h]
  rfl
theorem foldM_lt (x : Nat) : foldM x < M130 + 5 * (x / M130) := by
  unfold foldM
  have := Nat.mod_lt x (show 0 < M130 by decide)
  omega
def foldK : Nat → Nat → Nat
  | 0, x => x
  | k + 1, x => foldM (foldK k x)
theorem foldK_mod (k x : Nat) : foldK k x % PN = x % PN := by
  induction k with
  | zero => rfl
  | succ k ih => rw [foldK, foldM_mod, ih]
theorem foldK_le (k x : Nat) : foldK k x ≤ x := by
  induction k with
  | zero => exact Nat.le_refl _
  | succ k ih => rw [foldK]; exact Nat.le_trans (foldM_le _) ih
theorem foldK_lt (x : Nat) (h : x < 256 ^ 37) : foldK 8 x < M130 := by
  have h1 : foldK 1 x < M130 + 5 * 2 ^ 166 := by
    have := foldM_lt x
    have h2 : x / M130 < 2 ^ 166 := by
      apply Nat.div_lt_of_lt_mul
      exact Nat.lt_of_lt_of_le h (by decide +kernel)
    show foldM x < _
    omega
  have h2 : foldK 2 x < M130 + 5 * 2 ^ 40 := by
    have := foldM_lt (foldK 1 x)
    have h3 : foldK 1 x / M130 < 2 ^ 40 := by
      apply Nat.div_lt_of_lt_mul
      exact Nat.lt_of_lt_of_le h1 (by decide +kernel)
    show foldM (foldK 1 x) < _
    omega
  have h3 : foldK 3 x < M130 := by
    rcases Nat.lt_or_ge (foldK 2 x) M130 with h4 | h4
    · show foldM (foldK 2 x) < _
      rw [foldM_small _ h4]
      exact h4
    · show foldM (foldK 2 x) < _
      unfold foldM
      have h5 : foldK 2 x / M130 = 1 := by
        have hM : M130 + 5 * 2 ^ 40 < 2 * M130 := by decide +kernel
        generalize foldK 2 x = z at *
        generalize M130 = m at *
        generalize 5 * 2 ^ 40 = r at *
        apply Nat.div_eq_of_lt_le <;> omega
      have h6 : foldK 2 x % M130 = foldK 2 x - M130 := by
        have := Nat.mod_add_div (foldK 2 x) M130
        rw [h5] at this
        omega
      rw [h5, h6]
      have : 5 * 2 ^ 40 + 5 < M130 := by decide +kernel
      omega
  have e : ∀ k, foldK (3 + k) x = foldK 3 x := by
    intro k
    induction k with
    | zero => rfl
    | succ k ih =>
      show foldM (foldK (3 + k) x) = _
      rw [ih, foldM_small _ h3]
  rw [show 8 = 3 + 5 from rfl, e]
  exact h3
/-- .. and the prime taken off, once at most. -/
theorem mod_once (y : Nat) (h : y < M130) : y % PN = if y < PN then y else y - PN := by
  split
  · rename_i h1
    exact Nat.mod_eq_of_lt h1
  · rename_i h1
    rw [Nat.mod_eq_sub_mod (by omega), Nat.mod_eq_of_lt]
    have := M130_PN
    have : 5 < PN := by decide
    omega
/-! ### the two parts of a number -/
def lowPL (l : List Nat) : List Nat := if l.length < 17 then l else (l.take 16) ++ [l.getD 16 0 % 4]
def highF (l : List Nat) (i : Nat) : Nat := l.getD (16 + i) 0 / 4 + l.getD (16 + i + 1) 0 % 4 * 64
theorem lowL_val (l : List Nat) (h : ∀ d ∈ l, d ≤ 255) : valB (lowPL l) = valB l % M130 := by
  unfold lowPL
  split
  · rename_i hl
    rw [Nat.mod_eq_of_lt]
    have h1 := valB_lt l h
    have h2 : 256 ^ l.length ≤ 256 ^ 16 := Nat.pow_le_pow_right (by omega) (by omega)
    have h3 : 256 ^ 16 < M130 := by decide +kernel
    omega
  · rename_i hl
    have h1 := valB_split l 16
    have h2 : tabN (fun j => l.getD j 0) 16 = l.take 16 := by
      apply List.ext_getElem
      · rw [tabN_length, List.length_take]; omega
      · intro i hi1 hi2
        rw [tabN_length] at hi1
        simp [tabN, List.getD_eq_getElem?_getD, show i < l.length by omega]
    rw [h2] at h1
    rw [valB_append, List.length_take, Nat.min_eq_left (by omega)]
    rw [h1, valB_drop]
    have h3 : valB (l.take 16) < 256 ^ 16 := by
      have := valB_lt (l.take 16) (fun d hd => h d (List.mem_of_mem_take hd))
      rwa [List.length_take, Nat.min_eq_left (by omega)] at this
    generalize valB (l.take 16) = x at *
    generalize l.getD 16 0 = p at *
    generalize valB (l.drop (16 + 1)) = z at *
    rw [M130_eq, Nat.mod_mul, Nat.add_mul_mod_self_left, Nat.mod_eq_of_lt h3, Nat.add_mul_div_left _ _ (by decide), Nat.div_eq_of_lt h3]
    simp only [valB, Nat.zero_add, Nat.mul_zero, Nat.add_zero]
    congr 2
    omega
theorem high_val (l : List Nat) (m : Nat) (hm : l.length ≤ 16 + m) (h : ∀ d ∈ l, d ≤ 255) : valB (tabN (highF l) m) = valB l / M130 := by
  have key : ∀ m, 4 * valB (tabN (highF l) m) + 256 ^ m * (valB (l.drop (16 + m))) + l.getD 16 0 % 4 = valB (l.drop 16) + 256 ^ m * (l.getD (16 + m) 0 % 4) := by
    intro m
    induction m with
    | zero => simp [tabN, valB]
    | succ m ih =>
      rw [tabN_succ, valB_append, tabN_length]
      have e := valB_drop l (16 + m)
      rw [e] at ih
      have e1 : highF l m = l.getD (16 + m) 0 / 4 + l.getD (16 + m + 1) 0 % 4 * 64 := rfl
      simp only [valB, e1, Nat.pow_succ, Nat.mul_zero, Nat.add_zero]
      rw [show 16 + (m + 1) = 16 + m + 1 by omega]
      generalize valB (tabN (highF l) m) = x at *
      generalize valB (l.drop (16 + m + 1)) = y at *
      generalize l.getD (16 + m) 0 = p at *
      generalize l.getD (16 + m + 1) 0 = q at *
      generalize valB (l.drop 16) = z at *
      generalize 256 ^ m = t at *
      have e2 : p = 4 * (p / 4) + p % 4 := by omega
      have e3 : t * (p + 256 * y) = t * (4 * (p / 4)) + t * (p % 4) + t * (256 * y) := by
        conv => lhs; rw [e2]
        rw [Nat.mul_add, Nat.mul_add]
      grind
  have h1 := key m
  have h2 : l.drop (16 + m) = [] := List.drop_of_length_le (by omega)
  have h3 : l.getD (16 + m) 0 = 0 := by rw [List.getD_eq_getElem?_getD, List.getElem?_eq_none (by omega)]; rfl
  rw [h2, h3] at h1
  simp only [valB, Nat.mul_zero, Nat.add_zero] at h1
  have h4 := valB_split l 16
  have h5 := tab_lt l h 16
  rw [h4, M130_eq, ← Nat.div_div_eq_div_mul, Nat.add_mul_div_left _ _ (by decide), Nat.div_eq_of_lt h5, Nat.zero_add]
  omega
theorem lowL_dig (l : List Nat) (h : ∀ d ∈ l, d ≤ 255) : ∀ d ∈ lowPL l, d ≤ 255 := by
  intro d hd
  unfold lowPL at hd
  split at hd
  · exact h d hd
  · rcases List.mem_append.1 hd with h1 | h1
    · exact h d (List.mem_of_mem_take h1)
    · simp at h1; omega
theorem highF_le (l : List Nat) (h : ∀ d ∈ l, d ≤ 255) (i : Nat) : highF l i ≤ 255 := by
  have := getD_le h (16 + i)
  unfold highF
  omega
theorem lowL_length (l : List Nat) : (lowPL l).length = min l.length 17 := by
  unfold lowPL
  split
  · omega
  · simp; omega
/-- How many digits a carried number has. -/
theorem Digs.few {l : List Nat} {x m : Nat} (h : Digs l x m) (hx : x < 256 ^ 37) : l.length ≤ max m 37 := by
  rcases h.top with h1 | h1
  · omega
  · have : 256 ^ (l.length - 1) < 256 ^ 37 := Nat.lt_of_le_of_lt h1 hx
    have := (Nat.pow_lt_pow_iff_right (show 1 < 256 by omega)).1 this
    omega
theorem Digs.d255 {l : List Nat} {x m : Nat} (h : Digs l x m) : ∀ d ∈ l, d ≤ 255 := fun d hd => Nat.le_of_lt_succ (h.dig d hd)
end Go.Proofs.Ytldjiigkebkgcaa

/- What is left by the prime: walked. No condition but those each theorem states. -/
namespace Go.Proofs.Ytldjiigkebkgcaa
set_option linter.unusedVariables false
set_option linter.unusedSimpArgs false
open Go.RowKit
attribute [local go_sem ↓] Go.wp_at_zero Go.wp_at_succ

theorem OwnV.block {w : World} {base : Nat} {e : TypeId} {v : Value} {l : List Value} (h : OwnV w base e v l) (hl : l ≠ []) :
    ∃ g cap cur, v = .slice (some ⟨g, 0, none⟩) l.length cap ∧ base ≤ g ∧ w.heap[g]? = some (.cells cur e (0, 0)) ∧ l.length ≤ cap ∧ cur.toList.take l.length = l ∧ cap ≤ maxLen ∧ cur.size = cap := by
  rcases h.2 with ⟨hv, hn⟩ | ⟨g, cap, cur, hv, hb, hh, hnc, hcm, hcs, ht⟩
  · exact absurd (List.eq_nil_of_length_eq_zero hn) hl
  · exact ⟨g, cap, cur, hv, hb, hh, hnc, by simpa using ht, hcm, by simpa using hcs⟩
theorem OwnV.put {w : World} {base : Nat} {e : TypeId} {g cap : Nat} {l : List Value} {cur : Array Value} (hb : base ≤ g) (hh : w.heap[g]? = some (.cells cur e (0, 0))) (hnc : l.length ≤ cap) (ht : cur.toList.take l.length = l) (hcm : cap ≤ maxLen) (hcs : cur.size = cap) (i : Nat) (x : Value) :
    OwnV (w.setCell ⟨g, i, none⟩ x) base e (.slice (some ⟨g, 0, none⟩) l.length cap) (l.set i x) := by
  refine ⟨by simp, .inr ⟨g, cap, cur.setIfInBounds i x, by simp, hb, heap_setCell_same _ _ _ _ _ _ hh, by simpa using hnc, hcm, by simpa using hcs, ?_⟩⟩
  rw [Nat.mul_one, List.length_set, Array.toList_setIfInBounds, List.take_set, ht]
theorem lowL_17 (l : List Nat) (h : 17 ≤ l.length) : lowPL l = (l.take 17).set 16 (l.getD 16 0 % 4) := by
  unfold lowPL
  have e : l.take 17 = l.take 16 ++ [l.getD 16 0] := by
    rw [show 17 = 16 + 1 from rfl, List.take_add_one, List.getElem?_eq_getElem (by omega)]
    simp [List.getD_eq_getElem?_getD, show 16 < l.length by omega]
  have e2 : (l.take 16).length = 16 := by rw [List.length_take]; omega
  rw [if_neg (by omega), e, List.set_append_right _ _ (by omega), e2]
  rfl
theorem lowL_few (l : List Nat) (h : l.length < 17) : lowPL l = l.take 17 := by
  unfold lowPL
  rw [if_pos h, List.take_of_length_le (by omega)]
theorem below_new2 (w : World) (o : Obj) : Below w.heap.size w (w.alloc o) := (Below.refl _ _).alloc (Nat.le_refl _) _
set_option maxRecDepth 100000 in
set_option maxHeartbeats 8000000 in
theorem mod_any (l0 : List Nat) (hd0 : ∀ d ∈ l0, d ≤ 255) (hx0 : valB l0 < 256 ^ 37) (A0 : Option Addr) (n0 c0 : Nat) (hn0 : l0.length = n0) (hm0 : n0 ≤ 60) (w : World) (hR0 : RdV w A0 (NumV l0)) :
    Calls Try.prog 79 #[.slice A0 n0 c0] w fun e w' => ∃ A c n o, e = .returned (.slice A n c) ∧ o.length = n ∧ n ≤ 37 ∧ RdV w' A (NumV o) ∧ (∀ d ∈ o, d ≤ 255) ∧ valB o = valB l0 % PN ∧ Below w.heap.size w w' := by
  have NT := Lib.hid numT
  obtain ⟨x0, hxx⟩ : ∃ x, x = valB l0 := ⟨_, rfl⟩
  have XE := Lib.hid hxx.symm
  have XB := Lib.hid (show x0 < 256 ^ 37 by rw [hxx]; exact hx0)
  have HD0 := Lib.hid hd0
  have HN0 := Lib.hid hn0
  have HM0 := Lib.hid hm0
  have HR0 := Lib.hid hR0
  rw [← hxx]
  clear hxx hx0 hd0 hn0 hm0 hR0
  go_enter Try.func79, Try.ntmps79
  go_wp2_with fail
  go_loopw [0, 3] (fun u i wr => ∃ (k : Nat) (l : List Nat) (A : Option Addr) (n c : Nat), k ≤ 8 ∧ i = .int .i64 (k : Int) ∧ u = .slice A n c ∧ l.length = n ∧ (n ≤ 60 ∧ (1 ≤ k → n ≤ 45) ∧ (2 ≤ k → n ≤ 37)) ∧ RdV wr A (NumV l) ∧ (∀ d ∈ l, d ≤ 255) ∧ valB l = foldK k x0 ∧ Below w.heap.size w wr) (fun _ i _ => 8 - (intOf i).toNat)
  case atStart => exact ⟨0, l0, A0, n0, c0, by omega, rfl, rfl, HN0.out, ⟨HM0.out, fun h => by omega, fun h => by omega⟩, HR0.out, HD0.out, XE.out, Below.refl _ _⟩
  case round =>
    obtain ⟨k, l, A, n, c, hk, rfl, rfl, hn, hm, hr, hd, hv, hb⟩ := hrel
    obtain ⟨wo, hwo⟩ : ∃ x : World, x = wr := ⟨_, rfl⟩
    rw [← hwo] at hr hb ⊢
    clear hwo wr
    have K := Lib.hid hk
    have N := Lib.hid hn
    have MK := Lib.hid hm
    have M := Lib.hid hm.1
    have R := Lib.hid hr
    have D := Lib.hid hd
    have V := Lib.hid hv
    have S := Lib.hid hb
    have nb : (n : Int) ≤ 60 := by omega
    clear hk hn hm hr hd hv hb
    by_cases hlt : k < 8
    · have hD : decide ((k : Int) < 8) = true := by simp; omega
      have K8 := Lib.hid hlt
      go_upto_block 2 with fail
      clear hD
      go_cut [4] (fun u wx => OwnV wx wo.heap.size 3 u (NumV (l.take 17)) ∧ Below wo.heap.size wo wx)
      case first =>
        go_wp2_with fail
        go_loopw [4, 6] (fun u i wq => ∃ j : Nat, j ≤ n ∧ j ≤ 17 ∧ i = .int .i64 (j : Int) ∧ OwnV wq wo.heap.size 3 u (NumV (l.take j)) ∧ Below wo.heap.size wo wq) (fun _ i _ => 17 - (intOf i).toNat)
        case atStart => exact ⟨0, by omega, by omega, rfl, OwnV.nil _ _ _, Below.refl _ _⟩
        case round =>
          obtain ⟨j, hj, hj17, rfl, ho, hb⟩ := hrel
          have J := Lib.hid (And.intro hj hj17)
          have O := Lib.hid ho
          have S2 := Lib.hid hb
          clear hj hj17 ho hb
          by_cases h17 : j < 17
          · have hE : decide ((j : Int) < 17) = true := by simp; omega
            by_cases hjn : j < n
            · have hF : decide ((j : Int) < (n : Int)) = true := by simp; omega
              have hF2 : decide (j < n) = true := by simp; omega
              have jb : (j : Int) < (n : Int) := by omega
              have J17 := Lib.hid h17
              obtain ⟨d, hd⟩ : ∃ d, d = l.getD j 0 := ⟨_, rfl⟩
              obtain ⟨b, o, rfl, hc⟩ := (R.out.keep S2.out) j _ (NumV_get l j (by rw [N.out]; exact hjn))
              rw [← hd] at hc
              have TE := Lib.hid (show NumV (l.take (j + 1)) = NumV (l.take j) ++ [.int .i64 (d : Int)] by
                rw [List.take_add_one, List.getElem?_eq_getElem (by rw [N.out]; exact hjn), hd, NumV_append]
                simp [NumV, List.getD_eq_getElem?_getD, N.out, hjn])
              clear hd h17
              go_wp2_with (refine appV_list rfl NT.out (.tmp 23) (.tmp 28) rfl wo.heap.size _ (NumV (l.take j)) [.int .i64 (d : Int)] (some ⟨wr.heap.size, 0, none⟩) 1 1 rfl rfl rfl (O.out.alloc _) (RdV.one (row_cell (fr := (0, 0)) (ha_new wr _ _ rfl) 0 rfl)) (by intro u hu; simp at hu; subst hu; rfl) ?c1 ?c2 ?c3 ?_)
              case c1 => have := S2.out.size; rw [ha_size]; omega
              case c2 => rw [NumV_length, List.length_take]; have := J17.out; omega
              case c3 => rw [NumV_length, List.length_take]; have := J17.out; omega
              intro v2 w2 ho hg _
              have B2 : Below wo.heap.size wo (wr.alloc (.cells #[.int .i64 (d : Int)] 3)) := S2.out.alloc S2.out.size _
              have S3 := Lib.hid (B2.trans (grown_below hg (by rw [ha_size]; have := S2.out.size; omega) (fun q e => (O.out.lt q e).1)))
              have O2 := Lib.hid (show OwnV w2 wo.heap.size 3 v2 (NumV (l.take (j + 1))) by rw [TE.out]; exact ho)
              clear ho hg B2 hE hF hF2 hc
              go_wp2_with fail
              go_roundw
              case rel => exact ⟨j + 1, by omega, by have := J17.out; omega, by go_num, O2.out, S3.out⟩
              case measure => have := J17.out; simp [intOf]; omega
            · have hF : decide ((j : Int) < (n : Int)) = false := by simp; omega
              have hF2 : decide (j < n) = false := by simp; omega
              have TE := Lib.hid (show l.take j = l.take 17 by rw [List.take_of_length_le (by rw [N.out]; omega), List.take_of_length_le (by rw [N.out]; omega)])
              go_wp2_with fail
              go_meet
              exact ⟨by rw [← TE.out]; exact O.out, S2.out⟩
          · have hE : decide ((j : Int) < 17) = false := by simp; omega
            have TE := Lib.hid (show j = 17 by have := J.out; omega)
            go_wp2_with fail
            go_meet
            exact ⟨by have := O.out; rwa [TE.out] at this, S2.out⟩
      case rest =>
      obtain ⟨ho, hb⟩ := hcut
      have O := Lib.hid ho
      have S2 := Lib.hid hb
      obtain ⟨A4, c4, hu, _⟩ := ho.read
      obtain ⟨q, hq⟩ : ∃ q, q = min n 17 := ⟨_, rfl⟩
      have QL := Lib.hid (show (NumV (l.take 17)).length = q by rw [NumV_length, List.length_take, N.out, hq]; omega)
      rw [QL.out] at hu
      rw [hu] at O ⊢
      have QE := Lib.hid hq
      have qb : (q : Int) ≤ 17 := by omega
      clear ho hb hu hq
      go_upto_if 32 with fail
      go_cut [4] (fun u wx => OwnV wx wo.heap.size 3 u (NumV (lowPL l)) ∧ Below wo.heap.size wo wx)
      case first =>
        by_cases h17 : q = 17
        · obtain ⟨g, cap, cur, hv, hgb, hh, hnc, ht, hcm, hcs⟩ := O.out.block (by intro h; have := QL.out; rw [h] at this; simp at this; omega)
          rw [QL.out] at hv
          cases hv
          subst h17
          obtain ⟨d, hd⟩ : ∃ d, d = l.getD 16 0 := ⟨_, rfl⟩
          have DE := Lib.hid hd
          have N17 := Lib.hid (show 17 ≤ l.length by rw [N.out]; have := QE.out; omega)
          have hc : wc.cell? ⟨g, 16, none⟩ = some (.int .i64 (d : Int)) := by
            refine row_cell hh 16 ?_
            have h2 := NumV_get (l.take 17) 16 (by rw [List.length_take]; have := N17.out; omega)
            rw [← ht, QL.out, List.getElem?_take, if_pos (by omega)] at h2
            rw [← Array.getElem?_toList, h2, hd]
            simp [List.getD_eq_getElem?_getD, List.getElem?_take]
          have hf := row_free hh 16
          have db : (d : Int) ≤ 255 := by have := getD_le D.out 16; omega
          obtain ⟨d4, hd4⟩ : ∃ x, x = d % 4 := ⟨_, rfl⟩
          have OP := Lib.hid (OwnV.put hgb hh hnc ht hcm hcs 16 (.int .i64 (d4 : Int)))
          have GB := Lib.hid hgb
          have em : ((d : Int) % 4) = (d4 : Int) := by omega
          have E4 := Lib.hid hd4
          clear hd4
          rw [QL.out] at OP
          clear hd hh hnc ht hcm hcs hgb
          go_wp2_with fail
          go_meet
          refine ⟨?_, S2.out.trans (grown_below (grown_set (World.grownBy.refl _ (some g)) _ _) S2.out.size (by rintro x ⟨⟩; exact GB.out))⟩
          have := OP.out
          rw [lowL_17 l N17.out, ← DE.out, ← E4.out]
          have e3 : NumV ((l.take 17).set 16 d4) = (NumV (l.take 17)).set 16 (.int .i64 (d4 : Int)) := by simp [NumV, List.map_set]
          rw [e3]
          exact this
        · have hE : decide ((q : Int) = 17) = false := by simp; omega
          have hE2 : ((q : Int) == 17) = false := by simp; omega
          have LE := Lib.hid (show lowPL l = l.take 17 from lowL_few l (by rw [N.out]; have := QE.out; omega))
          clear h17
          go_wp2_with fail
          go_meet
          exact ⟨by rw [LE.out]; exact O.out, S2.out⟩
      case rest =>
      obtain ⟨ho, hb⟩ := hcut
      obtain ⟨A4, c4, rfl, hr4, hl4, _, hb4⟩ := ho.read
      have QL := Lib.hid (show (NumV (lowPL l)).length = q by rw [NumV_length, lowL_length, N.out, QE.out])
      rw [QL.out] at hl4 ⊢
      have RL := Lib.hid hr4
      have LB := Lib.hid hb4
      have SC := Lib.hid hb
      obtain ⟨wm, hwm⟩ : ∃ x : World, x = wc := ⟨_, rfl⟩
      rw [← hwm] at RL LB SC ⊢
      clear hwm hb ho hr4 hl4 hb4 O S2 wc
      obtain ⟨m, hm⟩ : ∃ m, m = n - 16 := ⟨_, rfl⟩
      have ME := Lib.hid hm
      clear hm
      go_upto_region 11 with fail
      go_wp2_with fail
      go_loopw [5, 7] (fun u i wq => ∃ j : Nat, j ≤ m ∧ i = .int .i64 ((16 + j : Nat) : Int) ∧ OwnV wq wm.heap.size 3 u (NumV (tabN (highF l) j)) ∧ Below wm.heap.size wm wq) (fun _ i _ => 100 - (intOf i).toNat)
      case atStart => exact ⟨0, by omega, rfl, OwnV.nil _ _ _, Below.refl _ _⟩
      case round =>
        obtain ⟨j, hj, rfl, ho, hb⟩ := hrel
        have J := Lib.hid hj
        have O := Lib.hid ho
        have S2 := Lib.hid hb
        obtain ⟨i, hi⟩ : ∃ i, i = 16 + j := ⟨_, rfl⟩
        rw [← hi]
        have IE := Lib.hid hi
        have ib : (i : Int) ≤ 100 := by have := ME.out; omega
        clear hj ho hb hi
        by_cases hin : i < n
        · have hF : decide ((i : Int) < (n : Int)) = true := by simp; omega
          have hF2 : decide (i < n) = true := by simp; omega
          obtain ⟨p, hp⟩ : ∃ p, p = l.getD i 0 := ⟨_, rfl⟩
          obtain ⟨r, hr⟩ : ∃ r, r = l.getD (i + 1) 0 := ⟨_, rfl⟩
          obtain ⟨h, hh⟩ : ∃ h, h = p / 4 + r % 4 * 64 := ⟨_, rfl⟩
          have HE := Lib.hid (show highF l j = h by rw [hh, hp, hr, IE.out]; rfl)
          have DA := Lib.hid (digit_any l A n c N.out i wr ((R.out.keep SC.out).keep S2.out))
          have DB := Lib.hid (digit_any l A n c N.out (i + 1) wr ((R.out.keep SC.out).keep S2.out))
          rw [← hp] at DA
          rw [← hr] at DB
          have pb : (p : Int) ≤ 255 := by have := getD_le D.out i; omega
          have rb : (r : Int) ≤ 255 := by have := getD_le D.out (i + 1); omega
          have eh : (p : Int) / 4 + (r : Int) % 4 * 64 = (h : Int) := by omega
          clear hp hr hh
          have HJ := Lib.hid (show j < m by have := ME.out; have := IE.out; omega)
          go_wp2_with fail
          refine DA.out.mono ?_
          rintro e w1 ⟨rfl, hw⟩
          rw [hw]
          clear hw w1
          go_wp2_with fail
          refine DB.out.mono ?_
          rintro e w1 ⟨rfl, hw⟩
          rw [hw]
          clear hw w1
          go_wp2_with (refine appV_list rfl NT.out (.tmp 45) (.tmp 57) rfl wm.heap.size _ (NumV (tabN (highF l) j)) [.int .i64 (h : Int)] (some ⟨wr.heap.size, 0, none⟩) 1 1 rfl rfl rfl (O.out.alloc _) (RdV.one (row_cell (fr := (0, 0)) (ha_new wr _ _ rfl) 0 rfl)) (by intro u hu; simp at hu; subst hu; rfl) ?c1 ?c2 ?c3 ?_)
          case c1 => have := S2.out.size; rw [ha_size]; omega
          case c2 => rw [NumV_length, tabN_length]; have := HJ.out; have := ME.out; omega
          case c3 => rw [NumV_length, tabN_length]; have := HJ.out; have := ME.out; omega
          intro v2 w2 ho hg _
          have B2 : Below wm.heap.size wm (wr.alloc (.cells #[.int .i64 (h : Int)] 3)) := S2.out.alloc S2.out.size _
          have S3 := Lib.hid (B2.trans (grown_below hg (by rw [ha_size]; have := S2.out.size; omega) (fun q e => (O.out.lt q e).1)))
          have O2 := Lib.hid (show OwnV w2 wm.heap.size 3 v2 (NumV (tabN (highF l) (j + 1))) by rw [tabN_succ, HE.out, NumV_append]; exact ho)
          clear ho hg B2 hF hF2 eh
          go_wp2_with fail
          go_roundw
          case rel => exact ⟨j + 1, by have := HJ.out; omega, by have := IE.out; go_num, O2.out, S3.out⟩
          case measure => simp [intOf]; omega
        · have hF : decide ((i : Int) < (n : Int)) = false := by simp; omega
          have hF2 : decide (i < n) = false := by simp; omega
          have JM := Lib.hid (show j = m by have := J.out; have := ME.out; have := IE.out; omega)
          obtain ⟨A5, c5, hu5, hr5, _, _, _⟩ := O.out.read
          have HLN := Lib.hid (show (NumV (tabN (highF l) j)).length = m by rw [NumV_length, tabN_length, JM.out])
          rw [HLN.out] at hu5
          rw [hu5]
          have R5 := Lib.hid (show RdV wr A5 (NumV (tabN (highF l) m)) by rw [JM.out] at hr5; exact hr5)
          clear hu5 hr5 O hin
          go_upto_region 15 with fail
          clear hF hF2
          go_wp2_with fail
          have RF := Lib.hid (RdV.row (w := wr.alloc (.cells #[.int .i64 5] 3)) (g := wr.heap.size) (l := NumV [5]) (t := 3) (fr := (0, 0)) (ha_new wr _ _ rfl))
          have B2 := Lib.hid (below_new2 wr (.cells #[.int .i64 5] 3))
          obtain ⟨hx, hhx⟩ : ∃ h, h = valB l / M130 := ⟨_, rfl⟩
          have HV := Lib.hid (show valB (tabN (highF l) m) = hx by rw [hhx]; exact high_val l m (by rw [N.out]; have := ME.out; omega) D.out)
          have LV := Lib.hid (show valB (lowPL l) = valB l % M130 from lowL_val l D.out)
          have HX := Lib.hid hhx
          clear hhx
          refine (ntim_any (tabN (highF l) m) [5] (tabN_le (highF_le l D.out) m) (by decide) A5 m c5 (tabN_length _ _) (some ⟨wr.heap.size, 0, none⟩) 1 1 rfl (by have := ME.out; omega) (by omega) _ (R5.out.keep B2.out) RF.out).mono ?_
          rw [HV.out]
          rintro e w2 ⟨v, o, rfl, ho, hdg, hb⟩
          obtain ⟨A6, c6, rfl, hr6, _, _, _⟩ := ho.read
          rw [NumV_length]
          have R6 := Lib.hid hr6
          have T6 := Lib.hid hdg
          have B3 := Lib.hid (B2.out.trans (hb.mono (by rw [ha_size]; omega)))
          have RL2 := Lib.hid (((RL.out.keep S2.out).keep B3.out))
          clear ho hr6 hdg hb
          have X37 := Lib.hid (show valB l < 256 ^ 37 by rw [V.out]; exact Nat.lt_of_le_of_lt (foldK_le _ _) XB.out)
          have FM := Lib.hid (show valB (lowPL l) + hx * valB [5] = foldK (k + 1) x0 by
            have e5 : valB [5] = 5 := rfl
            rw [LV.out, HX.out, e5, Nat.mul_comm, V.out]
            rfl)
          have OL := Lib.hid (show o.length ≤ max (m + 1) 37 by
            have := T6.out.few (by
              have h1 : hx * valB [5] ≤ foldK (k + 1) x0 := by rw [← FM.out]; omega
              have h2 := foldK_le (k + 1) x0
              have := XB.out
              omega)
            have e1 : ([5] : List Nat).length = 1 := rfl
            omega)
          have OL6 := Lib.hid (show o.length ≤ 60 by have := OL.out; have := ME.out; have := M.out; omega)
          go_wp2_with fail
          refine (nsum_any (lowPL l) o (lowL_dig l D.out) T6.out.d255 A4 q c4 (by rw [← NumV_length]; exact QL.out) A6 o.length c6 rfl (by omega) (by have := OL6.out; omega) w2 RL2.out R6.out).mono ?_
          rw [T6.out.val, FM.out]
          rintro e w3 ⟨v, o3, rfl, ho, hdg, hb⟩
          obtain ⟨A7, c7, rfl, hr7, _, _, _⟩ := ho.read
          rw [NumV_length]
          have R7 := Lib.hid hr7
          have T7 := Lib.hid hdg
          have B4 := Lib.hid (SC.out.trans ((S2.out.mono SC.out.size).trans ((B3.out.mono (Nat.le_trans SC.out.size S2.out.size)).trans (hb.mono (Nat.le_trans SC.out.size (Nat.le_trans S2.out.size B3.out.size))))))
          have O3L := Lib.hid (show o3.length ≤ 60 ∧ (1 ≤ k + 1 → o3.length ≤ 45) ∧ (2 ≤ k + 1 → o3.length ≤ 37) by
            have := hdg.few (Nat.lt_of_le_of_lt (foldK_le _ _) XB.out)
            have := OL.out
            have := ME.out
            have := M.out
            have h45 := MK.out.2.1
            refine ⟨by omega, fun _ => by omega, fun h => ?_⟩
            have := h45 (by omega)
            omega)
          clear ho hr7 hdg hb
          go_wp2_with fail
          go_roundw
          case rel => exact ⟨k + 1, o3, A7, o3.length, c7, by have := K8.out; omega, by go_num, rfl, rfl, O3L.out, R7.out, T7.out.d255, T7.out.val, S.out.trans (B4.out.mono S.out.size)⟩
          case measure => have := K8.out; simp [intOf]; omega
    · have hD : decide ((k : Int) < 8) = false := by simp; omega
      have K8 := Lib.hid (show k = 8 by have := K.out; omega)
      have Y0 := Lib.hid (show valB l < M130 by rw [V.out, K8.out]; exact foldK_lt x0 XB.out)
      have Y1 := Lib.hid (show valB l % PN = x0 % PN by rw [V.out]; exact foldK_mod _ _)
      clear hlt
      go_wp2_with fail
      clear hD
      go_loopw [0, 8] (fun u i wq => ∃ (t : Nat) (o : List Nat) (A : Option Addr) (n c : Nat), t ≤ 1 ∧ i = .int .i64 (t : Int) ∧ u = .slice A n c ∧ o.length = n ∧ n ≤ 37 ∧ RdV wq A (NumV o) ∧ (∀ d ∈ o, d ≤ 255) ∧ valB o % PN = x0 % PN ∧ valB o < M130 ∧ (t = 1 → valB o < PN) ∧ Below w.heap.size w wq) (fun _ i _ => 2 - (intOf i).toNat)
      case atStart => exact ⟨0, l, A, n, c, by omega, rfl, rfl, N.out, MK.out.2.2 (by have := K8.out; omega), R.out, D.out, Y1.out, Y0.out, fun h => by omega, S.out⟩
      case round =>
        obtain ⟨t, o, A9, n9, c9, ht, rfl, rfl, hn, hm, hr, hd, hy1, hy0, ht1, hb⟩ := hrel
        have T := Lib.hid ht
        have N9 := Lib.hid hn
        have M9 := Lib.hid hm
        have R9 := Lib.hid hr
        have D9 := Lib.hid hd
        have P1 := Lib.hid hy1
        have P0 := Lib.hid hy0
        have T1 := Lib.hid ht1
        have S9 := Lib.hid hb
        have tb : (t : Int) ≤ 1 := by omega
        have hE : decide ((t : Int) < 2) = true := by simp; omega
        clear ht hn hm hr hd hy1 hy0 ht1 hb
        go_wp2_with fail
        refine (prime_any wr).mono ?_
        rintro e w1 ⟨v, rfl, ho, hb⟩
        obtain ⟨Ap, cp, rfl, hrp, _, _, _⟩ := ho.read
        have PL := Lib.hid (show (NumV primeL).length = 17 from rfl)
        rw [PL.out]
        have RP := Lib.hid hrp
        have R9 := Lib.hid (R9.out.keep hb)
        have S9 := Lib.hid (S9.out.trans (hb.mono S9.out.size))
        clear ho hrp hb
        go_wp2_with fail
        refine (below_any o primeL D9.out primeL_dig A9 n9 c9 N9.out Ap 17 cp rfl (by have := M9.out; omega) (by omega) w1 R9.out RP.out).mono ?_
        rw [primeL_val]
        by_cases hlt : valB o < PN
        · have hF := Lib.hid (show decide (valB o < PN) = true from decide_eq_true hlt)
          have FIN := Lib.hid (show valB o = x0 % PN by rw [← P1.out, Nat.mod_eq_of_lt hlt])
          clear hlt
          rw [hF.out]
          rintro e w2 ⟨rfl, hw⟩
          rw [hw]
          clear hw w2
          go_wp2_with fail
          go_ret
          exact ⟨A9, c9, n9, o, rfl, N9.out, M9.out, R9.out, D9.out, FIN.out, S9.out⟩
        · have hF := Lib.hid (show decide (valB o < PN) = false from decide_eq_false hlt)
          have GE := Lib.hid (show valB primeL ≤ valB o by rw [primeL_val]; omega)
          have T0 := Lib.hid (show t = 0 by have := T.out; by_cases h : t = 1; · exact absurd (T1.out h) hlt
                                            · omega)
          have NX := Lib.hid (show (valB o - PN) % PN = x0 % PN ∧ valB o - PN < PN by
            have h1 := P0.out
            have h2 := M130_PN
            have h3 : 5 < PN := by decide
            refine ⟨?_, by omega⟩
            rw [← P1.out, Nat.mod_eq_sub_mod (show valB o ≥ PN by omega)])
          clear hlt
          rw [hF.out]
          rintro e w2 ⟨rfl, hw⟩
          rw [hw]
          clear hw w2
          go_wp2_with fail
          refine (prime_any w1).mono ?_
          rintro e w3 ⟨v, rfl, ho, hb⟩
          obtain ⟨Ap, cp, rfl, hrp, _, _, _⟩ := ho.read
          rw [PL.out]
          have RP := Lib.hid hrp
          have R9 := Lib.hid (R9.out.keep hb)
          have S9 := Lib.hid (S9.out.trans (hb.mono S9.out.size))
          clear ho hrp hb
          go_wp2_with fail
          refine (less_any o primeL D9.out primeL_dig GE.out A9 n9 c9 N9.out Ap 17 cp rfl (by have := M9.out; omega) (by omega) w3 R9.out RP.out).mono ?_
          rw [primeL_val]
          rintro e w4 ⟨v, o2, rfl, ho, hl2, hd2, hv2, hb⟩
          obtain ⟨A2, c2, rfl, hr2, _, _, _⟩ := ho.read
          rw [NumV_length, hl2]
          have R2 := Lib.hid hr2
          have L2 := Lib.hid hl2
          have D2 := Lib.hid hd2
          have V2 := Lib.hid hv2
          have S9 := Lib.hid (S9.out.trans (hb.mono S9.out.size))
          clear ho hr2 hl2 hd2 hv2 hb hE
          go_wp2_with fail
          go_roundw
          case rel => exact ⟨1, o2, A2, n9, c2, by omega, by rw [T0.out]; go_num, rfl, L2.out, M9.out, R2.out, D2.out, by rw [V2.out]; exact NX.out.1, by rw [V2.out]; have := NX.out.2; have := M130_PN; omega, fun _ => by rw [V2.out]; exact NX.out.2, S9.out⟩
          case measure => have := T0.out; simp [intOf]; omega
end Go.Proofs.Ytldjiigkebkgcaa

/- The document's tag: of, Clamp. No condition but those each theorem states. -/
namespace Go.Proofs.Ytldjiigkebkgcaa
set_option linter.unusedVariables false
set_option linter.unusedSimpArgs false
open Go.RowKit
attribute [local go_sem ↓] Go.wp_at_zero Go.wp_at_succ

def natL (l : List UInt8) : List Nat := l.map (·.toNat)
theorem natL_length (l : List UInt8) : (natL l).length = l.length := by simp [natL]
theorem natL_snoc (l : List UInt8) (i : Nat) (h : i < l.length) : natL (l.take (i + 1)) = natL (l.take i) ++ [(l.getD i 0).toNat] := by
  rw [List.take_add_one, List.getElem?_eq_getElem h, natL, natL, List.map_append]
  simp [List.getD_eq_getElem?_getD, h]
theorem natL_le (l : List UInt8) : ∀ d ∈ natL l, d ≤ 255 := by
  intro d hd
  simp only [natL, List.mem_map] at hd
  obtain ⟨x, _, rfl⟩ := hd
  have := x.toNat_lt
  omega
theorem valB_natL (l : List UInt8) : valB (natL l) = leNat l := valB_bytes l
set_option maxRecDepth 100000 in
set_option maxHeartbeats 1000000 in
theorem of_any' (l : List UInt8) (n : Nat) (hn : l.length = n) (hm : n ≤ 1000) (w : World) :
    Calls Try.prog 82 #[.string (strB l)] w fun e w' => ∃ v, e = .returned v ∧ OwnV w' w.heap.size 3 v (NumV (natL (l ++ [1]))) ∧ Below w.heap.size w w' := by
  have SZ := strB_size l
  rw [hn] at SZ
  have HN := Lib.hid hn
  have NT := Lib.hid numT
  have nb : (n : Int) ≤ 1000 := by omega
  have HM := Lib.hid hm
  clear hn hm
  go_enter Try.func82, Try.ntmps82
  go_wp2_with fail
  go_loopw [3, 4] (fun u i wr => ∃ j : Nat, j ≤ n ∧ i = .int .i64 (j : Int) ∧ OwnV wr w.heap.size 3 u (NumV (natL (l.take j))) ∧ Below w.heap.size w wr) (fun _ i _ => n - (intOf i).toNat)
  case atStart => exact ⟨0, by omega, rfl, OwnV.nil _ _ _, Below.refl _ _⟩
  case round =>
    obtain ⟨j, hj, rfl, ho, hb⟩ := hrel
    have J := Lib.hid hj
    have O := Lib.hid ho
    have S := Lib.hid hb
    clear hj ho hb
    have LN := Lib.hid (show (NumV (natL (l.take j))).length ≤ 1000 by rw [NumV_length, natL_length, List.length_take]; have := HN.out; have := HM.out; omega)
    by_cases hlt : j < n
    · have hD : decide ((j : Int) < (n : Int)) = true := by simp; omega
      have hD2 : decide (j < n) = true := by simp; omega
      have jb : (j : Int) < (n : Int) := by omega
      obtain ⟨y, hy⟩ : ∃ y, y = l.getD j 0 := ⟨_, rfl⟩
      have YE := Lib.hid hy
      obtain ⟨q, hq⟩ : ∃ q : Nat, q = y.toNat := ⟨_, rfl⟩
      have eq : (y.toNat : Int) = (q : Int) := by rw [hq]
      have qb : (q : Int) ≤ 255 := by have := y.toNat_lt; omega
      have TE := Lib.hid (show NumV (natL (l.take (j + 1))) = NumV (natL (l.take j)) ++ [.int .i64 (q : Int)] by rw [natL_snoc l j (by rw [HN.out]; exact hlt), NumV_append, ← hy, ← hq]; rfl)
      clear hy hq
      go_upto_region 5 with fail
      clear SZ
      go_wp2_with (first
        | (refine wpList_val rfl (run_idx_str 9 (.tmp 12) (.tmp 13) rfl Try.underlying9 l j y YE.out (by rw [HN.out]; exact hlt) .i64 _ rfl rfl rfl _) ?_)
        | (refine appV_list rfl NT.out (.tmp 11) (.tmp 16) rfl w.heap.size _ (NumV (natL (l.take j))) [.int .i64 (q : Int)] (some ⟨wr.heap.size, 0, none⟩) 1 1 rfl rfl rfl (O.out.alloc _) (RdV.one (row_cell (fr := (0, 0)) (ha_new wr _ _ rfl) 0 rfl)) (by intro u hu; simp at hu; subst hu; rfl) ?c1 ?c2 ?c3 ?_))
      case c1 => have := S.out.size; rw [ha_size]; omega
      case c2 => have := LN.out; omega
      case c3 => have := LN.out; omega
      intro v2 w2 ho hg _
      have B2 : Below w.heap.size w (wr.alloc (.cells #[.int .i64 (q : Int)] 3)) := S.out.alloc S.out.size _
      have S3 := Lib.hid (B2.trans (grown_below hg (by rw [ha_size]; have := S.out.size; omega) (fun q e => (O.out.lt q e).1)))
      have O2 := Lib.hid (show OwnV w2 w.heap.size 3 v2 (NumV (natL (l.take (j + 1)))) by rw [TE.out]; exact ho)
      clear ho hg B2 hD hD2 eq
      go_wp2_with fail
      go_roundw
      case rel => exact ⟨j + 1, by omega, by go_num, O2.out, S3.out⟩
      case measure => simp [intOf]; omega
    · have hD : decide ((j : Int) < (n : Int)) = false := by simp; omega
      have hD2 : decide (j < n) = false := by simp; omega
      have TE := Lib.hid (show l.take j = l from List.take_of_length_le (by rw [HN.out]; omega))
      clear hlt
      go_wp2_with (refine appV_list rfl NT.out (.tmp 18) (.tmp 19) rfl w.heap.size _ (NumV (natL (l.take j))) [.int .i64 1] (some ⟨wr.heap.size, 0, none⟩) 1 1 rfl rfl rfl (O.out.alloc _) (RdV.one (row_cell (fr := (0, 0)) (ha_new wr _ _ rfl) 0 rfl)) (by intro u hu; simp at hu; subst hu; rfl) ?c1 ?c2 ?c3 ?_)
      case c1 => have := S.out.size; rw [ha_size]; omega
      case c2 => have := LN.out; omega
      case c3 => have := LN.out; omega
      intro v2 w2 ho hg _
      have B2 : Below w.heap.size w (wr.alloc (.cells #[.int .i64 1] 3)) := S.out.alloc S.out.size _
      have S3 := Lib.hid (B2.trans (grown_below hg (by rw [ha_size]; have := S.out.size; omega) (fun q e => (O.out.lt q e).1)))
      have O2 := Lib.hid (show OwnV w2 w.heap.size 3 v2 (NumV (natL (l ++ [1]))) by
        have h := ho
        rw [TE.out] at h
        have e : natL (l ++ [1]) = natL l ++ [1] := by simp [natL]
        rw [e, NumV_append]
        exact h)
      clear ho hg B2 SZ
      go_wp2_with fail
      go_ret
      exact ⟨_, rfl, O2.out, S3.out⟩
/-! ### the key's first half -/
def mod16K (b : List UInt8) : Nat → List UInt8
  | 0 => b
  | j + 1 => (mod16K b j).set (3 + 4 * j) ((mod16K b j).getD (3 + 4 * j) 0 &&& 15)
def div4K (b : List UInt8) : Nat → List UInt8
  | 0 => b
  | j + 1 => (div4K b j).set (4 + 4 * j) ((div4K b j).getD (4 + 4 * j) 0 &&& 252)
theorem mod16K_length (b : List UInt8) : ∀ j, (mod16K b j).length = b.length
  | 0 => rfl
  | j + 1 => by rw [mod16K, List.length_set, mod16K_length b j]
theorem div4K_length (b : List UInt8) : ∀ j, (div4K b j).length = b.length
  | 0 => rfl
  | j + 1 => by rw [div4K, List.length_set, div4K_length b j]
theorem clamp_parts (b : List UInt8) (h : b.length = 16) : div4K (mod16K b 4) 3 = clampL b := by
  obtain ⟨a, b, c, d, e, f, g, h, i, j, k, l, m, n, o, p, rfl⟩ := list16 b h
  rw [clampL_form]
  rfl
theorem and15_ex (c : UInt8) : ∃ z : UInt8, Hid (z = c &&& 15) ∧ ((c.toNat : Int) % 16) = (z.toNat : Int) := by
  refine ⟨_, rfl, ?_⟩
  rw [UInt8.toNat_and, show (15 : UInt8).toNat = 2 ^ 4 - 1 from rfl, Nat.and_two_pow_sub_one_eq_mod]
  omega
theorem and252 : ∀ x : Fin 256, (x.val / 4 * 4) = x.val &&& 252 := by decide +kernel
theorem and252_ex (c : UInt8) : ∃ z : UInt8, Hid (z = c &&& 252) ∧ ((c.toNat : Int) / 4 * 4) = (z.toNat : Int) := by
  refine ⟨_, rfl, ?_⟩
  rw [UInt8.toNat_and, show (252 : UInt8).toNat = 252 from rfl, ← and252 ⟨c.toNat, c.toNat_lt⟩]
  show (c.toNat : Int) / 4 * 4 = ((c.toNat / 4 * 4 : Nat) : Int)
  omega
set_option maxRecDepth 100000 in
set_option maxHeartbeats 2000000 in
theorem clampR_any (b : List UInt8) (hb : b.length = 16) (w : World) :
    Calls Try.prog 78 #[.agg (W8 b)] w fun e w' => e = .returned (.agg (W8 (clampL b))) ∧ Below w.heap.size w w' := by
  have HB := Lib.hid hb
  have Z := Lib.hid zero16
  clear hb
  go_enter Try.func78, Try.ntmps78
  go_wp2_with fail
  rw [← Z.out]
  obtain ⟨w1, hw1⟩ : ∃ w1, w1 = (w.alloc (.cells (W8 b) 82)).alloc (.cells (W8 Z16) 82) := ⟨_, rfl⟩
  have S1 := Lib.hid (show BW w 82 w.heap.size (mod16K b 0) w1 ∧ BW w 82 (w.heap.size + 1) Z16 w1 by
    have hb : Below w.heap.size w w1 := by rw [hw1]; exact ((Below.refl _ _).alloc (Nat.le_refl _) _).alloc (by simp) _
    rw [hw1] at hb ⊢
    exact ⟨⟨ha_old _ _ _ (by simp) (ha_new _ _ _ rfl), by omega, hb⟩, ⟨ha_new _ _ _ (by simp), by omega, hb⟩⟩)
  rw [← hw1]
  clear hw1
  go_loopw [3] (fun u wr => ∃ t : Nat, t ≤ 4 ∧ u = .int .i64 (3 + 4 * (t : Int)) ∧ BW w 82 w.heap.size (mod16K b t) wr ∧ BW w 82 (w.heap.size + 1) Z16 wr) (fun u _ => 20 - (intOf u).toNat)
  case atStart => exact ⟨0, by omega, rfl, S1.out⟩
  case round =>
    obtain ⟨t, ht, rfl, hs⟩ := hrel
    have T := Lib.hid ht
    have S2 := Lib.hid hs
    clear ht hs S1
    obtain ⟨q, hq⟩ : ∃ q, q = mod16K b t := ⟨_, rfl⟩
    rw [← hq] at S2
    have QL := Lib.hid (show q.length = 16 by rw [hq]; simp only [mod16K_length, div4K_length]; exact HB.out)
    have Q := Lib.hid hq
    clear hq
    have t4 : (t : Int) ≤ 4 := by have := T.out; omega
    have b0 : (0 : Int) ≤ 3 + 4 * (t : Int) := by omega
    by_cases hlt : t < 4
    · have hD : decide (3 + 4 * (t : Int) < 16) = true := by simp; omega
      obtain ⟨x, hx⟩ : ∃ x, x = q.getD (3 + 4 * t) 0 := ⟨_, rfl⟩
      have a1 := row_cell S2.out.1.b (3 + 4 * t) (W8_get _ (3 + 4 * t) (by rw [QL.out]; omega))
      have f1 := row_free S2.out.1.b (3 + 4 * t)
      rw [← hx] at a1
      have X := Lib.hid hx
      obtain ⟨y, hy, e1⟩ := and15_ex x
      have e2 : (3 + 4 * (t : Int)).toNat = 3 + 4 * t := by omega
      have b1 : 3 + 4 * (t : Int) < 16 := by omega
      have xb := u8_lt x
      clear hx
      go_upto_region 3 with fail
      rw [show World.setCell wr ⟨w.heap.size, 3 + 4 * t, none⟩ _ = World.setCell wr ⟨w.heap.size, 3 + 4 * t, none⟩ (.int .u8 (y.toNat : Int)) from rfl]
      obtain ⟨w3, hw3⟩ : ∃ w3, w3 = World.setCell wr ⟨w.heap.size, 3 + 4 * t, none⟩ (.int .u8 (y.toNat : Int)) := ⟨_, rfl⟩
      rw [← hw3]
      have S3 := Lib.hid (show BW w 82 w.heap.size (mod16K b (t + 1)) w3 ∧ BW w 82 (w.heap.size + 1) Z16 w3 by
        have e : mod16K b (t + 1) = q.set (3 + 4 * t) y := by rw [hy.out, X.out, Q.out]; rfl
        rw [e, hw3]
        exact ⟨S2.out.1.set _ _, S2.out.2.away (by omega) (by omega) (grown1 _ _ _ _)⟩)
      clear hw3 e1 e2 a1 f1 hD
      go_wp2_with fail
      go_roundw
      case rel => exact ⟨t + 1, by omega, by go_num, S3.out⟩
      case measure => simp [intOf]; omega
    · have hD : decide (3 + 4 * (t : Int) < 16) = false := by simp; omega
      have TE := Lib.hid (show t = 4 by have := T.out; omega)
      clear hlt
      obtain ⟨c, hc⟩ : ∃ c, c = mod16K b 4 := ⟨_, rfl⟩
      have CE := Lib.hid hc
      have CL := Lib.hid (show c.length = 16 by rw [hc, mod16K_length]; exact HB.out)
      have S1 := Lib.hid (show BW w 82 w.heap.size (div4K c 0) wr ∧ BW w 82 (w.heap.size + 1) Z16 wr by
        have h := S2.out
        rw [Q.out, TE.out, ← hc] at h
        exact h)
      clear hc
      go_wp2_with fail
      clear hD T t4 b0 TE Q QL S2
      go_loopw [4] (fun u wr => ∃ t : Nat, t ≤ 3 ∧ u = .int .i64 (4 + 4 * (t : Int)) ∧ BW w 82 w.heap.size (div4K c t) wr ∧ BW w 82 (w.heap.size + 1) Z16 wr) (fun u _ => 20 - (intOf u).toNat)
      case atStart => exact ⟨0, by omega, rfl, S1.out⟩
      case round =>
        obtain ⟨t, ht, rfl, hs⟩ := hrel
        have T := Lib.hid ht
        have S2 := Lib.hid hs
        clear ht hs S1
        obtain ⟨q, hq⟩ : ∃ q, q = div4K c t := ⟨_, rfl⟩
        rw [← hq] at S2
        have QL := Lib.hid (show q.length = 16 by rw [hq]; rw [div4K_length]; exact CL.out)
        have Q := Lib.hid hq
        clear hq
        have t4 : (t : Int) ≤ 3 := by have := T.out; omega
        have b0 : (0 : Int) ≤ 4 + 4 * (t : Int) := by omega
        by_cases hlt : t < 3
        · have hD : decide (4 + 4 * (t : Int) < 16) = true := by simp; omega
          obtain ⟨x, hx⟩ : ∃ x, x = q.getD (4 + 4 * t) 0 := ⟨_, rfl⟩
          have a1 := row_cell S2.out.1.b (4 + 4 * t) (W8_get _ (4 + 4 * t) (by rw [QL.out]; omega))
          have f1 := row_free S2.out.1.b (4 + 4 * t)
          rw [← hx] at a1
          have X := Lib.hid hx
          obtain ⟨y, hy, e1⟩ := and252_ex x
          have e2 : (4 + 4 * (t : Int)).toNat = 4 + 4 * t := by omega
          have b1 : 4 + 4 * (t : Int) < 16 := by omega
          have xb := u8_lt x
          clear hx
          go_upto_region 7 with fail
          rw [show World.setCell wr ⟨w.heap.size, 4 + 4 * t, none⟩ _ = World.setCell wr ⟨w.heap.size, 4 + 4 * t, none⟩ (.int .u8 (y.toNat : Int)) from rfl]
          obtain ⟨w3, hw3⟩ : ∃ w3, w3 = World.setCell wr ⟨w.heap.size, 4 + 4 * t, none⟩ (.int .u8 (y.toNat : Int)) := ⟨_, rfl⟩
          rw [← hw3]
          have S3 := Lib.hid (show BW w 82 w.heap.size (div4K c (t + 1)) w3 ∧ BW w 82 (w.heap.size + 1) Z16 w3 by
            have e : div4K c (t + 1) = q.set (4 + 4 * t) y := by rw [hy.out, X.out, Q.out]; rfl
            rw [e, hw3]
            exact ⟨S2.out.1.set _ _, S2.out.2.away (by omega) (by omega) (grown1 _ _ _ _)⟩)
          clear hw3 e1 e2 a1 f1 hD
          go_wp2_with fail
          go_roundw
          case rel => exact ⟨t + 1, by omega, by go_num, S3.out⟩
          case measure => simp [intOf]; omega
        · have hD : decide (4 + 4 * (t : Int) < 16) = false := by simp; omega
          have TE := Lib.hid (show t = 3 by have := T.out; omega)
          clear hlt
          have QE := Lib.hid (show q = clampL b by rw [Q.out, TE.out, CE.out]; exact clamp_parts b HB.out)
          go_wp2_with (first
            | (refine wpList_load_row rfl 82 (.tmp 1) rfl w.heap.size rfl 82 (W8 q) (0, 0) _ S2.out.1.b Try.underlying82 rfl (info_16 QL.out) ?_)
            | (refine wpList_store_whole rfl rfl 82 (.tmp 2) (.tmp 26) rfl (w.heap.size + 1) (W8 q) rfl rfl 82 _ S2.out.2.b (info_16 QL.out) (by rw [W8_size, W8_size, QL.out]; rfl) (W8_one _) ?_; intro w8 hz8 hg8 _))
          exact bodyPost_ret (results_cell_row rfl _ _ (w.heap.size + 1) 82 (W8 q) (0, 0) _ rfl hz8 Try.underlying82 rfl (info_16 QL.out)) rfl ⟨by rw [QE.out], S2.out.2.ret hg8⟩
end Go.Proofs.Ytldjiigkebkgcaa

/- The document's tag: Sum. No condition but those each theorem states. -/
namespace Go.Proofs.Ytldjiigkebkgcaa
set_option linter.unusedVariables false
set_option linter.unusedSimpArgs false
open Go.RowKit
attribute [local go_sem ↓] Go.wp_at_zero Go.wp_at_succ

/-! ### plain -/
theorem valB_digit (o : List Nat) (ho : ∀ d ∈ o, d ≤ 255) (j : Nat) : o.getD j 0 = valB o / 256 ^ j % 256 := by
  have h1 := valB_split o j
  have h2 := tab_lt o ho j
  have h3 := valB_drop o j
  have h4 := getD_le ho j
  rw [h1, Nat.add_mul_div_left _ _ (Nat.pow_pos (by omega)), Nat.div_eq_of_lt h2, Nat.zero_add, h3]
  omega
theorem bytesN_low (x y : Nat) (h : x % 256 ^ 16 = y % 256 ^ 16) : bytesN x = bytesN y := by
  unfold bytesN
  apply List.map_congr_left
  intro j hj
  have hj16 : j < 16 := by simpa using hj
  apply UInt8.toNat_inj.1
  simp only [UInt8.toNat_ofNat', Nat.reducePow]
  obtain ⟨k, hk⟩ : ∃ k, 16 = j + 1 + k := ⟨16 - (j + 1), by omega⟩
  have key : ∀ z : Nat, z / 256 ^ j % 256 = (z % 256 ^ 16) / 256 ^ j % 256 := by
    intro z
    rw [hk, Nat.pow_add, Nat.mod_mul, Nat.pow_succ, Nat.mul_assoc, Nat.add_mul_div_left _ _ (Nat.pow_pos (by omega)), Nat.add_mul_mod_self_left, Nat.mod_mul, Nat.add_mul_div_left _ _ (Nat.pow_pos (by omega)), Nat.div_eq_of_lt (Nat.mod_lt _ (Nat.pow_pos (by omega))), Nat.zero_add, Nat.mod_mod]
  rw [key x, key y, h]
theorem bytesN_tag (x : Nat) (s : List UInt8) : bytesN (x + leNat s) = bytesN (tagN x s) := by
  apply bytesN_low
  unfold tagN
  rw [show (340282366920938463463374607431768211456 : Nat) = 256 ^ 16 from by decide +kernel]
  rw [Nat.mod_add_mod]
theorem poly_small (acc : Nat) (b r : List UInt8) (ha : acc < PN) (hb : b.length ≤ 16) (hr : r.length ≤ 16) : (acc + leNat (b ++ [1])) * leNat r < 256 ^ 37 := by
  have h1 : leNat (b ++ [1]) < 256 ^ 17 := by
    have := leNat_lt (b ++ [1])
    rw [List.length_append, List.length_singleton] at this
    exact Nat.lt_of_lt_of_le this (Nat.pow_le_pow_right (by omega) (by omega))
  have h2 : leNat r < 256 ^ 16 := Nat.lt_of_lt_of_le (leNat_lt r) (Nat.pow_le_pow_right (by omega) hr)
  have h3 : PN < 256 ^ 17 := by decide +kernel
  have h4 : (acc + leNat (b ++ [1])) * leNat r ≤ (2 * 256 ^ 17) * 256 ^ 16 := Nat.mul_le_mul (by omega) (by omega)
  have h5 : (2 * 256 ^ 17) * 256 ^ 16 < 256 ^ 37 := by decide +kernel
  omega
/-! ### walked -/
structure PtW (w : World) (key half : List UInt8) (W : World) : Prop where
  bk : BW w 36 w.heap.size key W
  bo : BW w 82 (w.heap.size + 1) Z16 W
  bh : BW w 82 (w.heap.size + 1 + 1) half W
theorem PtW.keep {w W W' : World} {key half : List UInt8} (h : PtW w key half W) (hb : Below W.heap.size W W') : PtW w key half W' := ⟨h.bk.keep hb, h.bo.keep hb, h.bh.keep hb⟩
theorem PtW.own {w W W' : World} {key half : List UInt8} {r : Option Nat} (h : PtW w key half W) (hg : W.grownBy W' r) (hr : ∀ g, r = some g → w.heap.size + 1 + 1 < g) : PtW w key half W' := by
  have hb : Below w.heap.size W W' := grown_below hg h.bk.bel.size (fun g e => by have := hr g e; omega)
  exact ⟨⟨grown_block hg (fun e => by have := hr _ e.symm; omega) h.bk.b, h.bk.hg, h.bk.bel.trans hb⟩, ⟨grown_block hg (fun e => by have := hr _ e.symm; omega) h.bo.b, h.bo.hg, h.bo.bel.trans hb⟩, ⟨grown_block hg (fun e => by have := hr _ e.symm; omega) h.bh.b, h.bh.hg, h.bh.bel.trans hb⟩⟩
theorem PtW.lt {w W : World} {key half : List UInt8} (h : PtW w key half W) : w.heap.size + 1 + 1 < W.heap.size := row_lt h.bh.b
set_option maxRecDepth 100000 in
set_option maxHeartbeats 8000000 in
theorem rpsum_any (key : List UInt8) (hk : key.length = 32) (l : List UInt8) (n : Nat) (hn : l.length = n) (hm : n ≤ 3000) (w : World) :
    Calls Try.prog 65 #[.agg (W8 key), .string (strB l)] w fun e w' => e = .returned (.agg (W8 (polyL key l))) ∧ Below w.heap.size w w' := by
  have SZ0 := strB_size l
  rw [hn] at SZ0
  have SZ := Lib.hid SZ0
  have HN := Lib.hid hn
  have HK := Lib.hid hk
  have HM := Lib.hid hm
  have NT := Lib.hid numT
  have Z := Lib.hid zero16
  have nb : (n : Int) ≤ 3000 := by omega
  obtain ⟨P, hP⟩ : ∃ P, P = polyL key l := ⟨_, rfl⟩
  rw [← hP]
  have PE := Lib.hid hP
  obtain ⟨k16, hk16⟩ : ∃ k, k = key.take 16 := ⟨_, rfl⟩
  have KE := Lib.hid hk16
  have HL := Lib.hid (show k16.length = 16 by rw [hk16, List.length_take, hk]; rfl)
  have DL := Lib.hid (show (key.drop 16).length = 16 by rw [List.length_drop, hk])
  clear SZ0 hn hk hm hP hk16
  go_enter Try.func65, Try.ntmps65
  go_upto_block 0 with fail
  rw [← Z.out]
  generalize hw1 : World.alloc w _ = w1
  generalize hw2 : World.alloc w1 _ = w2
  generalize hw3 : World.alloc w2 _ = w3
  have S := Lib.hid (show PtW w key (partB k16 0) w3 by
    have s1 : w1.heap.size = w.heap.size + 1 := by rw [← hw1, ha_size]
    have s2 : w2.heap.size = w.heap.size + 1 + 1 := by rw [← hw2, ha_size, s1]
    have hb : Below w.heap.size w w3 := by rw [← hw3, ← hw2, ← hw1]; exact (((Below.refl _ _).alloc (Nat.le_refl _) _).alloc (by simp) _).alloc (by simp <;> omega) _
    have eZ : partB k16 0 = Z16 := by rw [partB_zero, HL.out]; rfl
    rw [eZ]
    refine ⟨⟨?_, by omega, hb⟩, ⟨?_, by omega, hb⟩, ⟨?_, by omega, hb⟩⟩
    · rw [← hw3]; exact ha_old _ _ _ (by omega) (by rw [← hw2]; exact ha_old _ _ _ (by omega) (by rw [← hw1]; exact ha_new _ _ _ rfl))
    · rw [← hw3]; exact ha_old _ _ _ (by omega) (by rw [← hw2]; exact ha_new _ _ _ s1.symm)
    · rw [← hw3]; exact ha_new _ _ _ s2.symm)
  clear hw1 hw2 hw3
  go_cut [5] (fun v wx => v = .pointer (some ⟨w.heap.size + 1 + 1, 0, none⟩) ∧ PtW w key k16 wx)
  case first =>
    go_wp2_with fail
    go_loopw [6] (fun i wr => ∃ j : Nat, j ≤ 16 ∧ i = .int .i64 (j : Int) ∧ PtW w key (partB k16 j) wr) (fun i _ => 16 - (intOf i).toNat)
    case atStart => exact ⟨0, by omega, rfl, S.out⟩
    case round =>
      obtain ⟨j, hj, rfl, hs⟩ := hrel
      have J := Lib.hid hj
      have S2 := Lib.hid hs
      clear hj hs
      by_cases hlt : j < 16
      · have hD : decide ((j : Int) < 16) = true := by simp; omega
        obtain ⟨x, hx⟩ : ∃ x, x = key.getD j 0 := ⟨_, rfl⟩
        have XE := Lib.hid (show x = k16.getD j 0 by rw [hx, KE.out]; simp [List.getD_eq_getElem?_getD, List.getElem?_take, hlt])
        have a1 := row_cell S2.out.bk.b j (W8_get _ j (by rw [HK.out]; omega))
        rw [← hx] at a1
        have a2 := row_cell S2.out.bh.b j (W8_get _ j (by rw [partB_length, HL.out]; omega))
        have f2 := row_free S2.out.bh.b j
        have jb : (j : Int) < 16 := by omega
        have J16 := Lib.hid hlt
        clear hx hlt
        go_upto_region 4 with fail
        obtain ⟨w4, hw4⟩ : ∃ w4, w4 = wr.setCell ⟨w.heap.size + 1 + 1, j, none⟩ (.int .u8 (x.toNat : Int)) := ⟨_, rfl⟩
        rw [← hw4]
        have S3 := Lib.hid (show PtW w key (partB k16 (j + 1)) w4 by
          rw [hw4, ← partB_set _ _ (by rw [HL.out]; exact J16.out), ← XE.out]
          exact ⟨S2.out.bk.away (by omega) (by omega) (grown1 _ _ _ _), S2.out.bo.away (by omega) (by omega) (grown1 _ _ _ _), S2.out.bh.set _ _⟩)
        clear hw4 a1 a2 f2 hD
        go_wp2_with fail
        go_roundw
        case rel => exact ⟨j + 1, by have := J16.out; omega, by go_num, S3.out⟩
        case measure => have := J16.out; simp [intOf]; omega
      · have hD : decide ((j : Int) < 16) = false := by simp; omega
        have J16 := Lib.hid (show j = 16 by have := J.out; omega)
        go_wp2_with fail
        go_meet
        refine ⟨rfl, ?_⟩
        have h := S2.out
        rw [J16.out, ← HL.out, partB_full] at h
        exact h
  case rest =>
  obtain ⟨rfl, hs⟩ := hcut
  have S := Lib.hid hs
  clear hs
  go_wp2_with (refine wpList_val rfl (run_load_row 82 (.tmp 5) rfl (w.heap.size + 1 + 1) rfl 82 (W8 k16) (0, 0) _ S.out.bh.b Try.underlying82 rfl (info_16 HL.out)) ?_)
  refine (clampR_any k16 HL.out wc).mono ?_
  obtain ⟨half, hhalf⟩ : ∃ h, h = clampL k16 := ⟨_, rfl⟩
  rw [← hhalf]
  have HE := Lib.hid hhalf
  have HL2 := Lib.hid (show half.length = 16 by rw [hhalf, clampL_length, HL.out])
  rintro e w4 ⟨rfl, hb⟩
  have S := Lib.hid (S.out.keep hb)
  clear hb hhalf
  go_upto_region 7 with (refine storeM_list rfl 82 (.tmp 5) (.tmp 24) rfl (w.heap.size + 1 + 1) 0 (W8 half) rfl rfl _ _ S.out.bh.b (info_16 HL2.out) (by rw [W8_size, W8_size, HL2.out, HL.out]; omega) (W8_one _) ?_; intro w5 hz5 hg5 hs5)
  have S := Lib.hid (show PtW w key half w5 from ⟨S.out.bk.away (by omega) (by omega) hg5, S.out.bo.away (by omega) (by omega) hg5, ⟨by
    rw [hz5]
    congr 2
    rw [List.take_zero, List.nil_append, List.drop_of_length_le (by rw [W8_size, HL2.out]; have := HL.out; simp [W8]; omega), List.append_nil], by omega, S.out.bh.ret hg5⟩⟩)
  clear hz5 hg5 hs5
  go_upto_block 2 with fail
  obtain ⟨s, hs⟩ : ∃ s, s = key.drop 16 := ⟨_, rfl⟩
  have SE := Lib.hid hs
  have SL := Lib.hid (show s.length = 16 by rw [hs]; exact DL.out)
  clear hs
  go_cut [7, 8] (fun u v wx => ∃ A c A' c', u = .slice A 16 c ∧ v = .slice A' 16 c' ∧ RdV wx A (NumV (natL half)) ∧ RdV wx A' (NumV (natL s)) ∧ PtW w key half wx)
  case first =>
    go_wp2_with fail
    go_loopw [7, 8, 10] (fun u v i wr => ∃ j : Nat, j ≤ 16 ∧ i = .int .i64 (j : Int) ∧ OwnV wr w5.heap.size 3 u (NumV (natL (half.take j))) ∧ OwnV wr w5.heap.size 3 v (NumV (natL (s.take j))) ∧ (∀ g, u.ownBlock = some g → v.ownBlock ≠ some g) ∧ PtW w key half wr ∧ w5.heap.size ≤ wr.heap.size) (fun _ _ i _ => 16 - (intOf i).toNat)
    case atStart => exact ⟨0, by omega, rfl, OwnV.nil _ _ _, OwnV.nil _ _ _, by simp [Value.ownBlock], S.out, Nat.le_refl _⟩
    case round =>
      obtain ⟨j, hj, rfl, ho7, ho8, hne, hs, hsz⟩ := hrel
      have J := Lib.hid hj
      have O7 := Lib.hid ho7
      have O8 := Lib.hid ho8
      have NE := Lib.hid hne
      have S2 := Lib.hid hs
      have Z2 := Lib.hid hsz
      have L5 := Lib.hid S.out.lt
      clear hj ho7 ho8 hne hs hsz
      by_cases hlt : j < 16
      · have hD : decide ((j : Int) < 16) = true := by simp; omega
        have J16 := Lib.hid hlt
        obtain ⟨x, hx⟩ : ∃ x, x = half.getD j 0 := ⟨_, rfl⟩
        obtain ⟨y, hy⟩ : ∃ y, y = s.getD j 0 := ⟨_, rfl⟩
        obtain ⟨a, ha⟩ : ∃ a : Nat, a = x.toNat := ⟨_, rfl⟩
        obtain ⟨b, hb⟩ : ∃ b : Nat, b = y.toNat := ⟨_, rfl⟩
        have ea : (x.toNat : Int) = (a : Int) := by rw [ha]
        have eb : (y.toNat : Int) = (b : Int) := by rw [hb]
        have ab : (a : Int) ≤ 255 := by have := x.toNat_lt; omega
        have bb : (b : Int) ≤ 255 := by have := y.toNat_lt; omega
        have TA := Lib.hid (show NumV (natL (half.take (j + 1))) = NumV (natL (half.take j)) ++ [.int .i64 (a : Int)] by rw [natL_snoc half j (by rw [HL2.out]; exact hlt), NumV_append, ← hx, ← ha]; rfl)
        have TB := Lib.hid (show NumV (natL (s.take (j + 1))) = NumV (natL (s.take j)) ++ [.int .i64 (b : Int)] by rw [natL_snoc s j (by rw [SL.out]; exact hlt), NumV_append, ← hy, ← hb]; rfl)
        have a1 := row_cell S2.out.bh.b j (W8_get _ j (by rw [HL2.out]; exact hlt))
        rw [← hx] at a1
        have jb : (j : Int) < 16 := by omega
        have LA := Lib.hid (show (NumV (natL (half.take j))).length ≤ 16 by rw [NumV_length, natL_length, List.length_take]; omega)
        have LBB := Lib.hid (show (NumV (natL (s.take j))).length ≤ 16 by rw [NumV_length, natL_length, List.length_take]; omega)
        have YK := Lib.hid (show key.getD (16 + j) 0 = y by rw [hy, SE.out]; simp [List.getD_eq_getElem?_getD, List.getElem?_drop])
        clear hx hy ha hb hlt
        go_wp2_with (refine appV_list rfl NT.out (.tmp 29) (.tmp 34) rfl w5.heap.size _ (NumV (natL (half.take j))) [.int .i64 (a : Int)] (some ⟨wr.heap.size, 0, none⟩) 1 1 rfl rfl rfl (O7.out.alloc _) (RdV.one (row_cell (fr := (0, 0)) (ha_new wr _ _ rfl) 0 rfl)) (by intro u hu; simp at hu; subst hu; rfl) ?c1 ?c2 ?c3 ?_)
        case c1 => have := Z2.out; rw [ha_size]; omega
        case c2 => have := LA.out; omega
        case c3 => have := LA.out; omega
        intro v7 w6 ho hg hat
        obtain ⟨wa, hwa⟩ : ∃ wa, wa = wr.alloc (.cells #[.int .i64 (a : Int)] 3) := ⟨_, rfl⟩
        rw [← hwa] at hg
        have bA := Lib.hid (show Below wr.heap.size wr wa by rw [hwa]; exact below_new2 _ _)
        have SA := Lib.hid (S2.out.keep bA.out)
        have S3 := Lib.hid (SA.out.own hg (fun g e => by have := (O7.out.lt g e).1; have := L5.out; omega))
        have Z3 := Lib.hid (Nat.le_trans Z2.out (Nat.le_trans bA.out.size hg.size))
        have O8b := Lib.hid ((O8.out.below bA.out).grown hg (by
          rcases hq : u8.ownBlock with _ | g
          · exact .inl rfl
          · exact .inr (fun h => NE.out g h.symm hq)))
        have NE := Lib.hid (show ∀ g, v7.ownBlock = some g → u8.ownBlock ≠ some g by
          intro g hg' he
          rcases hat with h | h
          · exact NE.out g (h ▸ hg') he
          · rw [h] at hg'
            injection hg' with hg'
            have := (O8.out.lt g he).2
            have := bA.out.size
            omega)
        have O7b := Lib.hid (show OwnV w6 w5.heap.size 3 v7 (NumV (natL (half.take (j + 1)))) by rw [TA.out]; exact ho)
        have a2 := row_cell S3.out.bk.b (16 + j) (W8_get _ (16 + j) (by rw [HK.out]; have := J16.out; omega))
        rw [YK.out] at a2
        have e16 : (16 + (j : Int)).toNat = 16 + j := by omega
        have b16 : 16 + (j : Int) < 32 := by omega
        clear ho hg hat hwa a1 ea O7 O8 SA bA hD
        go_wp2_with (refine appV_list rfl NT.out (.tmp 36) (.tmp 42) rfl w5.heap.size _ (NumV (natL (s.take j))) [.int .i64 (b : Int)] (some ⟨w6.heap.size, 0, none⟩) 1 1 rfl rfl rfl (O8b.out.alloc _) (RdV.one (row_cell (fr := (0, 0)) (ha_new w6 _ _ rfl) 0 rfl)) (by intro u hu; simp at hu; subst hu; rfl) ?c1 ?c2 ?c3 ?_)
        case c1 => have := Z3.out; rw [ha_size]; omega
        case c2 => have := LBB.out; omega
        case c3 => have := LBB.out; omega
        intro v8 w7 ho hg hat
        obtain ⟨wa, hwa⟩ : ∃ wa, wa = w6.alloc (.cells #[.int .i64 (b : Int)] 3) := ⟨_, rfl⟩
        rw [← hwa] at hg
        have bA := Lib.hid (show Below w6.heap.size w6 wa by rw [hwa]; exact below_new2 _ _)
        have SA := Lib.hid (S3.out.keep bA.out)
        have S4 := Lib.hid (SA.out.own hg (fun g e => by have := (O8b.out.lt g e).1; have := L5.out; omega))
        have Z4 := Lib.hid (Nat.le_trans Z3.out (Nat.le_trans bA.out.size hg.size))
        have O7c := Lib.hid ((O7b.out.below bA.out).grown hg (by
          rcases hq : v7.ownBlock with _ | g
          · exact .inl rfl
          · exact .inr (fun h => NE.out g hq h.symm)))
        have NE := Lib.hid (show ∀ g, v7.ownBlock = some g → v8.ownBlock ≠ some g by
          intro g hg' he
          rcases hat with h | h
          · exact NE.out g hg' (h ▸ he)
          · rw [h] at he
            injection he with he
            have := (O7b.out.lt g hg').2
            have := bA.out.size
            omega)
        have O8c := Lib.hid (show OwnV w7 w5.heap.size 3 v8 (NumV (natL (s.take (j + 1)))) by rw [TB.out]; exact ho)
        clear ho hg hat hwa a2 eb O7b O8b SA bA e16 b16
        go_wp2_with fail
        go_roundw
        case rel => exact ⟨j + 1, by have := J16.out; omega, by go_num, O7c.out, O8c.out, NE.out, S4.out, Z4.out⟩
        case measure => have := J16.out; simp [intOf]; omega
      · have hD : decide ((j : Int) < 16) = false := by simp; omega
        have J16 := Lib.hid (show j = 16 by have := J.out; omega)
        obtain ⟨A7, c7, hu7, hr7, _, _, _⟩ := O7.out.read
        obtain ⟨A8, c8, hu8, hr8, _, _, _⟩ := O8.out.read
        have T7 := Lib.hid (show half.take j = half from List.take_of_length_le (by rw [HL2.out, J16.out]; omega))
        have T8 := Lib.hid (show s.take j = s from List.take_of_length_le (by rw [SL.out, J16.out]; omega))
        rw [NumV_length, natL_length, T7.out, HL2.out] at hu7
        rw [NumV_length, natL_length, T8.out, SL.out] at hu8
        rw [T7.out] at hr7
        rw [T8.out] at hr8
        have R7 := Lib.hid hr7
        have R8 := Lib.hid hr8
        rw [hu7, hu8]
        clear hu7 hu8 hr7 hr8 hlt
        go_wp2_with fail
        go_meet
        exact ⟨A7, c7, A8, c8, rfl, rfl, R7.out, R8.out, S2.out⟩
  case rest =>
  obtain ⟨A7, c7, A8, c8, rfl, rfl, hr7, hr8, hs⟩ := hcut
  have R7 := Lib.hid hr7
  have R8 := Lib.hid hr8
  have S := Lib.hid hs
  obtain ⟨wm, hwm⟩ : ∃ x : World, x = wc := ⟨_, rfl⟩
  rw [← hwm] at R7 R8 S ⊢
  clear hr7 hr8 hs hwm
  obtain ⟨r0, hr0⟩ : ∃ r, r = leNat half := ⟨_, rfl⟩
  have R0 := Lib.hid hr0
  have PA := Lib.hid (show P = bytesN (tagN (polyA r0 0 l) s) by rw [PE.out, polyL, ← KE.out, ← HE.out, ← SE.out, ← hr0])
  clear hr0
  go_wp2_with fail
  go_loopw [9, 11] (fun u i wr => ∃ (o : List Nat) (p : Nat) (A : Option Addr) (m c : Nat), p ≤ n + 15 ∧ i = .int .i64 (p : Int) ∧ u = .slice A m c ∧ o.length = m ∧ m ≤ 37 ∧ RdV wr A (NumV o) ∧ (∀ d ∈ o, d ≤ 255) ∧ polyA r0 0 l = polyA r0 (valB o) (l.drop p) ∧ valB o < PN ∧ Below wm.heap.size wm wr) (fun _ i _ => 4000 - (intOf i).toNat)
  case atStart => exact ⟨[], 0, none, 0, 0, by omega, rfl, rfl, rfl, by omega, RdV.nil _ _, by simp, rfl, by decide, Below.refl _ _⟩
  case round =>
    obtain ⟨o, p, A, m, c, hp, rfl, rfl, ho, hm, hr, hd, hv, hvP, hb⟩ := hrel
    have PN15 := Lib.hid hp
    have OL := Lib.hid ho
    have M := Lib.hid hm
    have R := Lib.hid hr
    have D := Lib.hid hd
    have V := Lib.hid hv
    have VP := Lib.hid hvP
    have B := Lib.hid hb
    have pb : (p : Int) ≤ 3100 := by have := HM.out; omega
    clear hp ho hm hr hd hv hvP hb
    by_cases hlt : p < n
    · have hD : decide ((p : Int) < (n : Int)) = true := by simp; omega
      have hD2 : decide (p < n) = true := by simp; omega
      have P1 := Lib.hid hlt
      obtain ⟨q, hq⟩ : ∃ q, q = min (p + 16) n := ⟨_, rfl⟩
      have e1 : (if (n : Int) < (p : Int) + 16 then (n : Int) else (p : Int) + 16) = (q : Int) := by split <;> omega
      have Q := Lib.hid hq
      obtain ⟨x, hx⟩ : ∃ x, x = (l.drop p).take (q - p) := ⟨_, rfl⟩
      have XL := Lib.hid (show x.length = q - p by rw [hx, List.length_take, List.length_drop, HN.out]; omega)
      have XE := Lib.hid (show x = (l.drop p).take 16 by
        rw [hx]
        rcases Nat.lt_or_ge (p + 16) n with h | h
        · rw [hq, Nat.min_eq_left (by omega), show p + 16 - p = 16 by omega]
        · rw [hq, Nat.min_eq_right (by omega), List.take_of_length_le (by rw [List.length_drop, HN.out]; omega), List.take_of_length_le (by rw [List.length_drop, HN.out]; omega)])
      have XS := Lib.hid hx.symm
      have SZ2 := SZ.out
      clear hq hx hlt
      go_upto_region 16 with fail
      go_wp2_with (refine wpList_val rfl (run_str_mid 9 (.tmp 51) (.tmp 52) (.tmp 57) rfl Try.underlying9 l p q (by have := Q.out; have := P1.out; omega) (by rw [HN.out]; have := Q.out; omega) rfl .i64 .i64 _ _ rfl rfl rfl rfl _) ?_)
      rw [XS.out]
      clear SZ2 e1
      refine (of_any' x (q - p) XL.out (by have := Q.out; omega) wr).mono ?_
      rintro e w6 ⟨v, rfl, ho, hb⟩
      obtain ⟨A1, c1, rfl, hr1, _, _, _⟩ := ho.read
      have L1 := Lib.hid (show (NumV (natL (x ++ [1]))).length = q - p + 1 by rw [NumV_length, natL_length, List.length_append, XL.out]; rfl)
      rw [L1.out]
      have R1 := Lib.hid hr1
      have RA := Lib.hid (R.out.keep hb)
      have B := Lib.hid (B.out.trans (hb.mono B.out.size))
      clear ho hr1 hb
      go_wp2_with fail
      refine (nsum_any o (natL (x ++ [1])) D.out (natL_le _) A m c OL.out A1 (q - p + 1) c1 (by have := L1.out; rwa [NumV_length] at this) (by have := M.out; omega) (by have := Q.out; omega) w6 RA.out R1.out).mono ?_
      rw [valB_natL]
      obtain ⟨acc, hacc⟩ : ∃ a, a = valB o := ⟨_, rfl⟩
      rw [← hacc]
      have AE := Lib.hid hacc
      have SM := Lib.hid (poly_small acc x half (by rw [hacc]; exact VP.out) (by rw [XL.out]; have := Q.out; omega) (by rw [HL2.out]; omega))
      clear hacc
      rintro e w7 ⟨v, o2, rfl, ho, hdg, hb⟩
      obtain ⟨A2, c2, rfl, hr2, _, _, _⟩ := ho.read
      rw [NumV_length]
      have R2 := Lib.hid hr2
      have D2 := Lib.hid hdg
      have L2 := Lib.hid (show o2.length ≤ 37 by
        have h17 : acc + leNat (x ++ [1]) < 256 ^ 37 := by
          have h1 : acc < PN := by rw [AE.out]; exact VP.out
          have h2 := leNat_lt (x ++ [1])
          rw [List.length_append, XL.out, List.length_singleton] at h2
          have h3 : (256 : Nat) ^ (q - p + 1) ≤ 256 ^ 17 := Nat.pow_le_pow_right (by omega) (by have := Q.out; omega)
          have h4 : PN + 256 ^ 17 < 256 ^ 37 := by decide +kernel
          omega
        have := hdg.few h17
        have := M.out
        have := Q.out
        omega)
      have RH := Lib.hid ((R7.out.keep B.out).keep hb)
      have B := Lib.hid (B.out.trans (hb.mono B.out.size))
      clear ho hr2 hdg hb
      go_wp2_with fail
      refine (ntim_any o2 (natL half) D2.out.d255 (natL_le _) A2 o2.length c2 rfl A7 16 c7 (by rw [natL_length, HL2.out]) (by have := L2.out; omega) (by omega) w7 R2.out RH.out).mono ?_
      rw [D2.out.val, valB_natL]
      rintro e w8 ⟨v, o3, rfl, ho, hdg, hb⟩
      obtain ⟨A3, c3, rfl, hr3, _, _, _⟩ := ho.read
      rw [NumV_length]
      have R3 := Lib.hid hr3
      have D3 := Lib.hid hdg
      have L3 := Lib.hid (show o3.length ≤ 60 by have := hdg.few SM.out; have := L2.out; omega)
      have B := Lib.hid (B.out.trans (hb.mono B.out.size))
      clear ho hr3 hdg hb
      go_wp2_with fail
      refine (mod_any o3 D3.out.d255 (by rw [D3.out.val]; exact SM.out) A3 o3.length c3 rfl L3.out w8 R3.out).mono ?_
      rw [D3.out.val, ← R0.out]
      rintro e w9 ⟨A4, c4, m4, o4, rfl, hl4, hm4, hr4, hd4, hv4, hb⟩
      have L4 := Lib.hid hl4
      have M4 := Lib.hid hm4
      have R4 := Lib.hid hr4
      have D4 := Lib.hid hd4
      have V4 := Lib.hid hv4
      have B := Lib.hid (B.out.trans (hb.mono B.out.size))
      have NX := Lib.hid (show polyA r0 0 l = polyA r0 (valB o4) (l.drop (p + 16)) by
        rw [V.out, polyA_cons r0 _ (l.drop p) (by intro h; have h2 := congrArg List.length h; rw [List.length_drop, HN.out] at h2; simp at h2; have := P1.out; omega), ← XE.out, ← AE.out, V4.out, List.drop_drop])
      clear hl4 hm4 hr4 hd4 hv4 hb hD hD2
      go_wp2_with fail
      go_roundw
      case rel => exact ⟨o4, p + 16, A4, m4, c4, by have := P1.out; omega, by go_num, rfl, L4.out, M4.out, R4.out, D4.out, NX.out, by rw [V4.out]; exact Nat.mod_lt _ (by decide), B.out⟩
      case measure => have := HM.out; have := PN15.out; simp [intOf]; omega
    · have hD : decide ((p : Int) < (n : Int)) = false := by simp; omega
      have hD2 : decide (p < n) = false := by simp; omega
      have VF := Lib.hid (show polyA r0 0 l = valB o by rw [V.out, List.drop_of_length_le (by rw [HN.out]; omega), polyA_nil])
      have SZ2 := SZ.out
      go_upto_region 17 with fail
      clear SZ2 hD hD2 hlt
      go_wp2_with fail
      refine (nsum_any o (natL s) D.out (natL_le _) A m c OL.out A8 16 c8 (by rw [natL_length, SL.out]) (by have := M.out; omega) (by omega) wr R.out (R8.out.keep B.out)).mono ?_
      rw [valB_natL, ← VF.out]
      obtain ⟨T, hT⟩ : ∃ T, T = polyA r0 0 l + leNat s := ⟨_, rfl⟩
      rw [← hT]
      have PT := Lib.hid (show P = bytesN T by rw [PA.out, hT, bytesN_tag])
      rintro e w6 ⟨v, o2, rfl, ho, hdg, hb⟩
      obtain ⟨A2, c2, rfl, hr2, _, _, hbk2⟩ := ho.read
      have R2A := Lib.hid (show ∀ a, A2 = some a → a.block < w6.heap.size from fun a e => (hbk2 a e).2)
      rw [NumV_length]
      obtain ⟨m2, hm2⟩ : ∃ m, m = o2.length := ⟨_, rfl⟩
      rw [← hm2]
      have M2 := Lib.hid hm2.symm
      have R2 := Lib.hid hr2
      have D2 := Lib.hid hdg
      have B := Lib.hid (B.out.trans (hb.mono B.out.size))
      have S2 := Lib.hid (S.out.keep B.out)
      clear ho hr2 hdg hb hT hm2
      go_upto_block 6 with fail
      rw [← Z.out]
      generalize hM : Array.size (World.heap w6) = MM
      generalize hw : World.alloc w6 _ = w7
      have PL := Lib.hid (show P.length = 16 by rw [PT.out, bytesN_length])
      have W7 := Lib.hid (show BW w 82 MM (partB P 0) w7 ∧ PtW w key half w7 by
        have eZ : partB P 0 = Z16 := by rw [partB_zero, PL.out]; rfl
        rw [eZ]
        have h := S2.out.keep (show Below w6.heap.size w6 w7 by rw [← hw]; exact below_new2 _ _)
        exact ⟨⟨by rw [← hw]; exact ha_new _ _ _ hM.symm, by rw [← hM]; have := S2.out.lt; omega, h.bk.bel⟩, h⟩)
      have GM := Lib.hid (show w.heap.size + 1 + 1 < MM by rw [← hM]; exact S2.out.lt)
      have R2 := Lib.hid (show RdV w7 A2 (NumV o2) by rw [← hw]; exact R2.out.keep (below_new2 _ _))
      have A2B := Lib.hid (show ∀ a, A2 = some a → a.block < MM from fun a e => by rw [← hM]; exact (R2A.out a e))
      clear hM hw S2 S
      go_wp2_with fail
      go_loopw [13] (fun i wr => ∃ j : Nat, j ≤ 16 ∧ i = .int .i64 (j : Int) ∧ BW w 82 MM (partB P j) wr ∧ PtW w key half wr ∧ RdV wr A2 (NumV o2)) (fun i _ => 16 - (intOf i).toNat)
      case atStart => exact ⟨0, by omega, rfl, W7.out.1, W7.out.2, R2.out⟩
      case round =>
        obtain ⟨j, hj, rfl, hb, hs, hr⟩ := hrel
        have J := Lib.hid hj
        have BM := Lib.hid hb
        have S := Lib.hid hs
        have R2 := Lib.hid hr
        clear hj hb hs hr
        by_cases hlt : j < 16
        · have hD : decide ((j : Int) < 16) = true := by simp; omega
          have J16 := Lib.hid hlt
          have jb : (j : Int) < 16 := by omega
          obtain ⟨d, hd⟩ : ∃ d, d = o2.getD j 0 := ⟨_, rfl⟩
          have DA := Lib.hid (digit_any o2 A2 m2 c2 M2.out j wr R2.out)
          rw [← hd] at DA
          obtain ⟨y, hy⟩ : ∃ y, y = P.getD j 0 := ⟨_, rfl⟩
          have YE := Lib.hid hy
          have YD := Lib.hid (show (d : Int) % 256 = (y.toNat : Int) by
            have h1 := valB_digit o2 D2.out.d255 j
            rw [D2.out.val, ← hd] at h1
            rw [hy, PT.out, bytesN_get _ _ hlt]
            simp only [UInt8.toNat_ofNat', Nat.reducePow]
            omega)
          have db : (d : Int) ≤ 255 := by have := getD_le D2.out.d255 j; omega
          have a2 := row_cell BM.out.b j (W8_get _ j (by rw [partB_length, PL.out]; exact hlt))
          have f2 := row_free BM.out.b j
          clear hd hy hlt
          go_wp2_with fail
          refine DA.out.mono ?_
          rintro e w8 ⟨rfl, hw⟩
          rw [hw]
          clear hw w8
          have eY := YD.out
          have eW : IntKind.u8.wrap (d : Int) = (y.toNat : Int) := by rw [IntKind.wrap_u8]; exact eY
          clear db
          go_upto_region 21 with fail
          obtain ⟨w8, hw8⟩ : ∃ w8, w8 = wr.setCell ⟨MM, j, none⟩ (.int .u8 (y.toNat : Int)) := ⟨_, rfl⟩
          rw [← hw8]
          have S3 := Lib.hid (show BW w 82 MM (partB P (j + 1)) w8 ∧ PtW w key half w8 ∧ RdV w8 A2 (NumV o2) by
            have hg : wr.grownBy w8 (some MM) := by rw [hw8]; exact grown1 _ _ _ _
            refine ⟨?_, S.out.own hg (by rintro g ⟨⟩; exact GM.out), R2.out.grown hg (fun g e a ea => ?_)⟩
            · rw [hw8, ← partB_set _ _ (by rw [PL.out]; exact J16.out), ← YE.out]
              exact BM.out.set _ _
            · cases e
              have := A2B.out a ea
              omega)
          clear hw8 a2 f2 hD eY eW
          go_wp2_with fail
          go_roundw
          case rel => exact ⟨j + 1, by have := J16.out; omega, by go_num, S3.out.1, S3.out.2.1, S3.out.2.2⟩
          case measure => have := J16.out; simp [intOf]; omega
        · have hD : decide ((j : Int) < 16) = false := by simp; omega
          have J16 := Lib.hid (show j = 16 by have := J.out; omega)
          have BF := Lib.hid (show wr.heap[MM]? = some (.cells (W8 P) 82 (0, 0)) by
            have h := BM.out.b
            rw [J16.out, ← PL.out, partB_full] at h
            exact h)
          clear hlt
          go_wp2_with (first
            | (refine wpList_load_row rfl 82 (.tmp 12) rfl MM rfl 82 (W8 P) (0, 0) _ BF.out Try.underlying82 rfl (info_16 PL.out) ?_)
            | (refine wpList_store_whole rfl rfl 82 (.tmp 4) (.tmp 77) rfl (w.heap.size + 1) (W8 P) rfl rfl 82 _ S.out.bo.b (info_16 PL.out) (by rw [W8_size, W8_size, PL.out]; rfl) (W8_one _) ?_; intro w8 hz8 hg8 _))
          exact bodyPost_ret (results_cell_row rfl _ _ (w.heap.size + 1) 82 (W8 P) (0, 0) _ rfl hz8 Try.underlying82 rfl (info_16 PL.out)) rfl ⟨rfl, S.out.bo.ret hg8⟩
end Go.Proofs.Ytldjiigkebkgcaa
