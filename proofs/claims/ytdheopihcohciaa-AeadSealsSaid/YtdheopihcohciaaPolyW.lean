/- Numbers in limbs: what the program does with them. No condition but those each theorem states. -/
import Derived.Test.YtdheopihcohciaaProg
import Derived.Test.YtdheopihcohciaaPolyN
import Derived.Test.YtdheopihcohciaaPlan
namespace Go.Proofs.Ytdheopihcohciaa
set_option linter.unusedVariables false
set_option linter.unusedSimpArgs false
open Go.RowKit
attribute [local go_sem ↓] Go.wp_at_zero Go.wp_at_succ

theorem wrap_u64 (x : Nat) (h : x < 18446744073709551616) : IntKind.u64.wrap (x : Int) = (x : Int) := by rw [IntKind.wrap_u64]; omega
theorem wrap_u64_add (x y : Nat) (h : x + y < 18446744073709551616) : IntKind.u64.wrap ((x : Int) + (y : Int)) = ((x + y : Nat) : Int) := by rw [IntKind.wrap_u64]; omega
theorem wrap_u64_mul (x y : Nat) (h : x * y < 18446744073709551616) : IntKind.u64.wrap ((x : Int) * (y : Int)) = ((x * y : Nat) : Int) := by
  rw [← Int.natCast_mul]; exact wrap_u64 _ h
theorem wrap_i64' (x : Int) (h : -9223372036854775808 ≤ x ∧ x ≤ 9223372036854775807) : IntKind.i64.wrap x = x := by rw [IntKind.wrap_i64]; omega
theorem mask26 (x : Nat) (h : x < 18446744073709551616) : bits .and .u64 (x : Int) 67108863 = (x : Int) % 67108864 := by
  have := u64_and_nat x 67108863 h (by omega)
  rw [show ((67108863 : Nat) : Int) = 67108863 from rfl] at this
  rw [this, show (67108863 : Nat) = 2 ^ 26 - 1 from rfl, Nat.and_two_pow_sub_one_eq_mod]
  omega
theorem div26 (x : Nat) : (x : Int) / 67108864 = ((x / 67108864 : Nat) : Int) := by omega
def Z5 : List Nat := [0, 0, 0, 0, 0]
theorem zero5 : WN Z5 = #[.int .u64 0, .int .u64 0, .int .u64 0, .int .u64 0, .int .u64 0] := rfl

/-- Two rows of the call's own, behind one another, and the result's. -/
structure NW (w : World) (g : Nat) (l : List Nat) (W : World) : Prop where
  b : W.heap[g]? = some (.cells (WN l) 60 (0, 0))
  hg : w.heap.size ≤ g
  bel : Below w.heap.size w W
theorem NW.set {w W : World} {g : Nat} {l : List Nat} (h : NW w g l W) (i x : Nat) : NW w g (l.set i x) (W.setCell ⟨g, i, none⟩ (.int .u64 (x : Int))) where
  b := by rw [heap_setCell_same _ _ _ _ _ _ h.b, WN_set]
  hg := h.hg
  bel := h.bel.trans (grown_below (grown_set (World.grownBy.refl W (some g)) _ _) h.bel.size (by rintro k ⟨⟩; exact h.hg))
theorem NW.other {w W : World} {g k : Nat} {m : List Nat} (h : NW w k m W) (hne : k ≠ g) (hg : w.heap.size ≤ g) (i : Nat) (v : Value) : NW w k m (W.setCell ⟨g, i, none⟩ v) where
  b := grown_block (grown_set (World.grownBy.refl _ _) _ _) (by simp; exact hne) h.b
  hg := h.hg
  bel := h.bel.trans (grown_below (grown_set (World.grownBy.refl W (some g)) _ _) h.bel.size (by rintro k ⟨⟩; exact hg))
theorem NW.drew {w W : World} {g : Nat} {l : List Nat} (h : NW w g l W) : NW w g l W.drew := ⟨h.b, h.hg, h.bel.drew⟩
theorem NW.keep {w W W' : World} {g : Nat} {l : List Nat} (h : NW w g l W) (hb : Below W.heap.size W W') : NW w g l W' := ⟨below_block hb (row_lt h.b) h.b, h.hg, h.bel.trans (hb.mono h.bel.size)⟩
/-- A number is handed back. -/
theorem ret_number {w W W' : World} {g : Nat} {m : List Nat} (h : NW w g m W) (hg : W.grownBy W' (some g)) : Below w.heap.size w W' :=
  h.bel.trans (grown_below hg h.bel.size (by rintro k ⟨⟩; exact h.hg))
set_option maxRecDepth 100000 in
set_option maxHeartbeats 1000000 in
theorem nadd_any (n m : List Nat) (hn : n.length = 5) (hm : m.length = 5) (bn : Bd 4611686018427387904 n) (bm : Bd 4611686018427387904 m) (w : World) :
    Calls Try.prog 31 #[.agg (WN n), .agg (WN m)] w fun e w' => e = .returned (.agg (WN (addK n m 5))) ∧ Below w.heap.size w w' := by
  have HN := Lib.hid hn
  have HM := Lib.hid hm
  have BN := Lib.hid bn
  have BM := Lib.hid bm
  have Z5' := Lib.hid zero5
  clear hn hm bn bm
  go_enter Try.func31, Try.ntmps31
  go_wp2_with fail
  rw [← Z5'.out]
  obtain ⟨w1, hw1⟩ : ∃ w1, w1 = ((w.alloc (.cells (WN n) 60)).alloc (.cells (WN m) 60)).alloc (.cells (WN Z5) 60) := ⟨_, rfl⟩
  have S1 := Lib.hid (show NW w w.heap.size n w1 ∧ NW w (w.heap.size + 1) m w1 ∧ NW w (w.heap.size + 1 + 1) Z5 w1 by
    have hb : Below w.heap.size w w1 := by rw [hw1]; exact (((Below.refl _ _).alloc (Nat.le_refl _) _).alloc (by simp) _).alloc (by simp; omega) _
    rw [hw1] at hb ⊢
    exact ⟨⟨ha_old _ _ _ (by simp; omega) (ha_old _ _ _ (by simp) (ha_new _ _ _ rfl)), by omega, hb⟩, ⟨ha_old _ _ _ (by simp) (ha_new _ _ _ (by simp)), by omega, hb⟩, ⟨ha_new _ _ _ (by simp), by omega, hb⟩⟩)
  rw [← hw1]
  clear hw1
  go_loopw [6] (fun i wr => ∃ j : Nat, j ≤ 5 ∧ i = .int .i64 (j : Int) ∧ NW w w.heap.size (addK n m j) wr ∧ NW w (w.heap.size + 1) m wr ∧ NW w (w.heap.size + 1 + 1) Z5 wr) (fun i _ => 5 - (intOf i).toNat)
  case atStart => exact ⟨0, by omega, rfl, S1.out⟩
  case round =>
    obtain ⟨j, hj, rfl, hs⟩ := hrel
    have J := Lib.hid hj
    have S2 := Lib.hid hs
    have AL := Lib.hid (show (addK n m j).length = 5 by rw [addK_length, HN.out])
    clear hj hs S1
    by_cases hlt : j < 5
    · have hD : decide ((j : Int) < 5) = true := by simp; omega
      obtain ⟨x, hx⟩ : ∃ x, x = (addK n m j).getD j 0 := ⟨_, rfl⟩
      obtain ⟨y, hy⟩ : ∃ y, y = m.getD j 0 := ⟨_, rfl⟩
      have e1 := wrap_u64_add x y (by rw [hx, hy, addK_later _ _ _ _ (Nat.le_refl _)]; have := BN.out j; have := BM.out j; omega)
      have a1 := row_cell S2.out.1.b j (WN_get _ j (by rw [AL.out]; exact hlt))
      have f1 := row_free S2.out.1.b j
      have a2 := row_cell S2.out.2.1.b j (WN_get _ j (by rw [HM.out]; exact hlt))
      rw [← hx] at a1
      rw [← hy] at a2
      have X := Lib.hid hx
      have Y := Lib.hid hy
      have b1 : (j : Int) < 5 := by omega
      clear hx hy
      go_upto_region 4 with fail
      have A2 := Lib.hid a2
      refine wp_region_plan (fun W => W.cell? ⟨w.heap.size + 1, j, none⟩ = some (.int .u64 (y : Int))) [0, 1, 3, 4, 5] [2, 6, 7, 8] (by kernel_rfl) (by kernel_rfl) (fun _ _ d _ _ h => by cases d <;> exact h) (a2) ?_
      simp only [List.filterMap_cons, List.filterMap_nil, List.getElem?_toArray, List.getElem?_cons_zero, List.getElem?_cons_succ]
      refine planQ_cons (v := ?_) (by rfl) ?_ ?_
      rotate_left
      · intro W hW
        go_simp
        with_reducible rfl
      simp only [Act.put, List.setIfInBounds_toArray, List.set_cons_zero, List.set_cons_succ]
      refine planQ_cons (v := ?_) (by rfl) ?_ ?_
      rotate_left
      · intro W hW
        go_simp
        with_reducible rfl
      simp only [Act.put, List.setIfInBounds_toArray, List.set_cons_zero, List.set_cons_succ]
      refine planQ_cons (v := ?_) (by rfl) ?_ ?_
      rotate_left
      · intro W hW
        go_simp
        with_reducible rfl
      simp only [Act.put, List.setIfInBounds_toArray, List.set_cons_zero, List.set_cons_succ]
      refine planQ_cons (v := ?_) (by rfl) ?_ ?_
      rotate_left
      · intro W hW
        go_simp
        with_reducible rfl
      simp only [Act.put, List.setIfInBounds_toArray, List.set_cons_zero, List.set_cons_succ]
      refine planQ_cons (by rfl) (fun W hW => run_cell 58 (.tmp 13) rfl _ Try.underlying58 rfl rfl hW) ?_
      simp only [Act.put, List.setIfInBounds_toArray, List.set_cons_zero, List.set_cons_succ]
      refine planQ_nil ?_
      refine planT_val (by rfl) (A2.out) (run_cell 58 (.tmp 10) rfl _ Try.underlying58 rfl rfl a1) ?_
      simp only [Act.put, List.setIfInBounds_toArray, List.set_cons_zero, List.set_cons_succ]
      refine planT_val (v := ?_) (by rfl) (A2.out) ?_ ?_
      rotate_left
      · go_simp
        with_reducible rfl
      simp only [Act.put, List.setIfInBounds_toArray, List.set_cons_zero, List.set_cons_succ]
      refine planT_val (v := ?_) (by rfl) (A2.out) ?_ ?_
      rotate_left
      · go_simp
        with_reducible rfl
      simp only [Act.put, List.setIfInBounds_toArray, List.set_cons_zero, List.set_cons_succ]
      refine planT_cons (by rfl) (fun K hK => ?_)
      go_simp
      rw [show (x : Int) + (y : Int) = ((x + y : Nat) : Int) by omega]
      have S3 := Lib.hid (show NW w w.heap.size (addK n m (j + 1)) (wr.setCell ⟨w.heap.size, j, none⟩ (.int .u64 ((x + y : Nat) : Int))).drew ∧ NW w (w.heap.size + 1) m (wr.setCell ⟨w.heap.size, j, none⟩ (.int .u64 ((x + y : Nat) : Int))).drew ∧ NW w (w.heap.size + 1 + 1) Z5 (wr.setCell ⟨w.heap.size, j, none⟩ (.int .u64 ((x + y : Nat) : Int))).drew by
        rw [addK, ← X.out, ← Y.out]
        exact ⟨(S2.out.1.set j (x + y)).drew, (S2.out.2.1.other (by omega) (by omega) _ _).drew, (S2.out.2.2.other (by omega) (by omega) _ _).drew⟩)
      refine hK.out _ _ (by have := row_cell S3.out.2.1.b j (WN_get m j (by rw [HM.out]; exact hlt)); rw [← Y.out] at this; exact this) ?_
      clear hK K
      refine planT_nil ?_
      clear a1 f1 a2 e1
      go_wp2_with fail
      go_roundw
      case rel => exact ⟨j + 1, by omega, by go_num, S3.out.1, S3.out.2.1, S3.out.2.2⟩
      case measure => simp [intOf]; omega
    · have hj : Hid (j = 5) := show j = 5 by have := J.out; omega
      have hD : decide ((j : Int) < 5) = false := by simp; omega
      have S3 := Lib.hid (show NW w w.heap.size (addK n m 5) wr by have := S2.out.1; rw [hj.out] at this; exact this)
      have L3 := Lib.hid (show (addK n m 5).length = 5 by rw [addK_length, HN.out])
      obtain ⟨L, hL⟩ : ∃ L, L = addK n m 5 := ⟨_, rfl⟩
      rw [← hL] at S3 L3
      have HLL := Lib.hid hL
      have Z := Lib.hid (show (Try.prog.info? 60).map (·.size) = some (WN L).size by rw [WN_size, L3.out]; kernel_rfl)
      clear hL
      go_wp2_with (first
        | (refine wpList_load_row rfl 60 (.tmp 2) rfl w.heap.size rfl 60 (WN L) (0, 0) _ S3.out.b Try.underlying60 rfl Z.out ?_)
        | (refine wpList_store_whole rfl rfl 60 (.tmp 4) (.tmp 18) rfl (w.heap.size + 1 + 1) (WN L) rfl rfl 60 _ S2.out.2.2.b Z.out (by rw [WN_size, WN_size, L3.out]; rfl) (WN_one _) ?_; intro w8 hz8 hg8 _))
      exact bodyPost_ret (results_cell_row rfl _ _ (w.heap.size + 1 + 1) 60 (WN L) (0, 0) _ rfl hz8 Try.underlying60 rfl Z.out) rfl ⟨by rw [HLL.out], ret_number S2.out.2.2 hg8⟩
set_option maxRecDepth 100000 in
set_option maxHeartbeats 1000000 in
theorem ncarry_any (n : List Nat) (hn : n.length = 5) (bn : Bd 4611686018427387904 n) (w : World) :
    Calls Try.prog 44 #[.agg (WN n)] w fun e w' => e = .returned (.agg (WN (carryL n))) ∧ Below w.heap.size w w' := by
  have HN := Lib.hid hn
  have BN := Lib.hid bn
  have Z5' := Lib.hid zero5
  clear hn bn
  go_enter Try.func44, Try.ntmps44
  go_wp2_with fail
  rw [← Z5'.out]
  obtain ⟨w1, hw1⟩ : ∃ w1, w1 = (w.alloc (.cells (WN n) 60)).alloc (.cells (WN Z5) 60) := ⟨_, rfl⟩
  have S1 := Lib.hid (show NW w w.heap.size n w1 ∧ NW w (w.heap.size + 1) Z5 w1 by
    have hb : Below w.heap.size w w1 := by rw [hw1]; exact ((Below.refl _ _).alloc (Nat.le_refl _) _).alloc (by simp) _
    rw [hw1] at hb ⊢
    exact ⟨⟨ha_old _ _ _ (by simp) (ha_new _ _ _ rfl), by omega, hb⟩, ⟨ha_new _ _ _ (by simp), by omega, hb⟩⟩)
  rw [← hw1]
  clear hw1
  go_loopw [5] (fun i wr => ∃ j : Nat, j ≤ 5 ∧ i = .int .i64 (j : Int) ∧ NW w w.heap.size (carryK n j) wr ∧ NW w (w.heap.size + 1) Z5 wr) (fun i _ => 5 - (intOf i).toNat)
  case atStart => exact ⟨0, by omega, rfl, S1.out⟩
  case round =>
    obtain ⟨j, hj, rfl, hs⟩ := hrel
    have J := Lib.hid hj
    have S2 := Lib.hid hs
    clear hj hs S1
    by_cases hlt : j < 5
    · have hD : decide ((j : Int) < 5) = true := by simp; omega
      obtain ⟨q, hq⟩ : ∃ q, q = carryK n j := ⟨_, rfl⟩
      rw [← hq] at S2
      have QL := Lib.hid (show q.length = 5 by rw [hq, carryK_length, HN.out])
      have QB := Lib.hid (show Bd 9223372036854775808 q by rw [hq]; exact carryK_bd n HN.out BN.out j J.out)
      have QQ := Lib.hid hq
      obtain ⟨x, hx⟩ : ∃ x, x = q.getD j 0 := ⟨_, rfl⟩
      have hxb : x ≤ 9223372036854775808 := by rw [hx]; exact QB.out j
      have e1 := mask26 x (by omega)
      have a1 := row_cell S2.out.1.b j (WN_get _ j (by rw [QL.out]; exact hlt))
      have f1 := row_free S2.out.1.b j
      rw [← hx] at a1
      have X := Lib.hid hx
      have b1 : (j : Int) < 5 := by omega
      clear hx hq
      go_upto_region 6 with fail
      clear a1 f1 e1
      obtain ⟨c, hc⟩ : ∃ c, c = x / 67108864 := ⟨_, rfl⟩
      rw [show (x : Int) % 67108864 = ((x % 67108864 : Nat) : Int) by omega, show (x : Int) / 67108864 = (c : Int) by omega]
      obtain ⟨w2, hw2⟩ : ∃ w2, w2 = wr.setCell ⟨w.heap.size, j, none⟩ (.int .u64 ((x % 67108864 : Nat) : Int)) := ⟨_, rfl⟩
      obtain ⟨p, hp⟩ : ∃ p, p = q.set j (x % 67108864) := ⟨_, rfl⟩
      have S3 := Lib.hid (show NW w w.heap.size p w2 ∧ NW w (w.heap.size + 1) Z5 w2 by rw [hw2, hp]; exact ⟨S2.out.1.set j _, S2.out.2.other (by omega) (by omega) _ _⟩)
      rw [← hw2]
      have C := Lib.hid hc
      have cb : c ≤ 137438953472 := by omega
      have PL := Lib.hid (show p.length = 5 by rw [hp, List.length_set, QL.out])
      have PB := Lib.hid (show Bd 9223372036854775808 p by rw [hp]; exact Bd.set QB.out (by omega))
      have PP := Lib.hid hp
      clear hw2 hp hc S2 hxb
      by_cases h4 : j + 1 < 5
      · have hE : decide ((j : Int) + 1 < 5) = true := by simp; omega
        obtain ⟨y, hy⟩ : ∃ y, y = p.getD (j + 1) 0 := ⟨_, rfl⟩
        have hyb : y ≤ 9223372036854775808 := by rw [hy]; exact PB.out _
        have a2 := row_cell S3.out.1.b (j + 1) (WN_get _ (j + 1) (by rw [PL.out]; exact h4))
        have f2 := row_free S3.out.1.b (j + 1)
        rw [← hy] at a2
        have Y := Lib.hid hy
        have b2 : (j : Int) + 1 < 5 := by omega
        have b3 : (y : Int) + (c : Int) ≤ 18446744073709551615 := by omega
        have e2 : ((j : Int) + 1).toNat = j + 1 := by omega
        clear hy
        go_wp2_with fail
        go_roundw
        case rel =>
          refine ⟨j + 1, by omega, by go_num, ?_⟩
          rw [show (y : Int) + (c : Int) = ((y + c : Nat) : Int) by omega]
          have e : carryK n (j + 1) = p.set (j + 1) (y + c) := by
            rw [carryK]
            rw [if_pos h4, ← QQ.out, ← X.out, ← PP.out, ← Y.out, ← C.out]
          rw [e]
          exact ⟨S3.out.1.set _ _, S3.out.2.other (by omega) (by omega) _ _⟩
        case measure => simp [intOf]; omega
      · have hE : decide ((j : Int) + 1 < 5) = false := by simp; omega
        obtain ⟨y, hy⟩ : ∃ y, y = p.getD 0 0 := ⟨_, rfl⟩
        have hyb : y ≤ 9223372036854775808 := by rw [hy]; exact PB.out _
        have a2 := row_cell S3.out.1.b 0 (WN_get _ 0 (by rw [PL.out]; omega))
        have f2 := row_free S3.out.1.b 0
        rw [← hy] at a2
        have Y := Lib.hid hy
        have b3 : (y : Int) + 5 * (c : Int) ≤ 18446744073709551615 := by omega
        have b4 : 5 * (c : Int) ≤ 18446744073709551615 := by omega
        clear hy
        go_wp2_with fail
        go_roundw
        case rel =>
          refine ⟨j + 1, by omega, by go_num, ?_⟩
          rw [show (y : Int) + 5 * (c : Int) = ((y + 5 * c : Nat) : Int) by omega]
          have e : carryK n (j + 1) = p.set 0 (y + 5 * c) := by
            rw [carryK]
            rw [if_neg h4, ← QQ.out, ← X.out, ← PP.out, ← Y.out, ← C.out]
          rw [e]
          exact ⟨S3.out.1.set _ _, S3.out.2.other (by omega) (by omega) _ _⟩
        case measure => simp [intOf]; omega
    · have hj : Hid (j = 5) := show j = 5 by have := J.out; omega
      have hD : decide ((j : Int) < 5) = false := by simp; omega
      have S3 := Lib.hid (show NW w w.heap.size (carryL n) wr by have := S2.out.1; rw [hj.out] at this; exact this)
      have L3 := Lib.hid (show (carryL n).length = 5 by rw [carryL_length, HN.out])
      obtain ⟨L, hL⟩ : ∃ L, L = carryL n := ⟨_, rfl⟩
      rw [← hL] at S3 L3
      have HLL := Lib.hid hL
      have Z := Lib.hid (show (Try.prog.info? 60).map (·.size) = some (WN L).size by rw [WN_size, L3.out]; kernel_rfl)
      clear hL
      go_wp2_with (first
        | (refine wpList_load_row rfl 60 (.tmp 1) rfl w.heap.size rfl 60 (WN L) (0, 0) _ S3.out.b Try.underlying60 rfl Z.out ?_)
        | (refine wpList_store_whole rfl rfl 60 (.tmp 2) (.tmp 34) rfl (w.heap.size + 1) (WN L) rfl rfl 60 _ S2.out.2.b Z.out (by rw [WN_size, WN_size, L3.out]; rfl) (WN_one _) ?_; intro w8 hz8 hg8 _))
      exact bodyPost_ret (results_cell_row rfl _ _ (w.heap.size + 1) 60 (WN L) (0, 0) _ rfl hz8 Try.underlying60 rfl Z.out) rfl ⟨by rw [HLL.out], ret_number S2.out.2 hg8⟩
end Go.Proofs.Ytdheopihcohciaa
