/- The document's block is the program's. -/
import Derived.Test.YtdheopihcohciaaRefInit
namespace Go.Proofs.Ytdheopihcohciaa
set_option linter.unusedVariables false
set_option linter.unusedSimpArgs false
open Go.RowKit
attribute [local go_sem ↓] Go.wp_at_zero Go.wp_at_succ

/-- The call's own variables: the answer's, the starting words. -/
structure RbW (w : World) (s : List UInt32) (W : World) : Prop where
  bz : W.heap[w.heap.size]? = some (.cells (W8 (List.replicate 64 0)) 44 (0, 0))
  bs : W.heap[w.heap.size + 1]? = some (.cells (W32 s) 54 (0, 0))
  bel : Below w.heap.size w W
theorem RbW.lt {w W : World} {s : List UInt32} (h : RbW w s W) : w.heap.size + 1 < W.heap.size := row_lt h.bs
theorem RbW.set {w W : World} {s : List UInt32} (h : RbW w s W) (i : Nat) (x : UInt32) : RbW w (s.set i x) (W.setCell ⟨w.heap.size + 1, i, none⟩ (.int .u32 (x.toNat : Int))) where
  bz := grown_block (grown_set (World.grownBy.refl _ _) _ _) (by simp) h.bz
  bs := by rw [heap_setCell_same _ _ _ _ _ _ h.bs, W32_set]
  bel := h.bel.trans (grown_below (grown_set (World.grownBy.refl W (some (w.heap.size + 1))) _ _) (Nat.le_of_lt (row_lt h.bz)) (by rintro g ⟨⟩; omega))
theorem RbW.grown {w W W' : World} {s : List UInt32} {M : Nat} (h : RbW w s W) (h' : W.grownBy W' (some M)) (hM : w.heap.size + 1 < M) : RbW w s W' where
  bz := grown_block h' (by simp; omega) h.bz
  bs := grown_block h' (by simp; omega) h.bs
  bel := h.bel.trans (grown_below h' (Nat.le_of_lt (row_lt h.bz)) (by rintro g ⟨⟩; omega))
theorem RbW.keep {w W W' : World} {s : List UInt32} (h : RbW w s W) (h' : Below W.heap.size W W') : RbW w s W' where
  bz := below_block h' (row_lt h.bz) h.bz
  bs := below_block h' (row_lt h.bs) h.bs
  bel := h.bel.trans (h'.mono (Nat.le_of_lt (row_lt h.bz)))
theorem rb_start (w : World) : RbW w headL ((w.alloc (.cells (W8 (List.replicate 64 0)) 44)).alloc (.cells (W32 headL) 54)) where
  bz := ha_old _ _ _ (by simp) (ha_new _ _ _ rfl)
  bs := ha_new _ _ _ (by simp)
  bel := ((Below.refl _ _).alloc (Nat.le_refl _) _).alloc (by simp) _
theorem dblN_succ (s : List UInt32) (j : Nat) : dblN s (j + 1) = quarterL (quarterL (quarterL (quarterL (quarterL (quarterL (quarterL (quarterL (dblN s j) 0 4 8 12) 1 5 9 13) 2 6 10 14) 3 7 11 15) 0 5 10 15) 1 6 11 12) 2 7 8 13) 3 4 9 14 := rfl

set_option maxRecDepth 100000 in
set_option maxHeartbeats 4000000 in
theorem refBlock_any (k n : List UInt8) (hk : k.length = 32) (hn : n.length = 12) (count : UInt32) (w : World) :
    Calls Try.prog 23 #[.string (strB k), .string (strB n), .int .u32 (count.toNat : Int)] w fun e w' => e = .returned (.agg (W8 (blockL k n count))) ∧ Below w.heap.size w w' := by
  have HK := Lib.hid hk
  have HN := Lib.hid hn
  have ZH := Lib.hid (show (Try.prog.info? 54).map (·.size) = some (W32 headL).size by kernel_rfl)
  clear hk hn
  go_enter Try.func23, Try.ntmps23
  go_wp2_with (refine wpList_store_new rfl rfl 54 (.tmp 7) (.tmp 14) rfl (W32 headL) rfl rfl ZH.out rfl (W32_one _) ?_)
  refine wp_abs (fun W => RbW w headL W) (rb_start w) ?_
  intro w1 H1'
  have H1 := Lib.hid H1'
  have L1 := Lib.hid (H1'.lt)
  clear H1'
  go_loopw [8] (fun i wr => ∃ j : Nat, j ≤ 8 ∧ i = .int .i64 (j : Int) ∧ RbW w (wordK headL 4 k j) wr) (fun i _ => 8 - (intOf i).toNat)
  case atStart => exact ⟨0, by omega, rfl, H1.out⟩
  case round =>
    obtain ⟨j, hj, rfl, H2'⟩ := hrel
    have H2 := Lib.hid H2'
    clear H2' H1 L1 w1
    by_cases hlt : j < 8
    · have hD : decide ((j : Int) < 8) = true := by simp; omega
      go_wp2_with fail
      refine (word_any k j _ (by rw [HK.out]; omega) (by omega)).mono ?_
      rintro e w3 ⟨rfl, rfl⟩
      have a1 := row_cell H2.out.bs (4 + j) (W32_get _ _ (by rw [wordK_length]; simp [headL]; omega))
      have a2 := row_free H2.out.bs (4 + j)
      have b1 : (4 + (j : Int)) < 16 := by omega
      obtain ⟨x, hx⟩ : ∃ x, x = wordL k j := ⟨_, rfl⟩
      rw [← hx]
      have HX := Lib.hid hx
      clear hx
      replace a1 : wr.drew.cell? ⟨w.heap.size + 1, 4 + j, none⟩ = _ := a1
      replace a2 : wr.drew.frozen? ⟨w.heap.size + 1, 4 + j, none⟩ = _ := a2
      have H3 : Hid (RbW w (wordK headL 4 k j) wr.drew) := H2.out.keep ((Below.refl _ _).drew)
      obtain ⟨w4, hw4⟩ : ∃ w4, w4 = wr.drew := ⟨_, rfl⟩
      rw [← hw4] at a1 a2 H3 ⊢
      clear hw4
      go_wp2_with fail
      go_roundw
      case rel =>
        refine ⟨j + 1, by omega, by go_num, ?_⟩
        rw [wordK, ← HX.out]
        exact H3.out.set (4 + j) x
      case measure => simp [intOf]; omega
    · have hj8 : Hid (j = 8) := show j = 8 by omega
      have hD : decide ((j : Int) < 8) = false := by simp; omega
      have a2 := row_free H2.out.bs 12
      have a1 := row_cell H2.out.bs 12 (W32_get _ _ (by rw [wordK_length]; simp [headL]))
      go_upto_region 7 with fail
      refine wp_abs (fun W => RbW w ((wordK headL 4 k 8).set 12 count) W) (by rw [hj8.out] at H2; exact H2.out.set 12 count) ?_
      clear a1 a2 H2 hD hj hlt wr
      intro w1 H1'
      have H1 := Lib.hid H1'
      clear H1'
      obtain ⟨s0, hs0⟩ : ∃ s, s = (wordK headL 4 k 8).set 12 count := ⟨_, rfl⟩
      rw [← hs0] at H1
      have S0 := Lib.hid hs0
      have SL := Lib.hid (show s0.length = 16 by rw [hs0]; simp [wordK_length, headL])
      clear hs0
      go_wp2_with fail
      go_loopw [9] (fun i wr => ∃ j : Nat, j ≤ 3 ∧ i = .int .i64 (j : Int) ∧ RbW w (wordK s0 13 n j) wr) (fun i _ => 3 - (intOf i).toNat)
      case atStart => exact ⟨0, by omega, rfl, H1.out⟩
      case round =>
        obtain ⟨j, hj, rfl, H2'⟩ := hrel
        have H2 := Lib.hid H2'
        clear H2' H1 w1
        by_cases hlt : j < 3
        · have hD : decide ((j : Int) < 3) = true := by simp; omega
          go_wp2_with fail
          refine (word_any n j _ (by rw [HN.out]; omega) (by omega)).mono ?_
          rintro e w3 ⟨rfl, rfl⟩
          have a1 := row_cell H2.out.bs (13 + j) (W32_get _ _ (by rw [wordK_length, SL.out]; omega))
          have a2 := row_free H2.out.bs (13 + j)
          have b1 : (13 + (j : Int)) < 16 := by omega
          obtain ⟨x, hx⟩ : ∃ x, x = wordL n j := ⟨_, rfl⟩
          rw [← hx]
          have HX := Lib.hid hx
          clear hx
          replace a1 : wr.drew.cell? ⟨w.heap.size + 1, 13 + j, none⟩ = _ := a1
          replace a2 : wr.drew.frozen? ⟨w.heap.size + 1, 13 + j, none⟩ = _ := a2
          have H3 : Hid (RbW w (wordK s0 13 n j) wr.drew) := H2.out.keep ((Below.refl _ _).drew)
          obtain ⟨w4, hw4⟩ : ∃ w4, w4 = wr.drew := ⟨_, rfl⟩
          rw [← hw4] at a1 a2 H3 ⊢
          clear hw4
          go_wp2_with fail
          go_roundw
          case rel =>
            refine ⟨j + 1, by omega, by go_num, ?_⟩
            rw [wordK, ← HX.out]
            exact H3.out.set (13 + j) x
          case measure => simp [intOf]; omega
        · have hj3 : Hid (j = 3) := show j = 3 by omega
          have hD : decide ((j : Int) < 3) = false := by simp; omega
          obtain ⟨s, hs⟩ : ∃ s, s = initL k n count := ⟨_, rfl⟩
          have ES := Lib.hid hs
          have H3 : Hid (RbW w s wr) := by
            have := H2.out
            rw [hj3.out, S0.out] at this
            show RbW w s wr
            rw [hs, ← refInit_eq]
            exact this
          have HS := Lib.hid (show s.length = 16 by rw [hs, initL_length])
          have Z := Lib.hid (show (Try.prog.info? 54).map (·.size) = some (W32 s).size by rw [W32_size, HS.out]; kernel_rfl)
          clear hs H2 S0 SL
          go_upto_region 12 with (first
            | (refine wpList_load_row rfl 54 (.tmp 7) rfl (w.heap.size + 1) rfl 54 (W32 s) (0, 0) _ H3.out.bs Try.underlying54 rfl Z.out ?_)
            | (refine wpList_store_new rfl rfl 54 (.tmp 10) (.tmp 37) rfl (W32 s) rfl rfl Z.out (by rw [W32_size, HS.out]; rfl) (W32_one _) ?_))
          clear Z hD hj hlt
          obtain ⟨M, hM⟩ : ∃ M, M = wr.heap.size := ⟨_, rfl⟩
          have hMl : w.heap.size + 1 < M := by rw [hM]; exact H3.out.lt
          refine wp_abs (fun W => RbW w s W ∧ W.heap[M]? = some (.cells (W32 s) 54 (0, 0))) ⟨H3.out.keep ((Below.refl _ _).alloc (Nat.le_refl _) _), ha_new _ _ _ hM⟩ ?_
          rw [← hM]
          clear hM
          have HM := Lib.hid hMl
          clear hMl
          rintro w4 ⟨H4', S4'⟩
          have H4 := Lib.hid H4'
          have S4 := Lib.hid S4'
          clear H4' S4' H3 wr
          go_wp2_with fail
          go_loopw [11] (fun i wr => ∃ j : Nat, j ≤ 10 ∧ i = .int .i64 (j : Int) ∧ RbW w s wr ∧ wr.heap[M]? = some (.cells (W32 (dblN s j)) 54 (0, 0))) (fun i _ => 10 - (intOf i).toNat)
          case atStart => exact ⟨0, by omega, rfl, H4.out, S4.out⟩
          case round =>
            obtain ⟨j, hj, rfl, H5', S5'⟩ := hrel
            have H5 := Lib.hid H5'
            have S5 := Lib.hid S5'
            clear H5' S5' H4 S4 w4
            by_cases hlt : j < 10
            · have hD : decide ((j : Int) < 10) = true := by simp; omega
              obtain ⟨v0, hv0⟩ : ∃ v, v = dblN s j := ⟨_, rfl⟩
              have V0 := Lib.hid hv0
              rw [← hv0] at S5
              have N0 := Lib.hid (show v0.length = 16 by rw [hv0, dblN_length, HS.out])
              clear hv0
              obtain ⟨wr0, hwr0⟩ : ∃ wr0, wr0 = wr := ⟨_, rfl⟩
              rw [← hwr0] at H5 S5 ⊢
              clear hwr0
              have Z0 := Lib.hid (show (Try.prog.info? 54).map (·.size) = some (W32 v0).size by rw [W32_size, N0.out]; kernel_rfl)
              go_wp2_with (refine wpList_load_row rfl 54 (.tmp 10) rfl M rfl 54 (W32 v0) (0, 0) _ S5.out Try.underlying54 rfl Z0.out ?_)
              refine (refQuarter_any v0 N0.out _ 0 4 8 12 (by omega) (by omega) (by omega) (by omega)).mono ?_
              rintro e w0' ⟨rfl, hb0⟩
              obtain ⟨v1, hv1⟩ : ∃ v, v = quarterL v0 0 4 8 12 := ⟨_, rfl⟩
              rw [← hv1]
              have V1 := Lib.hid hv1
              have N1 := Lib.hid (show v1.length = 16 by rw [hv1, quarterL_length]; exact N0.out)
              have Y0 := Lib.hid (show (Try.prog.info? 54).map (·.size) = some (W32 v1).size by rw [W32_size, N1.out]; kernel_rfl)
              have T0 := Lib.hid (below_block hb0 (row_lt S5.out) S5.out)
              have G0 := Lib.hid (H5.out.keep hb0)
              clear hv1 hb0 H5 S5 Z0 wr0
              go_upto_region 16 with (refine wpList_store_whole rfl rfl 54 (.tmp 10) (.tmp 43) rfl M (W32 v1) rfl rfl 54 (W32 v0) T0.out Y0.out (by rw [W32_size, W32_size, N0.out, N1.out]) (W32_one _) ?_; intro wr1 hg0 hgr0 hs0)
              have I1 := Lib.hid (G0.out.grown hgr0 HM.out)
              have R1 := Lib.hid hg0
              clear hg0 hgr0 hs0 G0 T0 Y0 w0' 
              have Z1 := Lib.hid (show (Try.prog.info? 54).map (·.size) = some (W32 v1).size by rw [W32_size, N1.out]; kernel_rfl)
              go_wp2_with (refine wpList_load_row rfl 54 (.tmp 10) rfl M rfl 54 (W32 v1) (0, 0) _ R1.out Try.underlying54 rfl Z1.out ?_)
              refine (refQuarter_any v1 N1.out _ 1 5 9 13 (by omega) (by omega) (by omega) (by omega)).mono ?_
              rintro e w1' ⟨rfl, hb1⟩
              obtain ⟨v2, hv2⟩ : ∃ v, v = quarterL v1 1 5 9 13 := ⟨_, rfl⟩
              rw [← hv2]
              have V2 := Lib.hid hv2
              have N2 := Lib.hid (show v2.length = 16 by rw [hv2, quarterL_length]; exact N1.out)
              have Y1 := Lib.hid (show (Try.prog.info? 54).map (·.size) = some (W32 v2).size by rw [W32_size, N2.out]; kernel_rfl)
              have T1 := Lib.hid (below_block hb1 (row_lt R1.out) R1.out)
              have G1 := Lib.hid (I1.out.keep hb1)
              clear hv2 hb1 I1 R1 Z1 wr1
              go_upto_region 17 with (refine wpList_store_whole rfl rfl 54 (.tmp 10) (.tmp 45) rfl M (W32 v2) rfl rfl 54 (W32 v1) T1.out Y1.out (by rw [W32_size, W32_size, N1.out, N2.out]) (W32_one _) ?_; intro wr2 hg1 hgr1 hs1)
              have I2 := Lib.hid (G1.out.grown hgr1 HM.out)
              have R2 := Lib.hid hg1
              clear hg1 hgr1 hs1 G1 T1 Y1 w1' 
              have Z2 := Lib.hid (show (Try.prog.info? 54).map (·.size) = some (W32 v2).size by rw [W32_size, N2.out]; kernel_rfl)
              go_wp2_with (refine wpList_load_row rfl 54 (.tmp 10) rfl M rfl 54 (W32 v2) (0, 0) _ R2.out Try.underlying54 rfl Z2.out ?_)
              refine (refQuarter_any v2 N2.out _ 2 6 10 14 (by omega) (by omega) (by omega) (by omega)).mono ?_
              rintro e w2' ⟨rfl, hb2⟩
              obtain ⟨v3, hv3⟩ : ∃ v, v = quarterL v2 2 6 10 14 := ⟨_, rfl⟩
              rw [← hv3]
              have V3 := Lib.hid hv3
              have N3 := Lib.hid (show v3.length = 16 by rw [hv3, quarterL_length]; exact N2.out)
              have Y2 := Lib.hid (show (Try.prog.info? 54).map (·.size) = some (W32 v3).size by rw [W32_size, N3.out]; kernel_rfl)
              have T2 := Lib.hid (below_block hb2 (row_lt R2.out) R2.out)
              have G2 := Lib.hid (I2.out.keep hb2)
              clear hv3 hb2 I2 R2 Z2 wr2
              go_upto_region 18 with (refine wpList_store_whole rfl rfl 54 (.tmp 10) (.tmp 47) rfl M (W32 v3) rfl rfl 54 (W32 v2) T2.out Y2.out (by rw [W32_size, W32_size, N2.out, N3.out]) (W32_one _) ?_; intro wr3 hg2 hgr2 hs2)
              have I3 := Lib.hid (G2.out.grown hgr2 HM.out)
              have R3 := Lib.hid hg2
              clear hg2 hgr2 hs2 G2 T2 Y2 w2' 
              have Z3 := Lib.hid (show (Try.prog.info? 54).map (·.size) = some (W32 v3).size by rw [W32_size, N3.out]; kernel_rfl)
              go_wp2_with (refine wpList_load_row rfl 54 (.tmp 10) rfl M rfl 54 (W32 v3) (0, 0) _ R3.out Try.underlying54 rfl Z3.out ?_)
              refine (refQuarter_any v3 N3.out _ 3 7 11 15 (by omega) (by omega) (by omega) (by omega)).mono ?_
              rintro e w3' ⟨rfl, hb3⟩
              obtain ⟨v4, hv4⟩ : ∃ v, v = quarterL v3 3 7 11 15 := ⟨_, rfl⟩
              rw [← hv4]
              have V4 := Lib.hid hv4
              have N4 := Lib.hid (show v4.length = 16 by rw [hv4, quarterL_length]; exact N3.out)
              have Y3 := Lib.hid (show (Try.prog.info? 54).map (·.size) = some (W32 v4).size by rw [W32_size, N4.out]; kernel_rfl)
              have T3 := Lib.hid (below_block hb3 (row_lt R3.out) R3.out)
              have G3 := Lib.hid (I3.out.keep hb3)
              clear hv4 hb3 I3 R3 Z3 wr3
              go_upto_region 19 with (refine wpList_store_whole rfl rfl 54 (.tmp 10) (.tmp 49) rfl M (W32 v4) rfl rfl 54 (W32 v3) T3.out Y3.out (by rw [W32_size, W32_size, N3.out, N4.out]) (W32_one _) ?_; intro wr4 hg3 hgr3 hs3)
              have I4 := Lib.hid (G3.out.grown hgr3 HM.out)
              have R4 := Lib.hid hg3
              clear hg3 hgr3 hs3 G3 T3 Y3 w3' 
              have Z4 := Lib.hid (show (Try.prog.info? 54).map (·.size) = some (W32 v4).size by rw [W32_size, N4.out]; kernel_rfl)
              go_wp2_with (refine wpList_load_row rfl 54 (.tmp 10) rfl M rfl 54 (W32 v4) (0, 0) _ R4.out Try.underlying54 rfl Z4.out ?_)
              refine (refQuarter_any v4 N4.out _ 0 5 10 15 (by omega) (by omega) (by omega) (by omega)).mono ?_
              rintro e w4' ⟨rfl, hb4⟩
              obtain ⟨v5, hv5⟩ : ∃ v, v = quarterL v4 0 5 10 15 := ⟨_, rfl⟩
              rw [← hv5]
              have V5 := Lib.hid hv5
              have N5 := Lib.hid (show v5.length = 16 by rw [hv5, quarterL_length]; exact N4.out)
              have Y4 := Lib.hid (show (Try.prog.info? 54).map (·.size) = some (W32 v5).size by rw [W32_size, N5.out]; kernel_rfl)
              have T4 := Lib.hid (below_block hb4 (row_lt R4.out) R4.out)
              have G4 := Lib.hid (I4.out.keep hb4)
              clear hv5 hb4 I4 R4 Z4 wr4
              go_upto_region 20 with (refine wpList_store_whole rfl rfl 54 (.tmp 10) (.tmp 51) rfl M (W32 v5) rfl rfl 54 (W32 v4) T4.out Y4.out (by rw [W32_size, W32_size, N4.out, N5.out]) (W32_one _) ?_; intro wr5 hg4 hgr4 hs4)
              have I5 := Lib.hid (G4.out.grown hgr4 HM.out)
              have R5 := Lib.hid hg4
              clear hg4 hgr4 hs4 G4 T4 Y4 w4' 
              have Z5 := Lib.hid (show (Try.prog.info? 54).map (·.size) = some (W32 v5).size by rw [W32_size, N5.out]; kernel_rfl)
              go_wp2_with (refine wpList_load_row rfl 54 (.tmp 10) rfl M rfl 54 (W32 v5) (0, 0) _ R5.out Try.underlying54 rfl Z5.out ?_)
              refine (refQuarter_any v5 N5.out _ 1 6 11 12 (by omega) (by omega) (by omega) (by omega)).mono ?_
              rintro e w5' ⟨rfl, hb5⟩
              obtain ⟨v6, hv6⟩ : ∃ v, v = quarterL v5 1 6 11 12 := ⟨_, rfl⟩
              rw [← hv6]
              have V6 := Lib.hid hv6
              have N6 := Lib.hid (show v6.length = 16 by rw [hv6, quarterL_length]; exact N5.out)
              have Y5 := Lib.hid (show (Try.prog.info? 54).map (·.size) = some (W32 v6).size by rw [W32_size, N6.out]; kernel_rfl)
              have T5 := Lib.hid (below_block hb5 (row_lt R5.out) R5.out)
              have G5 := Lib.hid (I5.out.keep hb5)
              clear hv6 hb5 I5 R5 Z5 wr5
              go_upto_region 21 with (refine wpList_store_whole rfl rfl 54 (.tmp 10) (.tmp 53) rfl M (W32 v6) rfl rfl 54 (W32 v5) T5.out Y5.out (by rw [W32_size, W32_size, N5.out, N6.out]) (W32_one _) ?_; intro wr6 hg5 hgr5 hs5)
              have I6 := Lib.hid (G5.out.grown hgr5 HM.out)
              have R6 := Lib.hid hg5
              clear hg5 hgr5 hs5 G5 T5 Y5 w5' 
              have Z6 := Lib.hid (show (Try.prog.info? 54).map (·.size) = some (W32 v6).size by rw [W32_size, N6.out]; kernel_rfl)
              go_wp2_with (refine wpList_load_row rfl 54 (.tmp 10) rfl M rfl 54 (W32 v6) (0, 0) _ R6.out Try.underlying54 rfl Z6.out ?_)
              refine (refQuarter_any v6 N6.out _ 2 7 8 13 (by omega) (by omega) (by omega) (by omega)).mono ?_
              rintro e w6' ⟨rfl, hb6⟩
              obtain ⟨v7, hv7⟩ : ∃ v, v = quarterL v6 2 7 8 13 := ⟨_, rfl⟩
              rw [← hv7]
              have V7 := Lib.hid hv7
              have N7 := Lib.hid (show v7.length = 16 by rw [hv7, quarterL_length]; exact N6.out)
              have Y6 := Lib.hid (show (Try.prog.info? 54).map (·.size) = some (W32 v7).size by rw [W32_size, N7.out]; kernel_rfl)
              have T6 := Lib.hid (below_block hb6 (row_lt R6.out) R6.out)
              have G6 := Lib.hid (I6.out.keep hb6)
              clear hv7 hb6 I6 R6 Z6 wr6
              go_upto_region 22 with (refine wpList_store_whole rfl rfl 54 (.tmp 10) (.tmp 55) rfl M (W32 v7) rfl rfl 54 (W32 v6) T6.out Y6.out (by rw [W32_size, W32_size, N6.out, N7.out]) (W32_one _) ?_; intro wr7 hg6 hgr6 hs6)
              have I7 := Lib.hid (G6.out.grown hgr6 HM.out)
              have R7 := Lib.hid hg6
              clear hg6 hgr6 hs6 G6 T6 Y6 w6' 
              have Z7 := Lib.hid (show (Try.prog.info? 54).map (·.size) = some (W32 v7).size by rw [W32_size, N7.out]; kernel_rfl)
              go_wp2_with (refine wpList_load_row rfl 54 (.tmp 10) rfl M rfl 54 (W32 v7) (0, 0) _ R7.out Try.underlying54 rfl Z7.out ?_)
              refine (refQuarter_any v7 N7.out _ 3 4 9 14 (by omega) (by omega) (by omega) (by omega)).mono ?_
              rintro e w7' ⟨rfl, hb7⟩
              obtain ⟨v8, hv8⟩ : ∃ v, v = quarterL v7 3 4 9 14 := ⟨_, rfl⟩
              rw [← hv8]
              have V8 := Lib.hid hv8
              have N8 := Lib.hid (show v8.length = 16 by rw [hv8, quarterL_length]; exact N7.out)
              have Y7 := Lib.hid (show (Try.prog.info? 54).map (·.size) = some (W32 v8).size by rw [W32_size, N8.out]; kernel_rfl)
              have T7 := Lib.hid (below_block hb7 (row_lt R7.out) R7.out)
              have G7 := Lib.hid (I7.out.keep hb7)
              clear hv8 hb7 I7 R7 Z7 wr7
              go_upto_region 14 with (refine wpList_store_whole rfl rfl 54 (.tmp 10) (.tmp 57) rfl M (W32 v8) rfl rfl 54 (W32 v7) T7.out Y7.out (by rw [W32_size, W32_size, N7.out, N8.out]) (W32_one _) ?_; intro wr8 hg7 hgr7 hs7)
              have I8 := Lib.hid (G7.out.grown hgr7 HM.out)
              have R8 := Lib.hid hg7
              clear hg7 hgr7 hs7 G7 T7 Y7 w7' 
              go_wp2_with fail
              go_roundw
              case rel =>
                refine ⟨j + 1, by omega, by go_num, I8.out, ?_⟩
                rw [dblN_succ, ← V0.out, ← V1.out, ← V2.out, ← V3.out, ← V4.out, ← V5.out, ← V6.out, ← V7.out, ← V8.out]
                exact R8.out
              case measure => simp [intOf]; omega
            · have hj10 : Hid (j = 10) := show j = 10 by omega
              have hD : decide ((j : Int) < 10) = false := by simp; omega
              go_upto_region 24 with fail
              obtain ⟨O, hO⟩ : ∃ O, O = wr.heap.size := ⟨_, rfl⟩
              have hMO : M < O := by rw [hO]; exact row_lt S5.out
              refine wp_abs (fun W => RbW w s W ∧ W.heap[M]? = some (.cells (W32 (dblN s 10)) 54 (0, 0)) ∧ W.heap[O]? = some (.cells (W8 (outK (dblN s 10) s 0)) 44 (0, 0)))
                ⟨H5.out.keep ((Below.refl _ _).alloc (Nat.le_refl _) _), ha_old _ _ _ (row_lt S5.out) (by rw [hj10.out] at S5; exact S5.out), ha_new _ _ _ hO⟩ ?_
              rw [← hO]
              have HO := Lib.hid hMO
              clear hO hMO hD hlt hj
              rintro w6 ⟨H6', S6', O6'⟩
              have H6 := Lib.hid H6'
              have S6 := Lib.hid S6'
              have O6 := Lib.hid O6'
              clear H6' S6' O6' H5 S5 wr
              generalize hv : dblN s 10 = v at S6 O6
              have HV := Lib.hid (show v.length = 16 by rw [← hv, dblN_length, HS.out])
              have EV := Lib.hid hv
              clear hv
              go_wp2_with fail
              go_loopw [13] (fun i wr => ∃ j : Nat, j ≤ 64 ∧ i = .int .i64 (j : Int) ∧ RbW w s wr ∧ wr.heap[M]? = some (.cells (W32 v) 54 (0, 0)) ∧ wr.heap[O]? = some (.cells (W8 (outK v s j)) 44 (0, 0))) (fun i _ => 64 - (intOf i).toNat)
              case atStart => exact ⟨0, by omega, rfl, H6.out, S6.out, O6.out⟩
              case round =>
                obtain ⟨j, hj, rfl, H7', S7', O7'⟩ := hrel
                have H7 := Lib.hid H7'
                have S7 := Lib.hid S7'
                have O7 := Lib.hid O7'
                clear H7' S7' O7' H6 S6 O6 w6
                by_cases hlt : j < 64
                · have a1 := row_cell S7.out (j / 4) (W32_get _ _ (by rw [HV.out]; omega))
                  have a2 := row_cell H7.out.bs (j / 4) (W32_get _ _ (by rw [HS.out]; omega))
                  obtain ⟨x, hx⟩ : ∃ x, x = v.getD (j / 4) 0 := ⟨_, rfl⟩
                  obtain ⟨y, hy⟩ : ∃ y, y = s.getD (j / 4) 0 := ⟨_, rfl⟩
                  rw [← hx] at a1
                  rw [← hy] at a2
                  have HX := Lib.hid hx
                  have HY := Lib.hid hy
                  clear hx hy
                  have a3 := row_cell O7.out j (W8_get _ j (by rw [outK_length]; exact hlt))
                  have a4 := row_free O7.out j
                  obtain ⟨z, hz, e1⟩ := sum_ex x y
                  obtain ⟨q, hq, e2⟩ := byte_ex z (8 * (j % 4)) (by omega)
                  have hD : decide ((j : Int) < 64) = true := by simp; omega
                  go_wp2_with fail
                  have b0 : (j : Int) < 64 := by omega
                  have b1 : (0 : Int) ≤ (j : Int) / 4 := by omega
                  have b2 : (j : Int) / 4 < 16 := by omega
                  have b3 : (0 : Int) ≤ 8 * ((j : Int) % 4) := by omega
                  have e3 : IntKind.i64.wrap ((j : Int) / 4) = (j : Int) / 4 := IntWalk.i64_in _ (by omega)
                  have e4 : ((j : Int) / 4).toNat = j / 4 := by omega
                  have e5 : (j : Int).tmod 4 = (j : Int) % 4 := Int.tmod_eq_emod_of_nonneg (by omega)
                  have e6 : IntKind.i64.wrap ((j : Int) % 4) = (j : Int) % 4 := IntWalk.i64_in _ (by omega)
                  have e7 : IntKind.i64.wrap (8 * ((j : Int) % 4)) = 8 * ((j : Int) % 4) := IntWalk.i64_in _ (by omega)
                  have e8 : (8 * ((j : Int) % 4)).toNat = 8 * (j % 4) := by omega
                  have e9 : IntKind.u64.wrap (8 * ((j : Int) % 4)) = 8 * ((j : Int) % 4) := by rw [IntKind.wrap_u64]; omega
                  go_still_tail 17, (by kernel_rfl)
                  clear e1 e2 e3 e4 e5 e6 e7 e8 e9
                  change wpList _ _ _ _ _ wr.drew
                  go_wp2_with fail
                  go_roundw
                  case rel =>
                    refine ⟨j + 1, by omega, by go_num, ?_⟩
                    have G : wr.grownBy ((wr.setCell ⟨O, j, none⟩ (.int .u8 (q.toNat : Int))).drew) (some O) := grown_drew (grown_set (World.grownBy.refl _ _) _ _)
                    refine ⟨H7.out.grown G (by have := HM.out; have := HO.out; omega), grown_block G (by have := HO.out; simp; omega) S7.out, ?_⟩
                    show (wr.setCell ⟨O, j, none⟩ (.int .u8 (q.toNat : Int))).heap[O]? = _
                    rw [heap_setCell_same _ _ _ _ _ _ O7.out, W8_set, outK, byteOf, ← HX.out, ← HY.out, ← hz.out, ← hq.out]
                  case measure => simp [intOf]; omega
                · have hj64 : Hid (j = 64) := show j = 64 by omega
                  have hD : decide ((j : Int) < 64) = false := by simp; omega
                  have Z8 := Lib.hid (show (Try.prog.info? 44).map (·.size) = some (W8 (outK v s j)).size by rw [W8_size, outK_length]; kernel_rfl)
                  have Z9 := Lib.hid (show (W8 (List.replicate 64 0)).size = (W8 (outK v s j)).size by rw [W8_size, W8_size, outK_length]; rfl)
                  clear hlt hj
                  go_wp2_with (first
                    | (refine wpList_load_row rfl 44 (.tmp 12) rfl O rfl 44 (W8 (outK v s j)) (0, 0) _ O7.out Try.underlying44 rfl Z8.out ?_)
                    | (refine wpList_store_whole rfl rfl 44 (.tmp 6) (.tmp 79) rfl w.heap.size (W8 (outK v s j)) rfl rfl 44 _ H7.out.bz Z8.out Z9.out (W8_one _) ?_; intro w8 hz8 hg8 _))
                  refine bodyPost_ret (results_cell_row rfl _ _ w.heap.size 44 (W8 (outK v s j)) (0, 0) _ rfl hz8 Try.underlying44 rfl Z8.out) rfl ⟨?_, ?_⟩
                  · rw [blockL, hj64.out, ← EV.out, ES.out]
                  · exact H7.out.bel.trans (grown_below hg8 (Nat.le_of_lt (row_lt H7.out.bz)) (by rintro g ⟨⟩; omega))
end Go.Proofs.Ytdheopihcohciaa
