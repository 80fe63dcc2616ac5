/- The document's text laid over the key's bytes is the program's. -/
import Derived.Test.YtdheopihcohciaaRefBlk
import Derived.Test.YtdheopihcohciaaStreamLaws
import Derived.Test.YtdheopihcohciaaPlan
import Derived.Test.YtdheopihcohciaaCuts
namespace Go.Proofs.Ytdheopihcohciaa
set_option linter.unusedVariables false
set_option linter.unusedSimpArgs false
open Go.RowKit
attribute [local go_sem ↓] Go.wp_at_zero Go.wp_at_succ

theorem strB_nil : strB [] = ByteArray.empty := rfl
theorem strB_snoc (l : List UInt8) (z : UInt8) : strB l ++ strB [z] = strB (l ++ [z]) := by
  apply ByteArray.ext
  rw [ByteArray.data_append]
  simp [strB]
theorem count_j (count : UInt32) (j : Nat) (hj : j ≤ 1000) : IntKind.u32.wrap ((count.toNat : Int) + IntKind.u32.wrap (IntKind.i64.wrap ((j : Int) / 64))) = ((count + UInt32.ofNat (j / 64)).toNat : Int) := by
  have e : (j : Int) / 64 = ((j / 64 : Nat) : Int) := by omega
  have e2 : (IntKind.i64.wrap ((j / 64 : Nat) : Int)) = ((j / 64 : Nat) : Int) := by rw [IntKind.wrap_i64]; omega
  have e4 : (IntKind.u32.wrap ((j / 64 : Nat) : Int)) = ((j / 64 : Nat) : Int) := by rw [IntKind.wrap_u32]; omega
  rw [e, e2, e4, IntKind.wrap_u32, UInt32.toNat_add, UInt32.toNat_ofNat']
  simp only [Nat.reducePow]
  omega
theorem count_j' (count : UInt32) (j : Nat) (hj : j ≤ 1000) : ((count.toNat : Int) + (j : Int) / 64) % 4294967296 = ((count + UInt32.ofNat (j / 64)).toNat : Int) := by
  rw [UInt32.toNat_add, UInt32.toNat_ofNat']
  simp only [Nat.reducePow]
  omega
/-- The call's own variable: the block at which it is. -/
structure RsW (w : World) (b : List UInt8) (W : World) : Prop where
  bb : W.heap[w.heap.size]? = some (.cells (W8 b) 44 (0, 0))
  bel : Below w.heap.size w W
theorem RsW.below {w W W' : World} {b : List UInt8} (h : RsW w b W) (hb : Below W.heap.size W W') : RsW w b W' := ⟨below_block hb (row_lt h.bb) h.bb, h.bel.trans (hb.mono (Nat.le_of_lt (row_lt h.bb)))⟩

theorem zero64 : W8 (List.replicate 64 0) = #[.int .u8 0, .int .u8 0, .int .u8 0, .int .u8 0, .int .u8 0, .int .u8 0, .int .u8 0, .int .u8 0, .int .u8 0, .int .u8 0, .int .u8 0, .int .u8 0, .int .u8 0, .int .u8 0, .int .u8 0, .int .u8 0,
    .int .u8 0, .int .u8 0, .int .u8 0, .int .u8 0, .int .u8 0, .int .u8 0, .int .u8 0, .int .u8 0, .int .u8 0, .int .u8 0, .int .u8 0, .int .u8 0, .int .u8 0, .int .u8 0, .int .u8 0, .int .u8 0,
    .int .u8 0, .int .u8 0, .int .u8 0, .int .u8 0, .int .u8 0, .int .u8 0, .int .u8 0, .int .u8 0, .int .u8 0, .int .u8 0, .int .u8 0, .int .u8 0, .int .u8 0, .int .u8 0, .int .u8 0, .int .u8 0,
    .int .u8 0, .int .u8 0, .int .u8 0, .int .u8 0, .int .u8 0, .int .u8 0, .int .u8 0, .int .u8 0, .int .u8 0, .int .u8 0, .int .u8 0, .int .u8 0, .int .u8 0, .int .u8 0, .int .u8 0, .int .u8 0] := rfl
set_option maxRecDepth 100000 in
set_option maxHeartbeats 2000000 in
theorem refStream_any (k n : List UInt8) (hk : k.length = 32) (hn : n.length = 12) (count : UInt32) (bs : List UInt8) (hb : bs.length ≤ 1000) (w : World) :
    Calls Try.prog 22 #[.string (strB k), .string (strB n), .int .u32 (count.toNat : Int), .string (strB bs)] w fun e w' => e = .returned (.string (strB (streamL k n count bs))) ∧ Below w.heap.size w w' := by
  have HK := Lib.hid hk
  have HN := Lib.hid hn
  have HBB := Lib.hid hb
  obtain ⟨N, hN⟩ : ∃ N, N = bs.length := ⟨_, rfl⟩
  have hs : (strB bs).size = N := by rw [strB_size, hN]
  have NV := Lib.hid hN
  have N1 := Lib.hid (show N ≤ 1000 by rw [hN]; exact hb)
  clear hk hn hb hN
  go_enter Try.func22, Try.ntmps22
  go_wp2_with fail
  rw [← zero64]
  obtain ⟨i0, hi, hz0, hz1, hz2⟩ := info_parts (show (Try.prog.info? 5).map (fun i => (i.zero, i.size, i.bytes)) = some (some (.int .u8 0), 1, 1) by kernel_rfl)
  have I0 := Lib.hid hi
  have I2 := Lib.hid hz1
  clear hi hz0 hz1 hz2
  refine wp_abs (fun W => RsW w (List.replicate 64 0) W) ⟨ha_new _ _ _ rfl, (Below.refl _ _).alloc (Nat.le_refl _) _⟩ ?_
  intro w1 h1
  have H1 := Lib.hid h1
  clear h1
  go_loopw [9, 11] (fun o i wr => ∃ (j : Nat) (b : List UInt8), j ≤ N ∧ b.length = 64 ∧ i = .int .i64 (j : Int) ∧ o = .string (strB ((streamL k n count bs).take j)) ∧ (j % 64 ≠ 0 → b = blockL k n (count + UInt32.ofNat (j / 64))) ∧ RsW w b wr) (fun _ i _ => N - (intOf i).toNat)
  case atStart => exact ⟨0, List.replicate 64 0, by omega, by simp, rfl, rfl, by omega, H1.out⟩
  case round =>
    obtain ⟨j, b, hj, hbl, rfl, rfl, hbk, ht⟩ := hrel
    have J := Lib.hid hj
    have BL := Lib.hid hbl
    have BK := Lib.hid hbk
    have H2 := Lib.hid ht
    have hn1 := N1.out
    clear hj hbl hbk ht H1 w1
    by_cases hlt : j < N
    · have hD : decide ((j : Int) < (N : Int)) = true := by simp; omega
      go_upto_if 20 with fail
      go_cut [11] (fun i wx => i = .int .i64 (j : Int) ∧ RsW w (blockL k n (count + UInt32.ofNat (j / 64))) wx)
      case first =>
        by_cases h64 : j % 64 = 0
        · have e5 : (((j : Int) % 64) == 0) = true := by simp; omega
          go_wp2_with fail
          rw [count_j' count j (by omega)]
          obtain ⟨cq, hcq⟩ : ∃ cq, cq = count + UInt32.ofNat (j / 64) := ⟨_, rfl⟩
          rw [← hcq]
          refine (refBlock_any k n HK.out HN.out cq _).mono ?_
          rintro e w2 ⟨rfl, hb2⟩
          have H3 := Lib.hid (H2.out.below hb2)
          clear hb2
          obtain ⟨B, hB⟩ : ∃ B, B = blockL k n cq := ⟨_, rfl⟩
          rw [← hB]
          have LB := Lib.hid (show B.length = 64 by rw [hB, blockL_length])
          have EB := Lib.hid hB
          clear hB
          have Z1 := Lib.hid (show (Try.prog.info? 44).map (·.size) = some (W8 B).size by rw [W8_size, LB.out]; kernel_rfl)
          go_wp2_with (refine wpList_store_whole rfl rfl 44 (.tmp 10) (.tmp 28) rfl w.heap.size (W8 B) rfl rfl 44 (W8 b) H3.out.bb Z1.out (by rw [W8_size, W8_size, BL.out, LB.out]) (W8_one _) ?_; intro w3 hg3 hgr3 hs3)
          go_meet
          refine ⟨rfl, ?_⟩
          rw [← hcq, ← EB.out]
          exact ⟨hg3, H3.out.bel.trans (grown_below hgr3 (Nat.le_of_lt (row_lt H3.out.bb)) (fun g e => by simp at e; omega))⟩
        · have e5 : (((j : Int) % 64) == 0) = false := by simp; omega
          go_wp2_with fail
          go_meet
          exact ⟨rfl, by rw [← BK.out h64]; exact H2.out⟩
      case rest =>
        obtain ⟨rfl, h3⟩ := hcut
        go_upto_region 8 with fail
        clear BK BL
        obtain ⟨B, hB⟩ : ∃ B, B = blockL k n (count + UInt32.ofNat (j / 64)) := ⟨_, rfl⟩
        rw [← hB] at h3
        have H3 := Lib.hid h3
        have BL := Lib.hid (show B.length = 64 by rw [hB, blockL_length])
        have EB := Lib.hid hB
        clear hB h3
        obtain ⟨x, hx⟩ : ∃ x, x = bs.getD j 0 := ⟨_, rfl⟩
        obtain ⟨y, hy⟩ : ∃ y, y = B.getD (j % 64) 0 := ⟨_, rfl⟩
        have X := Lib.hid hx
        have Y := Lib.hid hy
        obtain ⟨z, hz, e1⟩ := xor_ex x y
        have e2 : Hid ((j : Int).tmod 64 = ((j % 64 : Nat) : Int)) := by show _ = _; rw [Int.tmod_eq_emod_of_nonneg (by omega)]; omega
        have C1 := Lib.hid (fun W (hW : RsW w B W) => (show W.cell? ⟨w.heap.size, j % 64, none⟩ = some (.int .u8 (y.toNat : Int)) by
          have := row_cell hW.bb (j % 64) (W8_get B (j % 64) (by rw [BL.out]; omega))
          rw [this, Y.out]))
        clear hx hy hlt
        have hlt2 := Lib.hid (show j < bs.length by have := NV.out; have := J.out; simp at hD; omega)
        refine wp_region_plan (RsW w B) [0, 1, 2, 3, 4, 5, 6, 7, 8] [9, 10, 11, 12] (by kernel_rfl) (by kernel_rfl) (fun _ _ d _ _ h => by cases d <;> exact h) (H3.out.below (Below.refl _ _).drew) ?_
        simp only [List.filterMap_cons, List.filterMap_nil, List.getElem?_toArray, List.getElem?_cons_zero, List.getElem?_cons_succ]
        refine planQ_cons (v := ?_) (by rfl) ?_ ?_
        rotate_left
        · intro W hW
          go_simp
          with_reducible rfl
        simp only [Act.put, List.setIfInBounds_toArray, List.set_cons_zero, List.set_cons_succ]
        refine planQ_cons (v := ?_) (by rfl) ?_ ?_
        rotate_left
        · intro W hW
          go_simp
          with_reducible rfl
        simp only [Act.put, List.setIfInBounds_toArray, List.set_cons_zero, List.set_cons_succ]
        refine planQ_cons (v := ?_) (by rfl) ?_ ?_
        rotate_left
        · intro W hW
          go_simp
          with_reducible rfl
        simp only [Act.put, List.setIfInBounds_toArray, List.set_cons_zero, List.set_cons_succ]
        refine planQ_cons (by rfl) (fun W hW => run_idx_str 9 (.tmp 30) (.tmp 31) rfl Try.underlying9 bs j x X.out hlt2.out .i64 _ rfl rfl rfl W) ?_
        simp only [Act.put, List.setIfInBounds_toArray, List.set_cons_zero, List.set_cons_succ]
        refine planQ_cons (v := ?_) (by rfl) ?_ ?_
        rotate_left
        · intro W hW
          go_simp
          with_reducible rfl
        simp only [Act.put, List.setIfInBounds_toArray, List.set_cons_zero, List.set_cons_succ]
        refine planQ_cons (v := ?_) (by rfl) ?_ ?_
        rotate_left
        · intro W hW
          go_simp
          with_reducible rfl
        simp only [Act.put, List.setIfInBounds_toArray, List.set_cons_zero, List.set_cons_succ]
        refine planQ_cons (by rfl) (fun W hW => run_iaddr_arr 44 (.tmp 10) (.tmp 34) rfl 64 5 Try.underlying44 I0.out I2.out w.heap.size (j % 64) (by omega) .i64 _ e2.out rfl rfl W) ?_
        simp only [Act.put, List.setIfInBounds_toArray, List.set_cons_zero, List.set_cons_succ]
        refine planQ_cons (by rfl) (fun W hW => run_cell 5 (.tmp 35) rfl _ Try.underlying5 rfl rfl (C1.out W hW)) ?_
        simp only [Act.put, List.setIfInBounds_toArray, List.set_cons_zero, List.set_cons_succ]
        refine planQ_cons (v := ?_) (by rfl) ?_ ?_
        rotate_left
        · intro W hW
          go_simp
          with_reducible rfl
        simp only [Act.put, List.setIfInBounds_toArray, List.set_cons_zero, List.set_cons_succ]
        clear e1
        refine planQ_nil ?_
        refine planT_cons (by rfl) (fun K hK => ?_)
        go_simp
        have H4 := Lib.hid (show RsW w B (wc.drew.alloc (.cells #[.int .u8 (z.toNat : Int)] 5)) from H3.out.below ((Below.refl _ _).drew.alloc (Nat.le_refl _) _))
        refine hK.out _ _ (H4.out) ?_
        clear hK K
        refine planT_val (by rfl) (H4.out) (run_str 24 9 (.tmp 38) rfl Try.underlying24 Try.underlying5 Try.underlying9 (RdB.one (y := z) (row_cell (fr := (0, 0)) (ha_new _ _ _ rfl) 0 rfl)) 1 1 rfl rfl) ?_
        simp only [Act.put, List.setIfInBounds_toArray, List.set_cons_zero, List.set_cons_succ]
        refine planT_val (by rfl) (H4.out) (run_cat 9 _ (.tmp 29) (.tmp 39) rfl ((streamL k n count bs).take j) [z] rfl rfl (by have := N1.out; have := NV.out; rw [List.length_take, streamL_length]; simp; omega) _) ?_
        simp only [Act.put, List.setIfInBounds_toArray, List.set_cons_zero, List.set_cons_succ]
        refine planT_val (v := ?_) (by rfl) (H4.out) ?_ ?_
        rotate_left
        · go_simp
          with_reducible rfl
        simp only [Act.put, List.setIfInBounds_toArray, List.set_cons_zero, List.set_cons_succ]
        refine planT_nil ?_
        have hj1 : j < 1000 := by have := hlt2.out; have := HBB.out; omega
        go_wp2_with fail
        go_roundw
        case rel =>
          refine ⟨j + 1, B, by have := hlt2.out; have := NV.out; omega, BL.out, by go_num, ?_, fun h => ?_, H4.out⟩
          · congr 2
            rw [streamL_snoc _ _ _ _ _ hlt2.out, ← X.out, keyByte, ← EB.out, ← Y.out, ← hz.out]
          · rw [EB.out]
            congr 3
            omega
        case measure => have := hlt2.out; have := NV.out; simp [intOf]; omega
    · have hjn : Hid (j = N) := show j = N by have := J.out; omega
      have hD : decide ((j : Int) < (N : Int)) = false := by simp; omega
      go_wp2_with fail
      go_ret
      refine ⟨?_, H2.out.bel⟩
      show Ending.returned (.string (strB ((streamL k n count bs).take j))) = _
      rw [List.take_of_length_le (by rw [streamL_length, hjn.out, NV.out]; exact Nat.le_refl _)]
end Go.Proofs.Ytdheopihcohciaa
