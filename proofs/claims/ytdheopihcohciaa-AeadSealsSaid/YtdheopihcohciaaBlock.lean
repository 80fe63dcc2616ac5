/- A block of the key's bytes. -/
import Derived.Test.YtdheopihcohciaaProg
import Derived.Test.YtdheopihcohciaaLoad
import Derived.Deep.Cut
namespace Go.Proofs.Ytdheopihcohciaa
set_option linter.unusedVariables false
set_option linter.unusedSimpArgs false
open Go.RowKit

def dblN (l : List UInt32) : Nat → List UInt32
  | 0 => l
  | k + 1 => dblK (dblN l k) 8
theorem dblN_length (l : List UInt32) (k : Nat) : (dblN l k).length = l.length := by
  induction k with
  | zero => rfl
  | succ k ih => rw [dblN, dblK_length, ih]
def headL : List UInt32 := [0x61707865, 0x3320646e, 0x79622d32, 0x6b206574, 0, 0, 0, 0, 0, 0, 0, 0, 0, 0, 0, 0]
def initL (k n : List UInt8) (count : UInt32) : List UInt32 := (loadK (loadK headL 4 k 32) 13 n 12).set 12 count
theorem initL_length (k n : List UInt8) (count : UInt32) : (initL k n count).length = 16 := by simp [initL, loadK_length, headL]
def byteOf (v s : List UInt32) (i : Nat) : UInt8 := ((v.getD (i / 4) 0 + s.getD (i / 4) 0) >>> (UInt32.ofNat (8 * (i % 4)))).toUInt8
def outK (v s : List UInt32) : Nat → List UInt8
  | 0 => List.replicate 64 0
  | i + 1 => (outK v s i).set i (byteOf v s i)
theorem outK_length (v s : List UInt32) (i : Nat) : (outK v s i).length = 64 := by
  induction i with
  | zero => simp [outK]
  | succ i ih => simp [outK, ih]
/-- The block. -/
def blockL (k n : List UInt8) (count : UInt32) : List UInt8 := outK (dblN (initL k n count) 10) (initL k n count) 64
theorem blockL_length (k n : List UInt8) (count : UInt32) : (blockL k n count).length = 64 := outK_length _ _ _

theorem sum_ex (x y : UInt32) : ∃ z : UInt32, Hid (z = x + y) ∧ IntKind.u32.wrap ((x.toNat : Int) + (y.toNat : Int)) = (z.toNat : Int) := ⟨_, rfl, by rw [IntKind.wrap_u32, u32_add]⟩
theorem byte_ex (z : UInt32) (n : Nat) (hn : n < 32) : ∃ q : UInt8, Hid (q = (z >>> (UInt32.ofNat n)).toUInt8) ∧ IntKind.u8.wrap ((z.toNat : Int) / 2 ^ n) = (q.toNat : Int) := by
  refine ⟨_, rfl, ?_⟩
  have h2 : (z.toNat : Int) / 2 ^ n = ((z.toNat / 2 ^ n : Nat) : Int) := by
    rw [Int.natCast_ediv, Int.natCast_pow]; rfl
  have e1 : (UInt32.ofNat n).toNat = n := by simp; omega
  rw [h2, IntKind.wrap_u8, UInt32.toNat_toUInt8, UInt32.toNat_shiftRight, e1, Nat.mod_eq_of_lt hn, Nat.shiftRight_eq_div_pow]
  omega

/-- The call's own variables, once they are laid. -/
structure BlkW (w : World) (k n : List UInt8) (s : List UInt32) (W : World) : Prop where
  bk : W.heap[w.heap.size]? = some (.cells (W8 k) 23 (0, 0))
  bn : W.heap[w.heap.size + 1]? = some (.cells (W8 n) 27 (0, 0))
  bz : W.heap[w.heap.size + 1 + 1]? = some (.cells (W8 (List.replicate 64 0)) 44 (0, 0))
  bs : W.heap[w.heap.size + 1 + 1 + 1]? = some (.cells (W32 s) 55 (0, 0))
  bel : Below w.heap.size w W
theorem blk_start (w : World) (k n : List UInt8) : BlkW w k n headL ((((w.alloc (.cells (W8 k) 23)).alloc (.cells (W8 n) 27)).alloc (.cells (W8 (List.replicate 64 0)) 44)).alloc (.cells (W32 headL) 55)) where
  bk := ha_old _ _ _ (by simp; omega) (ha_old _ _ _ (by simp; omega) (ha_old _ _ _ (by simp) (ha_new _ _ _ rfl)))
  bn := ha_old _ _ _ (by simp) (ha_old _ _ _ (by simp) (ha_new _ _ _ (by simp)))
  bz := ha_old _ _ _ (by simp) (ha_new _ _ _ (by simp))
  bs := ha_new _ _ _ (by simp)
  bel := ((((Below.refl _ _).alloc (Nat.le_refl _) _).alloc (by simp) _).alloc (by simp; omega) _).alloc (by simp; omega) _
theorem BlkW.step {w W W' : World} {k n : List UInt8} {s s' : List UInt32} (h : BlkW w k n s W) (h' : StOK W (w.heap.size + 1 + 1 + 1) s' W') : BlkW w k n s' W' where
  bk := grown_block h'.2 (by simp; omega) h.bk
  bn := grown_block h'.2 (by simp) h.bn
  bz := grown_block h'.2 (by simp) h.bz
  bs := h'.1
  bel := h.bel.trans (grown_below h'.2 (Nat.le_of_lt (row_lt h.bk)) (by rintro g ⟨⟩; omega))
theorem BlkW.grown {w W W' : World} {k n : List UInt8} {s : List UInt32} {M : Nat} (h : BlkW w k n s W) (h' : W.grownBy W' (some M)) (hM : w.heap.size + 1 + 1 + 1 < M) : BlkW w k n s W' where
  bk := grown_block h' (by simp; omega) h.bk
  bn := grown_block h' (by simp; omega) h.bn
  bz := grown_block h' (by simp; omega) h.bz
  bs := grown_block h' (by simp; omega) h.bs
  bel := h.bel.trans (grown_below h' (Nat.le_of_lt (row_lt h.bk)) (by rintro g ⟨⟩; omega))
theorem BlkW.st {w W : World} {k n : List UInt8} {s : List UInt32} (h : BlkW w k n s W) : StOK W (w.heap.size + 1 + 1 + 1) s W := StOK.refl h.bs
theorem BlkW.keep {w W W' : World} {k n : List UInt8} {s : List UInt32} {B : Nat} (h : BlkW w k n s W) (h' : Below B W W') (hB : w.heap.size + 1 + 1 + 1 < B) : BlkW w k n s W' where
  bk := below_block h' (by omega) h.bk
  bn := below_block h' (by omega) h.bn
  bz := below_block h' (by omega) h.bz
  bs := below_block h' hB h.bs
  bel := h.bel.trans (h'.mono (by omega))
theorem BlkW.lt {w W : World} {k n : List UInt8} {s : List UInt32} (h : BlkW w k n s W) : w.heap.size + 1 + 1 + 1 < W.heap.size := row_lt h.bs

set_option maxRecDepth 100000 in
set_option maxHeartbeats 1000000 in
theorem block_any (k n : List UInt8) (hk : k.length = 32) (hn : n.length = 12) (count : UInt32) (w : World) :
    Calls Try.prog 15 #[.agg (W8 k), .agg (W8 n), .int .u32 (count.toNat : Int)] w fun e w' => e = .returned (.agg (W8 (blockL k n count))) ∧ Below w.heap.size w w' := by
  have HK := Lib.hid hk
  have HN := Lib.hid hn
  clear hk hn
  go_enter Try.func15, Try.ntmps15
  go_wp2_with fail
  refine calls_abs (fun W => BlkW w k n headL W) (blk_start w k n) ?_
  intro W0 H0'
  refine (load_len _ headL rfl _ H0'.st 4 (some ⟨w.heap.size, 0, none⟩) k 32 32 HK.out (RdB.row H0'.bk) (by intro a e; cases e; simp; omega) (by omega)).mono ?_
  rintro e w1 ⟨rfl, H1'⟩
  replace H1' := H0'.step H1'
  have H1 := Lib.hid H1'
  clear H1' H0' W0
  go_wp2_with fail
  refine (load_len _ _ (by rw [loadK_length]; rfl) _ H1.out.st 13 (some ⟨w.heap.size + 1, 0, none⟩) n 12 12 HN.out (RdB.row H1.out.bn) (by intro a e; cases e; simp) (by omega)).mono ?_
  rintro e w2 ⟨rfl, H2'⟩
  replace H2' := H1.out.step H2'
  have H2 := Lib.hid H2'
  obtain ⟨x, hx, a1⟩ := H2'.st.pick 12 (by simp [loadK_length, headL])
  have a2 := H2'.st.free 12
  clear H2' H1 w1
  go_upto_region 5 with fail
  refine wp_abs (fun W => BlkW w k n (initL k n count) W) (H2.out.step (H2.out.st.set 12 count _ rfl)) ?_
  intro w3 H3'
  clear a1 a2 hx x H2 w2
  have H3 := Lib.hid H3'
  clear H3'
  have Z := Lib.hid (show (Try.prog.info? 55).map (·.size) = some (W32 (initL k n count)).size by rw [W32_size, initL_length]; kernel_rfl)
  go_upto_region 6 with (first
    | (refine wpList_load_row rfl 55 (.tmp 7) rfl (w.heap.size + 1 + 1 + 1) rfl 55 (W32 (initL k n count)) (0, 0) _ H3.out.bs Try.underlying55 rfl Z.out ?_)
    | (refine wpList_store_new rfl rfl 55 (.tmp 8) (.tmp 19) rfl (W32 (initL k n count)) rfl rfl Z.out ?c1 (W32_one _) ?_))
  case c1 => rw [W32_size, initL_length]; rfl
  clear Z
  obtain ⟨M, hM⟩ : ∃ M, M = w3.heap.size := ⟨_, rfl⟩
  have hMl : w.heap.size + 1 + 1 + 1 < M := by rw [hM]; exact H3.out.lt
  refine wp_abs (fun W => BlkW w k n (initL k n count) W ∧ StOK W M (initL k n count) W) ⟨H3.out.keep ((Below.refl _ _).alloc (Nat.le_refl _) _) H3.out.lt, StOK.refl (ha_new _ _ _ hM)⟩ ?_
  rw [← hM]
  clear hM
  have HM := Lib.hid hMl
  clear hMl
  rintro w4 ⟨H4', S4'⟩
  have H4 := Lib.hid H4'
  have S4 := Lib.hid S4'
  clear H4' S4' H3 w3
  go_wp2_with fail
  go_loopw [20] (fun i wr => ∃ j : Nat, j ≤ 10 ∧ i = .int .i64 (j : Int) ∧ BlkW w k n (initL k n count) wr ∧ StOK wr M (dblN (initL k n count) j) wr) (fun i _ => 10 - (intOf i).toNat)
  case atStart => exact ⟨0, by omega, rfl, H4.out, S4.out⟩
  case round =>
    obtain ⟨j, hj, rfl, H5', S5'⟩ := hrel
    have H5 := Lib.hid H5'
    have S5 := Lib.hid S5'
    clear H5' S5' H4 S4 w4
    by_cases hlt : j < 10
    · go_wp2_with fail
      refine (double_any M (dblN (initL k n count) j) (by rw [dblN_length, initL_length]) _ S5.out).mono ?_
      rintro e w1 ⟨rfl, S6'⟩
      have S6 := Lib.hid S6'
      clear S6'
      go_wp2_with fail
      go_roundw
      case rel => exact ⟨j + 1, by omega, by go_num, H5.out.grown S6.out.2 HM.out, StOK.refl S6.out.1⟩
      case measure => simp [intOf]; omega
    · have hj10 : Hid (j = 10) := show j = 10 by omega
      have hD : decide ((j : Int) < 10) = false := by simp; omega
      go_upto_region 11 with fail
      obtain ⟨O, hO⟩ : ∃ O, O = wr.heap.size := ⟨_, rfl⟩
      have hMO : M < O := by rw [hO]; exact row_lt S5.out.1
      refine wp_abs (fun W => BlkW w k n (initL k n count) W ∧ StOK W M (dblN (initL k n count) 10) W ∧ W.heap[O]? = some (.cells (W8 (outK (dblN (initL k n count) 10) (initL k n count) 0)) 44 (0, 0)))
        ⟨H5.out.keep ((Below.refl _ _).alloc (Nat.le_refl _) _) H5.out.lt, StOK.refl (ha_old _ _ _ (row_lt S5.out.1) (by rw [hj10.out] at S5; exact S5.out.1)), ha_new _ _ _ hO⟩ ?_
      rw [← hO]
      have HO := Lib.hid hMO
      clear hO hMO hD hlt hj
      rintro w6 ⟨H6', S6', O6'⟩
      have H6 := Lib.hid H6'
      have S6 := Lib.hid S6'
      have O6 := Lib.hid O6'
      clear H6' S6' O6' H5 S5 wr
      generalize hv : dblN (initL k n count) 10 = v at S6 O6
      generalize hs : initL k n count = s at H6 O6
      have HV := Lib.hid (show v.length = 16 by rw [← hv, dblN_length, initL_length])
      have HS := Lib.hid (show s.length = 16 by rw [← hs, initL_length])
      have EV := Lib.hid hv
      have ES := Lib.hid hs
      clear hv hs
      go_wp2_with fail
      go_loopw [24] (fun i wr => ∃ j : Nat, j ≤ 64 ∧ i = .int .i64 (j : Int) ∧ BlkW w k n s wr ∧ StOK wr M v wr ∧ wr.heap[O]? = some (.cells (W8 (outK v s j)) 44 (0, 0))) (fun i _ => 64 - (intOf i).toNat)
      case atStart => exact ⟨0, by omega, rfl, H6.out, S6.out, O6.out⟩
      case round =>
        obtain ⟨j, hj, rfl, H7', S7', O7'⟩ := hrel
        have H7 := Lib.hid H7'
        have S7 := Lib.hid S7'
        have O7 := Lib.hid O7'
        clear H7' S7' O7' H6 S6 O6 w6
        by_cases hlt : j < 64
        · obtain ⟨x, hx, a1⟩ := S7.out.pick (j / 4) (by rw [HV.out]; omega)
          obtain ⟨y, hy, a2⟩ := H7.out.st.pick (j / 4) (by rw [HS.out]; omega)
          have a3 := row_cell O7.out j (W8_get _ j (by rw [outK_length]; exact hlt))
          have a4 := row_free O7.out j
          obtain ⟨z, hz, e1⟩ := sum_ex x y
          obtain ⟨q, hq, e2⟩ := byte_ex z (8 * (j % 4)) (by omega)
          have hD : decide ((j : Int) < 64) = true := by simp; omega
          go_wp2_with fail
          have b0 : (j : Int) < 64 := by omega
          have b1 : (0 : Int) ≤ (j : Int) / 4 := by omega
          have b2 : (j : Int) / 4 < 16 := by omega
          have b3 : (0 : Int) ≤ 8 * ((j : Int) % 4) := by omega
          have e4 : ((j : Int) / 4).toNat = j / 4 := by omega
          have e5 : (j : Int).tmod 4 = (j : Int) % 4 := Int.tmod_eq_emod_of_nonneg (by omega)
          have e6 : IntKind.i64.wrap ((j : Int) % 4) = (j : Int) % 4 := IntWalk.i64_in _ (by omega)
          have e7 : IntKind.i64.wrap (8 * ((j : Int) % 4)) = 8 * ((j : Int) % 4) := IntWalk.i64_in _ (by omega)
          have e8 : (8 * ((j : Int) % 4)).toNat = 8 * (j % 4) := by omega
          go_still_tail 14, (by kernel_rfl)
          clear e1 e2 e4 e5 e6 e7 e8
          change wpList _ _ _ _ _ wr.drew
          go_wp2_with fail
          go_roundw
          case rel =>
            refine ⟨j + 1, by omega, by go_num, ?_⟩
            have G : wr.grownBy ((wr.setCell ⟨O, j, none⟩ (.int .u8 (q.toNat : Int))).drew) (some O) := grown_drew (grown_set (World.grownBy.refl _ _) _ _)
            refine ⟨H7.out.grown G (by have := HM.out; have := HO.out; omega), StOK.refl (grown_block G (by have := HO.out; simp; omega) S7.out.1), ?_⟩
            show (wr.setCell ⟨O, j, none⟩ (.int .u8 (q.toNat : Int))).heap[O]? = _
            rw [heap_setCell_same _ _ _ _ _ _ O7.out, W8_set, outK, byteOf, ← hx.out, ← hy.out, ← hz.out, ← hq.out]
          case measure => simp [intOf]; omega
        · have hj64 : Hid (j = 64) := show j = 64 by omega
          have hD : decide ((j : Int) < 64) = false := by simp; omega
          have Z8  := Lib.hid (show (Try.prog.info? 44).map (·.size) = some (W8 (outK v s j)).size by rw [W8_size, outK_length]; kernel_rfl)
          have Z9  := Lib.hid (show (W8 (List.replicate 64 0)).size = (W8 (outK v s j)).size by rw [W8_size, W8_size, outK_length]; rfl)
          clear hlt hj
          go_wp2_with (first
            | (refine wpList_load_row rfl 44 (.tmp 9) rfl O rfl 44 (W8 (outK v s j)) (0, 0) _ O7.out Try.underlying44 rfl Z8.out ?_)
            | (refine wpList_store_whole rfl rfl 44 (.tmp 6) (.tmp 44) rfl (w.heap.size + 1 + 1) (W8 (outK v s j)) rfl rfl 44 _ H7.out.bz Z8.out Z9.out (W8_one _) ?_; intro w8 hz8 hg8 _))
          refine bodyPost_ret (results_cell_row rfl _ _ (w.heap.size + 1 + 1) 44 (W8 (outK v s j)) (0, 0) _ rfl hz8 Try.underlying44 rfl Z8.out) rfl ⟨?_, ?_⟩
          · rw [blockL, EV.out, ES.out, hj64.out]
          · exact H7.out.bel.trans (grown_below hg8 (Nat.le_of_lt (row_lt H7.out.bk)) (by rintro g ⟨⟩; omega))
end Go.Proofs.Ytdheopihcohciaa
