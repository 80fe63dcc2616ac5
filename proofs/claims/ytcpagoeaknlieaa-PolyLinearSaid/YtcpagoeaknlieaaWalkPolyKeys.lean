/- The law PolyKeys, walked. -/
import Derived.Test.YtcpagoeaknlieaaPolyOne
import Derived.Test.YtcpagoeaknlieaaBls
namespace Go.Proofs.Ytcpagoeaknlieaa
set_option linter.unusedVariables false
set_option linter.unusedSimpArgs false
open Go.RowKit
attribute [local go_sem ↓] Go.wp_at_zero Go.wp_at_succ

/-- What is laid from the beginning is what it was, behind it the old bytes. -/
def mixB (old new : List UInt8) (j : Nat) : List UInt8 := new.take j ++ old.drop j
theorem mixB_length (old new : List UInt8) (j : Nat) (h : old.length = new.length) (hj : j ≤ new.length) : (mixB old new j).length = new.length := by simp [mixB]; omega
theorem mixB_zero (old new : List UInt8) : mixB old new 0 = old := by simp [mixB]
theorem mixB_full (old new : List UInt8) (h : old.length = new.length) : mixB old new new.length = new := by rw [mixB, List.take_length, ← h, List.drop_length, List.append_nil]
theorem mixB_set (old new : List UInt8) (j : Nat) (h : old.length = new.length) (hj : j < new.length) : (mixB old new j).set j (new.getD j 0) = mixB old new (j + 1) := by
  apply List.ext_getElem
  · rw [List.length_set, mixB_length _ _ _ h (by omega), mixB_length _ _ _ h (by omega)]
  · intro i h1 h2
    rw [List.length_set, mixB_length _ _ _ h (by omega)] at h1
    simp only [mixB, List.getElem_set, List.getElem_append, List.length_take, List.getElem_take, List.getElem_drop]
    by_cases e : j = i
    · subst e
      rw [if_pos rfl, dif_pos (by omega)]
      simp [List.getD_eq_getElem?_getD, hj]
    · rw [if_neg e]
      by_cases h3 : i < j
      · rw [dif_pos (by omega), dif_pos (by omega)]
      · rw [dif_neg (by omega), dif_neg (by omega)]
        congr 1
        rw [Nat.min_eq_left (by omega), Nat.min_eq_left (by omega)]
        omega
def Z32' : List UInt8 := List.replicate 32 0
theorem zero32' : W8 Z32' = #[.int .u8 0, .int .u8 0, .int .u8 0, .int .u8 0, .int .u8 0, .int .u8 0, .int .u8 0, .int .u8 0, .int .u8 0, .int .u8 0, .int .u8 0, .int .u8 0, .int .u8 0, .int .u8 0, .int .u8 0, .int .u8 0, .int .u8 0, .int .u8 0, .int .u8 0, .int .u8 0, .int .u8 0, .int .u8 0, .int .u8 0, .int .u8 0, .int .u8 0, .int .u8 0, .int .u8 0, .int .u8 0, .int .u8 0, .int .u8 0, .int .u8 0, .int .u8 0] := rfl
theorem leNat_zeros : ∀ n, leNat (List.replicate n 0) = 0
  | 0 => rfl
  | n + 1 => by rw [List.replicate_succ, leNat, leNat_zeros n]; rfl
theorem bytes_of_leNat (s : List UInt8) (h : s.length = 16) : bytesN (leNat s) = s := by
  apply List.ext_getElem
  · rw [bytesN_length, h]
  · intro i h1 h2
    have e1 := tag_byte 0 s h i (by omega)
    have e2 : tagN 0 s = leNat s := by simp [tagN]
    rw [e2] at e1
    have e3 : (bytesN (leNat s)).getD i 0 = (bytesN (leNat s))[i] := by simp [List.getD_eq_getElem?_getD, h1]
    rw [← e3, e1]
    have e4 : tagK 0 s i / 256 ^ i = 0 := by
      have := leNat_lt (s.take i)
      rw [List.length_take, Nat.min_eq_left (by omega)] at this
      unfold tagK
      rw [Nat.zero_mod, Nat.zero_add]
      exact Nat.div_eq_of_lt this
    rw [e4]
    simp [List.getD_eq_getElem?_getD, h2]
theorem polyL_nil (key : List UInt8) (hk : key.length = 32) : polyL key [] = key.drop 16 := by
  unfold polyL
  rw [polyA_nil, tagN, Nat.zero_mod, Nat.zero_add]
  exact bytes_of_leNat _ (by simp [hk])
theorem clampL_zero : clampL (List.replicate 16 0) = List.replicate 16 0 := by decide
theorem polyL_zero (s b : List UInt8) (hs : s.length = 16) : polyL (List.replicate 16 0 ++ s) b = s := by
  unfold polyL
  have e1 : (List.replicate 16 0 ++ s).take 16 = List.replicate 16 (0 : UInt8) := by rw [List.take_append_of_le_length (by simp)]; simp
  have e2 : (List.replicate 16 0 ++ s).drop 16 = s := by rw [List.drop_append_of_le_length (by simp)]; simp
  rw [e1, e2, clampL_zero, leNat_zeros, polyA_zero 0 b.length b (Nat.le_refl _), tagN, Nat.zero_mod, Nat.zero_add]
  exact bytes_of_leNat _ hs
theorem polyL_clamped (key b : List UInt8) (hk : key.length = 32) : polyL (clampL (key.take 16) ++ key.drop 16) b = polyL key b := by
  unfold polyL
  have hc : (clampL (key.take 16)).length = 16 := by rw [clampL_length]; simp [hk]
  rw [List.take_append_of_le_length (by omega), List.take_of_length_le (by omega), List.drop_append_of_le_length (by omega), List.drop_of_length_le (by omega), clampL_twice _ (by simp [hk]), List.nil_append]
set_option maxRecDepth 100000 in
set_option maxHeartbeats 4000000 in
theorem polyKeys_walk (w : World) (key : List UInt8) (hk : key.length = 32) (A : Option Addr) (c : Nat) (bs : List UInt8) (hR : RdB w A bs) (hlc : bs.length ≤ c) (hcm : c ≤ 9223372036854775807) (hlt : ∀ a, A = some a → a.block < w.heap.size) (hz : bs.length ≤ 140737488351232) :
    Calls Try.prog 4 #[.agg (W8 key), .slice A bs.length c] w fun e w' => e = .returned (.bool true) ∧ Below w.heap.size w w' := by
  have HR := Lib.hid hR
  have HK := Lib.hid hk
  obtain ⟨i0, hi, hz0, hz1, hz2⟩ := info_parts (show (Try.prog.info? 5).map (fun i => (i.zero, i.size, i.bytes)) = some (some (.int .u8 0), 1, 1) by kernel_rfl)
  have I0 := Lib.hid hi
  have I2 := Lib.hid hz1
  have Z3 := Lib.hid zero32'
  clear hi hz0 hz1 hz2 hR hlt hk
  go_enter Try.func4, Try.ntmps4
  go_upto_region 1 with fail
  obtain ⟨B0, hB0⟩ : ∃ B, B = w.heap.size := ⟨_, rfl⟩
  obtain ⟨w1, hw1⟩ : ∃ w1, w1 = w.alloc (.cells (W8 key) 22) := ⟨_, rfl⟩
  have S1 := Lib.hid (show Bls w [(22, B0, key)] w1 by rw [hw1]; exact (Bls.start w).new _ _ hB0)
  rw [← hw1, ← hB0]
  clear hw1 hB0
  go_upto_if 14 with fail
  go_cut [1] (fun b wx => ∃ l : List UInt8, b = .slice A l.length c ∧ RdB w A l ∧ l.length ≤ 2000 ∧ l.length ≤ c ∧ wx = w1)
  case first =>
    by_cases h2 : 2000 < bs.length
    · have hD : decide ((2000 : Int) < (bs.length : Int)) = true := by simp; omega
      have hcut := cut_to (P := Try.prog) 23 5 Try.underlying23 I0.out I2.out A bs.length c 2000 (by omega)
      go_wp2_with fail
      go_meet
      exact ⟨bs.take 2000, by rw [show (bs.take 2000).length = 2000 by rw [List.length_take]; omega], HR.out.take _, by rw [List.length_take]; omega, by rw [List.length_take]; omega, rfl⟩
    · have hD : decide ((2000 : Int) < (bs.length : Int)) = false := by simp; omega
      go_wp2_with fail
      go_meet
      exact ⟨bs, rfl, HR.out, by omega, hlc, rfl⟩
  case rest =>
  clear hlc HR hz
  obtain ⟨l, rfl, hr, hl2, hlc, rfl⟩ := hcut
  obtain ⟨N, hN⟩ : ∃ N, N = l.length := ⟨_, rfl⟩
  rw [← hN] at hl2 hlc ⊢
  have NL := Lib.hid hN.symm
  have RR := Lib.hid hr
  have LC := Lib.hid hlc
  obtain ⟨h1, hh1⟩ : ∃ h, h = key.take 16 := ⟨_, rfl⟩
  have H1 := Lib.hid hh1
  have H1L := Lib.hid (show h1.length = 16 by rw [hh1]; have := HK.out; simp; omega)
  have G1 := Lib.hid (show wc.rangeAt B0 0 (B8 h1) by rw [hh1]; exact range_row (S1.out.blk (List.mem_cons_self ..)) 0 16 (by rw [HK.out]; omega))
  have Z1 := Lib.hid (show (Try.prog.info? 24).map (·.size) = some (B8 h1).length by rw [B8_length, H1L.out]; kernel_rfl)
  clear hr hlc hN hh1
  go_upto_region 4 with (first
    | (refine wpList_val rfl (run_arr_to 22 (.tmp 2) (.const (.int .i64 16)) rfl 32 5 Try.underlying22 I0.out B0 16 (by omega) rfl rfl _) ?_)
    | (refine wpList_val rfl (run_sl2arr 24 (.tmp 17) rfl 16 5 Try.underlying24 (some ⟨B0, 0, none⟩) 16 32 rfl (by omega) _) ?_)
    | (refine wpList_load_mid rfl 24 (.tmp 18) rfl B0 0 rfl (B8 h1) _ G1.out Try.underlying24 rfl Z1.out ?_)
    | (refine wpList_store_new rfl rfl 24 (.tmp 5) (.tmp 19) rfl (W8 h1) rfl rfl (info_16 H1L.out) ?c1 (W8_one _) ?_))
  case c1 => rw [W8_size, H1L.out]; rfl
  obtain ⟨M5, hM5⟩ : ∃ M, M = wc.heap.size := ⟨_, rfl⟩
  rw [← hM5]
  have S2 := Lib.hid (S1.out.new 24 h1 hM5)
  obtain ⟨w2, hw2⟩ : ∃ w2, w2 = wc.alloc (.cells (W8 h1) 24) := ⟨_, rfl⟩
  rw [← hw2] at S2 ⊢
  clear hw2 hM5 S1 G1
  go_wp2_with fail
  rw [← Z3.out]
  obtain ⟨M6, hM6⟩ : ∃ M, M = w2.heap.size := ⟨_, rfl⟩
  rw [← hM6]
  have S3 := Lib.hid (S2.out.new 22 Z32' hM6)
  obtain ⟨w3, hw3⟩ : ∃ w3, w3 = w2.alloc (.cells (W8 Z32') 22) := ⟨_, rfl⟩
  rw [← hw3] at S3 ⊢
  clear hw3 hM6 S2
  obtain ⟨s, hs⟩ : ∃ s, s = key.drop 16 := ⟨_, rfl⟩
  have SE := Lib.hid hs
  have SL := Lib.hid (show s.length = 16 by rw [hs]; have := HK.out; simp; omega)
  clear hs
  go_loopw [7] (fun u wr => ∃ j : Nat, j ≤ 16 ∧ u = .int .i64 (16 + (j : Int)) ∧ Bls w [(22, M6, List.replicate 16 0 ++ mixB (List.replicate 16 0) s j), (24, M5, h1), (22, B0, key)] wr) (fun u _ => 40 - (intOf u).toNat)
  case atStart => exact ⟨0, by omega, rfl, S3.out⟩
  case round =>
    obtain ⟨j, hj, rfl, hs⟩ := hrel
    have J := Lib.hid hj
    have S4 := Lib.hid hs
    clear hj hs S3
    by_cases hlt : j < 16
    · have hD : decide (16 + (j : Int) < 32) = true := by simp; omega
      obtain ⟨x, hx⟩ : ∃ x, x = key.getD (16 + j) 0 := ⟨_, rfl⟩
      have a1 := S4.out.cell (t := 22) (g := B0) (l := key) (by simp) (16 + j) (by rw [HK.out]; omega)
      have a2 := S4.out.cell (t := 22) (g := M6) (List.mem_cons_self ..) (16 + j) (by simp [mixB]; have := SL.out; omega)
      have f2 := S4.out.free (t := 22) (g := M6) (List.mem_cons_self ..) (16 + j)
      rw [← hx] at a1
      have b1 : 16 + (j : Int) < 32 := by omega
      have b0 : (0 : Int) ≤ 16 + (j : Int) := by omega
      have e1 : (16 + (j : Int)).toNat = 16 + j := by omega
      have X := Lib.hid (show x = s.getD j 0 by rw [hx, SE.out, List.getD_eq_getElem?_getD, List.getD_eq_getElem?_getD, List.getElem?_drop])
      clear hx
      go_wp2_with fail
      go_roundw
      case rel =>
        refine ⟨j + 1, by omega, ?_, ?_⟩
        · show Value.int .i64 _ = Value.int .i64 _
          congr 1 <;> omega
        · have := S4.out.set (16 + j) x
          rw [List.set_append_right _ _ (by simp), show 16 + j - (List.replicate 16 (0 : UInt8)).length = j by simp, X.out, mixB_set _ _ _ (by simp [SL.out]) (by rw [SL.out]; exact hlt)] at this
          rw [X.out]
          exact this
      case measure => simp [intOf]; omega
    · have hj : Hid (j = 16) := show j = 16 by have := J.out; omega
      have hD : decide (16 + (j : Int) < 32) = false := by simp; omega
      obtain ⟨z, hz⟩ : ∃ z, z = List.replicate 16 0 ++ s := ⟨_, rfl⟩
      have S5 := Lib.hid (show Bls w [(22, M6, z), (24, M5, h1), (22, B0, key)] wr by
        have := S4.out
        rw [hj.out, ← SL.out, mixB_full _ _ (by simp [SL.out]), SL.out, ← hz] at this
        exact this)
      have ZE := Lib.hid hz
      have ZL := Lib.hid (show z.length = 32 by rw [hz]; have := SL.out; simp; omega)
      have G2 := Lib.hid (show wr.rangeAt B0 16 (B8 s) by
        have := range_row (S5.out.blk (t := 22) (g := B0) (l := key) (by simp)) 16 16 (by rw [HK.out]; omega)
        rw [← SE.out, List.take_of_length_le (by rw [SL.out]; omega)] at this
        exact this)
      have Z2 := Lib.hid (show (Try.prog.info? 24).map (·.size) = some (B8 s).length by rw [B8_length, SL.out]; kernel_rfl)
      clear hz S4
      go_upto_region 10 with (first
        | (refine wpList_val rfl (run_ptr_from 22 (.tmp 2) (.const (.int .i64 16)) rfl 32 5 Try.underlying22 I0.out I2.out .i64 B0 0 16 (by omega) rfl rfl _) ?_)
        | (refine wpList_val rfl (run_sl2arr 24 (.tmp 29) rfl 16 5 Try.underlying24 (some ⟨B0, 16, none⟩) 16 16 rfl (by omega) _) ?_)
        | (refine wpList_load_mid rfl 24 (.tmp 30) rfl B0 16 rfl (B8 s) _ G2.out Try.underlying24 rfl Z2.out ?_)
        | (refine wpList_store_new rfl rfl 24 (.tmp 8) (.tmp 31) rfl (W8 s) rfl rfl (info_16 SL.out) ?c2 (W8_one _) ?_))
      case c2 => rw [W8_size, SL.out]; rfl
      obtain ⟨M8, hM8⟩ : ∃ M, M = wr.heap.size := ⟨_, rfl⟩
      rw [← hM8]
      have S6 := Lib.hid (S5.out.new 24 s hM8)
      obtain ⟨w4, hw4⟩ : ∃ w4, w4 = wr.alloc (.cells (W8 s) 24) := ⟨_, rfl⟩
      rw [← hw4] at S6 ⊢
      clear hw4 hM8 S5 G2
      go_wp2_with (refine wpList_load_row rfl 24 (.tmp 5) rfl M5 rfl 24 (W8 h1) (0, 0) _ (S6.out.blk (by simp)) Try.underlying24 rfl (info_16 H1L.out) ?_)
      refine (clamp_any h1 H1L.out _).mono ?_
      obtain ⟨cl, hcl⟩ : ∃ cl, cl = clampL h1 := ⟨_, rfl⟩
      rw [← hcl]
      have CE := Lib.hid hcl
      have CL := Lib.hid (show cl.length = 16 by rw [hcl, clampL_length, H1L.out])
      clear hcl
      rintro e w5 ⟨rfl, hb5⟩
      have S7 := Lib.hid (S6.out.keep hb5)
      clear hb5 S6
      go_upto_region 11 with (refine wpList_store_new rfl rfl 24 (.tmp 9) (.tmp 33) rfl (W8 cl) rfl rfl (info_16 CL.out) ?c3 (W8_one _) ?_)
      case c3 => rw [W8_size, CL.out]; rfl
      obtain ⟨M9, hM9⟩ : ∃ M, M = w5.heap.size := ⟨_, rfl⟩
      rw [← hM9]
      have S8 := Lib.hid (S7.out.new 24 cl hM9)
      obtain ⟨w6, hw6⟩ : ∃ w6, w6 = w5.alloc (.cells (W8 cl) 24) := ⟨_, rfl⟩
      rw [← hw6] at S8 ⊢
      clear hw6 hM9 S7
      go_wp2_with fail
      rw [← Z3.out]
      obtain ⟨M10, hM10⟩ : ∃ M, M = w6.heap.size := ⟨_, rfl⟩
      rw [← hM10]
      obtain ⟨k2, hk2⟩ : ∃ k, k = cl ++ s := ⟨_, rfl⟩
      have K2 := Lib.hid hk2
      have K2L := Lib.hid (show k2.length = 32 by rw [hk2, List.length_append, CL.out, SL.out])
      have S9 := Lib.hid (S8.out.new 22 Z32' hM10)
      obtain ⟨w7, hw7⟩ : ∃ w7, w7 = w6.alloc (.cells (W8 Z32') 22) := ⟨_, rfl⟩
      rw [← hw7] at S9 ⊢
      clear hw7 hM10 S8 hk2
      go_loopw [11] (fun u wr => ∃ j : Nat, j ≤ 32 ∧ u = .int .i64 (j : Int) ∧ Bls w [(22, M10, mixB Z32' k2 j), (24, M9, cl), (24, M8, s), (22, M6, z), (24, M5, h1), (22, B0, key)] wr) (fun u _ => 32 - (intOf u).toNat)
      case atStart => exact ⟨0, by omega, rfl, by rw [mixB_zero]; exact S9.out⟩
      case round =>
        obtain ⟨i, hi, rfl, hs⟩ := hrel
        have I := Lib.hid hi
        have SA := Lib.hid hs
        clear hi hs S9
        have ML := Lib.hid (show (mixB Z32' k2 i).length = 32 by rw [mixB_length _ _ _ (by rw [K2L.out]; simp [Z32']) (by rw [K2L.out]; exact I.out), K2L.out])
        by_cases hli : i < 32
        · have hD2 : decide ((i : Int) < 32) = true := by simp; omega
          obtain ⟨x, hx⟩ : ∃ x, x = key.getD i 0 := ⟨_, rfl⟩
          have a1 := SA.out.cell (t := 22) (g := B0) (l := key) (by simp) i (by rw [HK.out]; omega)
          have a2 := SA.out.cell (t := 22) (g := M10) (List.mem_cons_self ..) i (by rw [ML.out]; exact hli)
          have f2 := SA.out.free (t := 22) (g := M10) (List.mem_cons_self ..) i
          rw [← hx] at a1
          have b1 : (i : Int) < 32 := by omega
          have X := Lib.hid hx
          clear hx
          go_upto_region 16 with fail
          clear a1 a2 f2
          have SB := Lib.hid (SA.out.set i x)
          obtain ⟨w8, hw8⟩ : ∃ w8, w8 = wr.setCell ⟨M10, i, none⟩ (.int .u8 (x.toNat : Int)) := ⟨_, rfl⟩
          rw [← hw8] at SB ⊢
          clear hw8 SA
          by_cases h16 : i < 16
          · have hE : decide ((i : Int) < 16) = true := by simp; omega
            obtain ⟨y, hy⟩ : ∃ y, y = cl.getD i 0 := ⟨_, rfl⟩
            have a1 := SB.out.cell (t := 24) (g := M9) (l := cl) (by simp) i (by rw [CL.out]; omega)
            have a2 := SB.out.cell (t := 22) (g := M10) (List.mem_cons_self ..) i (by rw [List.length_set, ML.out]; exact hli)
            have f2 := SB.out.free (t := 22) (g := M10) (List.mem_cons_self ..) i
            rw [← hy] at a1
            have b3 : (i : Int) < 16 := by omega
            have Y := Lib.hid (show y = k2.getD i 0 by rw [hy, K2.out, List.getD_eq_getElem?_getD, List.getD_eq_getElem?_getD, List.getElem?_append_left (by rw [CL.out]; exact h16)])
            clear hy
            go_wp2_with fail
            go_roundw
            case rel =>
              refine ⟨i + 1, by omega, by go_num, ?_⟩
              have := SB.out.set i y
              rw [List.set_set, Y.out, mixB_set _ _ _ (by rw [K2L.out]; simp [Z32']) (by rw [K2L.out]; exact hli)] at this
              rw [Y.out]
              exact this
            case measure => simp [intOf]; omega
          · have hE : decide ((i : Int) < 16) = false := by simp; omega
            have Y := Lib.hid (show x = k2.getD i 0 by
              rw [X.out, K2.out, SE.out, List.getD_eq_getElem?_getD, List.getD_eq_getElem?_getD, List.getElem?_append_right (by rw [CL.out]; omega), CL.out, List.getElem?_drop]
              congr 2
              omega)
            go_wp2_with fail
            go_roundw
            case rel =>
              refine ⟨i + 1, by omega, by go_num, ?_⟩
              have := SB.out
              rw [Y.out, mixB_set _ _ _ (by rw [K2L.out]; simp [Z32']) (by rw [K2L.out]; exact hli)] at this
              exact this
            case measure => simp [intOf]; omega
        · have hi : Hid (i = 32) := show i = 32 by have := I.out; omega
          have hD2 : decide ((i : Int) < 32) = false := by simp; omega
          have SB := Lib.hid (show Bls w [(22, M10, k2), (24, M9, cl), (24, M8, s), (22, M6, z), (24, M5, h1), (22, B0, key)] wr by
            have := SA.out
            rw [hi.out, ← K2L.out, mixB_full _ _ (by rw [K2L.out]; simp [Z32'])] at this
            exact this)
          clear SA
          go_upto_region 18 with fail
          have SC := Lib.hid SB.out.drew
          obtain ⟨L, hL⟩ : ∃ L, L = [(22, M10, k2), (24, M9, cl), (24, M8, s), (22, M6, z), (24, M5, h1), (22, B0, key)] := ⟨_, rfl⟩
          have T0 := Lib.hid (show polyL key [] = s by rw [polyL_nil _ HK.out, SE.out])
          have T1 := Lib.hid (show polyL z l = s by rw [ZE.out]; exact polyL_zero _ _ SL.out)
          have T2 := Lib.hid (show clampL cl = cl by rw [CE.out]; exact clampL_twice _ H1L.out)
          have T3 := Lib.hid (show polyL k2 l = polyL key l by rw [K2.out, CE.out, SE.out, H1.out]; exact polyL_clamped _ _ HK.out)
          clear hL
          refine wp_region_road (Bls w [(22, M10, k2), (24, M9, cl), (24, M8, s), (22, M6, z), (24, M5, h1), (22, B0, key)]) [(true, 0), (true, 2), (false, 1), (true, 3), (true, 4), (true, 5), (true, 6), (true, 8), (false, 7), (true, 9), (true, 10), (true, 11), (true, 12), (true, 14), (false, 13), (true, 15), (true, 16), (true, 17), (true, 18), (true, 19), (true, 21), (true, 22), (false, 20), (false, 23), (true, 24), (true, 25), (true, 26), (false, 27), (true, 28), (true, 29)] (by kernel_rfl) (by kernel_rfl) (fun _ _ d _ _ h => by cases d <;> exact h) ?_
          simp only [List.filterMap_cons, List.filterMap_nil, List.getElem?_toArray, List.getElem?_cons_zero, List.getElem?_cons_succ, Option.map_some]
          refine planG_q (by rfl) (SC.out) (fun W hW => run_load_row 22 (.tmp 2) rfl B0 rfl 22 (W8 key) (0, 0) _ (hW.blk (by simp)) Try.underlying22 rfl (info_32 HK.out)) ?_
          simp only [Act.put, List.setIfInBounds_toArray, List.set_cons_zero, List.set_cons_succ]
          refine planG_q (by rfl) (SC.out) (fun W hW => run_load_row 24 (.tmp 8) rfl M8 rfl 24 (W8 s) (0, 0) _ (hW.blk (by simp)) Try.underlying24 rfl (info_16 SL.out)) ?_
          simp only [Act.put, List.setIfInBounds_toArray, List.set_cons_zero, List.set_cons_succ]
          refine planG_t (by rfl) (fun K hK => ?_)
          go_simp
          refine (polySum_any key HK.out _ none 0 0 [] rfl (Nat.le_refl _) (RdB.nil _ _) (by omega)).mono ?_
          rw [T0.out]
          rintro e w9 ⟨rfl, hb9⟩
          have SD := Lib.hid (SC.out.keep hb9)
          clear hb9 SC
          refine hK.out _ _ (SD.out) ?_
          clear hK K
          refine planG_q (by rfl) (SD.out) (fun W hW => run_eq_arr_true 24 _ (.tmp 51) (.tmp 52) rfl 5 16 Try.underlying24 Try.underlying5 (by kernel_rfl) (by kernel_rfl) s s SL.out rfl rfl rfl W) ?_
          simp only [Act.put, List.setIfInBounds_toArray, List.set_cons_zero, List.set_cons_succ]
          refine planG_q (v := ?_) (by rfl) (SD.out) ?_ ?_
          rotate_left
          · intro W hW
            go_simp
            with_reducible rfl
          simp only [Act.put, List.setIfInBounds_toArray, List.set_cons_zero, List.set_cons_succ]
          refine planG_q (by rfl) (SD.out) (fun W hW => run_load_row 22 (.tmp 6) rfl M6 rfl 22 (W8 z) (0, 0) _ (hW.blk (by simp)) Try.underlying22 rfl (info_32 ZL.out)) ?_
          simp only [Act.put, List.setIfInBounds_toArray, List.set_cons_zero, List.set_cons_succ]
          refine planG_q (v := ?_) (by rfl) (SD.out) ?_ ?_
          rotate_left
          · intro W hW
            go_simp
            with_reducible rfl
          simp only [Act.put, List.setIfInBounds_toArray, List.set_cons_zero, List.set_cons_succ]
          refine planG_q (by rfl) (SD.out) (fun W hW => run_load_row 24 (.tmp 8) rfl M8 rfl 24 (W8 s) (0, 0) _ (hW.blk (by simp)) Try.underlying24 rfl (info_16 SL.out)) ?_
          simp only [Act.put, List.setIfInBounds_toArray, List.set_cons_zero, List.set_cons_succ]
          refine planG_t (by rfl) (fun K hK => ?_)
          go_simp
          refine (polySum_any z ZL.out _ A N c l NL.out LC.out (RR.out.keep SD.out.bel) (by omega)).mono ?_
          rw [T1.out]
          rintro e w10 ⟨rfl, hb10⟩
          have SE2 := Lib.hid (SD.out.keep hb10)
          clear hb10 SD
          refine hK.out _ _ (SE2.out) ?_
          clear hK K
          refine planG_q (by rfl) (SE2.out) (fun W hW => run_eq_arr_true 24 _ (.tmp 57) (.tmp 58) rfl 5 16 Try.underlying24 Try.underlying5 (by kernel_rfl) (by kernel_rfl) s s SL.out rfl rfl rfl W) ?_
          simp only [Act.put, List.setIfInBounds_toArray, List.set_cons_zero, List.set_cons_succ]
          refine planG_q (v := ?_) (by rfl) (SE2.out) ?_ ?_
          rotate_left
          · intro W hW
            go_simp
            with_reducible rfl
          simp only [Act.put, List.setIfInBounds_toArray, List.set_cons_zero, List.set_cons_succ]
          refine planG_q (v := ?_) (by rfl) (SE2.out) ?_ ?_
          rotate_left
          · intro W hW
            go_simp
            with_reducible rfl
          simp only [Act.put, List.setIfInBounds_toArray, List.set_cons_zero, List.set_cons_succ]
          refine planG_q (by rfl) (SE2.out) (fun W hW => run_load_row 24 (.tmp 9) rfl M9 rfl 24 (W8 cl) (0, 0) _ (hW.blk (by simp)) Try.underlying24 rfl (info_16 CL.out)) ?_
          simp only [Act.put, List.setIfInBounds_toArray, List.set_cons_zero, List.set_cons_succ]
          refine planG_q (by rfl) (SE2.out) (fun W hW => run_load_row 24 (.tmp 9) rfl M9 rfl 24 (W8 cl) (0, 0) _ (hW.blk (by simp)) Try.underlying24 rfl (info_16 CL.out)) ?_
          simp only [Act.put, List.setIfInBounds_toArray, List.set_cons_zero, List.set_cons_succ]
          refine planG_t (by rfl) (fun K hK => ?_)
          go_simp
          refine (clamp_any cl CL.out _).mono ?_
          rw [T2.out]
          rintro e w11 ⟨rfl, hb11⟩
          have SF := Lib.hid (SE2.out.keep hb11)
          clear hb11 SE2
          refine hK.out _ _ (SF.out) ?_
          clear hK K
          refine planG_q (by rfl) (SF.out) (fun W hW => run_eq_arr_true 24 _ (.tmp 63) (.tmp 64) rfl 5 16 Try.underlying24 Try.underlying5 (by kernel_rfl) (by kernel_rfl) cl cl CL.out rfl rfl rfl W) ?_
          simp only [Act.put, List.setIfInBounds_toArray, List.set_cons_zero, List.set_cons_succ]
          refine planG_q (v := ?_) (by rfl) (SF.out) ?_ ?_
          rotate_left
          · intro W hW
            go_simp
            with_reducible rfl
          simp only [Act.put, List.setIfInBounds_toArray, List.set_cons_zero, List.set_cons_succ]
          refine planG_q (v := ?_) (by rfl) (SF.out) ?_ ?_
          rotate_left
          · intro W hW
            go_simp
            with_reducible rfl
          simp only [Act.put, List.setIfInBounds_toArray, List.set_cons_zero, List.set_cons_succ]
          refine planG_q (by rfl) (SF.out) (fun W hW => run_load_row 22 (.tmp 10) rfl M10 rfl 22 (W8 k2) (0, 0) _ (hW.blk (by simp)) Try.underlying22 rfl (info_32 K2L.out)) ?_
          simp only [Act.put, List.setIfInBounds_toArray, List.set_cons_zero, List.set_cons_succ]
          refine planG_q (v := ?_) (by rfl) (SF.out) ?_ ?_
          rotate_left
          · intro W hW
            go_simp
            with_reducible rfl
          simp only [Act.put, List.setIfInBounds_toArray, List.set_cons_zero, List.set_cons_succ]
          refine planG_q (by rfl) (SF.out) (fun W hW => run_load_row 22 (.tmp 2) rfl B0 rfl 22 (W8 key) (0, 0) _ (hW.blk (by simp)) Try.underlying22 rfl (info_32 HK.out)) ?_
          simp only [Act.put, List.setIfInBounds_toArray, List.set_cons_zero, List.set_cons_succ]
          refine planG_q (v := ?_) (by rfl) (SF.out) ?_ ?_
          rotate_left
          · intro W hW
            go_simp
            with_reducible rfl
          simp only [Act.put, List.setIfInBounds_toArray, List.set_cons_zero, List.set_cons_succ]
          refine planG_t (by rfl) (fun K hK => ?_)
          go_simp
          refine (polySum_any k2 K2L.out _ A N c l NL.out LC.out (RR.out.keep SF.out.bel) (by omega)).mono ?_
          rw [T3.out]
          obtain ⟨tag, htag⟩ : ∃ t, t = polyL key l := ⟨_, rfl⟩
          rw [← htag]
          have TE := Lib.hid htag
          have TL := Lib.hid (show tag.length = 16 by rw [htag, polyL_length])
          clear htag
          rintro e w12 ⟨rfl, hb12⟩
          have SG := Lib.hid (SF.out.keep hb12)
          clear hb12 SF
          refine hK.out _ _ (SG.out) ?_
          clear hK K
          refine planG_t (by rfl) (fun K hK => ?_)
          go_simp
          refine (polySum_any key HK.out _ A N c l NL.out LC.out (RR.out.keep SG.out.bel) (by omega)).mono ?_
          rw [← TE.out]
          rintro e w13 ⟨rfl, hb13⟩
          have SH := Lib.hid (SG.out.keep hb13)
          clear hb13 SG
          refine hK.out _ _ (SH.out) ?_
          clear hK K
          refine planG_q (by rfl) (SH.out) (fun W hW => run_eq_arr_true 24 _ (.tmp 70) (.tmp 73) rfl 5 16 Try.underlying24 Try.underlying5 (by kernel_rfl) (by kernel_rfl) tag tag TL.out rfl rfl rfl W) ?_
          simp only [Act.put, List.setIfInBounds_toArray, List.set_cons_zero, List.set_cons_succ]
          refine planG_q (v := ?_) (by rfl) (SH.out) ?_ ?_
          rotate_left
          · intro W hW
            go_simp
            with_reducible rfl
          simp only [Act.put, List.setIfInBounds_toArray, List.set_cons_zero, List.set_cons_succ]
          refine planG_q (v := ?_) (by rfl) (SH.out) ?_ ?_
          rotate_left
          · intro W hW
            go_simp
            with_reducible rfl
          simp only [Act.put, List.setIfInBounds_toArray, List.set_cons_zero, List.set_cons_succ]
          refine planG_t (by rfl) (fun K hK => ?_)
          go_simp
          refine (polyOne_true _).mono ?_
          rintro e w14 ⟨rfl, hb14⟩
          have SI := Lib.hid (SH.out.keep hb14)
          clear hb14 SH
          refine hK.out _ _ (SI.out) ?_
          clear hK K
          refine planG_q (v := ?_) (by rfl) (SI.out) ?_ ?_
          rotate_left
          · intro W hW
            go_simp
            with_reducible rfl
          simp only [Act.put, List.setIfInBounds_toArray, List.set_cons_zero, List.set_cons_succ]
          refine planG_q (v := ?_) (by rfl) (SI.out) ?_ ?_
          rotate_left
          · intro W hW
            go_simp
            with_reducible rfl
          simp only [Act.put, List.setIfInBounds_toArray, List.set_cons_zero, List.set_cons_succ]
          refine planG_nil ?_
          go_wp2_with fail
          go_ret
          exact ⟨rfl, SI.out.bel⟩
end Go.Proofs.Ytcpagoeaknlieaa
