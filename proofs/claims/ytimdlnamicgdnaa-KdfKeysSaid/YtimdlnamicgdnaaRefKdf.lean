/- The document's HMAC. No condition but those each theorem states. -/
import Derived.Test.YtimdlnamicgdnaaRefShaS
import Derived.Test.YtimdlnamicgdnaaKdfMac
namespace Go.Proofs.Ytimdlnamicgdnaa
set_option linter.unusedVariables false
set_option linter.unusedSimpArgs false
open Go.RowKit
attribute [local go_sem ↓] Go.wp_at_zero Go.wp_at_succ

set_option maxRecDepth 100000 in
set_option maxHeartbeats 1000000 in
theorem rksum_any (l : List UInt8) (hl : l.length ≤ 3000) (w : World) :
    Calls Try.prog 25 #[.string (strB l)] w fun e w' => e = .returned (.string (strB (hashL l))) ∧ Below w.heap.size w w' := by
  have HL := Lib.hid hl
  obtain ⟨i0, hi, hz0, hz1, hz2⟩ := info_parts (show (Try.prog.info? 5).map (fun i => (i.zero, i.size, i.bytes)) = some (some (.int .u8 0), 1, 1) by kernel_rfl)
  have I0 := Lib.hid hi
  clear hl hi hz0 hz1 hz2
  go_enter Try.func25, Try.ntmps25
  go_wp2_with fail
  refine (rsum_any l HL.out _).mono ?_
  obtain ⟨B, hB⟩ : ∃ B, B = hashL l := ⟨_, rfl⟩
  rw [← hB]
  have BE := Lib.hid hB
  have BL := Lib.hid (show B.length = 32 by rw [hB, hashL_length])
  have ZB := Lib.hid (show (Try.prog.info? 24).map (·.size) = some (W8 B).size by rw [W8_size, BL.out]; kernel_rfl)
  rintro e w1 ⟨rfl, hb1⟩
  have S := Lib.hid hb1
  clear hb1 hB
  go_upto_region 2 with (refine wpList_store_new rfl rfl 24 (.tmp 3) (.tmp 5) rfl (W8 B) rfl rfl ZB.out ?c1 (W8_one _) ?_)
  case c1 => rw [W8_size, BL.out]; rfl
  obtain ⟨M, hM⟩ : ∃ M, M = w1.heap.size := ⟨_, rfl⟩
  obtain ⟨w2, hw2⟩ : ∃ w2, w2 = w1.alloc (.cells (W8 B) 24) := ⟨_, rfl⟩
  have R2 := Lib.hid (show RdB w2 (some ⟨M, 0, none⟩) B from RdB.row (t := 24) (fr := (0, 0)) (by rw [hw2]; exact ha_new _ _ _ hM))
  have S := Lib.hid (show Below w.heap.size w w2 by rw [hw2]; exact S.out.alloc S.out.size _)
  rw [← hw2, ← hM]
  clear hw2 hM
  go_wp2_with (first
    | (refine wpList_val rfl (run_arr_all 24 (.tmp 3) rfl 32 5 Try.underlying24 I0.out M rfl _) ?_)
    | (refine wpList_val rfl (run_str 22 9 (.tmp 6) rfl Try.underlying22 Try.underlying5 Try.underlying9 R2.out 32 32 BL.out rfl) ?_))
  go_ret
  exact ⟨by rw [BE.out]; rfl, S.out⟩
theorem xorL_take (x : UInt8) (l : List UInt8) (t : Nat) (h : t < l.length) : xorL x (l.take (t + 1)) = xorL x (l.take t) ++ [l.getD t 0 ^^^ x] := by
  rw [List.take_add_one, List.getElem?_eq_getElem h, xorL, List.map_append]
  have e : l.getD t 0 = l[t] := by simp [List.getD_eq_getElem?_getD, h]
  rw [e]
  rfl
set_option maxRecDepth 100000 in
set_option maxHeartbeats 2000000 in
theorem rkMac_any (key s : List UInt8) (n : Nat) (hn : key.length = n) (hk : n ≤ 3000) (hs : s.length ≤ 2900) (w : World) :
    Calls Try.prog 10 #[.string (strB key), .string (strB s)] w fun e w' => e = .returned (.string (strB (macL key s))) ∧ Below w.heap.size w w' := by
  have SZ := strB_size key
  rw [hn] at SZ
  have HN := Lib.hid hn
  have HK := Lib.hid hk
  have HS := Lib.hid hs
  clear hn hs
  obtain ⟨k, hkk⟩ : ∃ k, k = keyK key := ⟨_, rfl⟩
  have KE := Lib.hid hkk
  have KL := Lib.hid (show k.length ≤ 64 by rw [hkk]; exact keyK_le _)
  clear hkk
  go_enter Try.func10, Try.ntmps10
  go_upto_if 10 with fail
  clear SZ
  go_cut [0] (fun u wx => u = .string (strB k) ∧ Below w.heap.size w wx)
  case first =>
    by_cases h64 : 64 < n
    · have hD : decide ((64 : Int) < (n : Int)) = true := by simp; omega
      have KH := Lib.hid (show k = hashL key by rw [KE.out, keyK, if_pos (by rw [HN.out]; exact h64)])
      go_wp2_with fail
      refine (rksum_any key (by rw [HN.out]; exact HK.out) _).mono ?_
      rw [← KH.out]
      rintro e w2 ⟨rfl, hb2⟩
      have B2 := Lib.hid hb2
      clear hb2
      go_wp2_with fail
      go_meet
      exact ⟨rfl, B2.out⟩
    · have hD : decide ((64 : Int) < (n : Int)) = false := by simp; omega
      go_wp2_with fail
      go_meet
      have e : k = key := by rw [KE.out, keyK, if_neg (by rw [HN.out]; exact h64)]
      exact ⟨by rw [e], Below.refl _ _⟩
  case rest =>
  obtain ⟨rfl, hb⟩ := hcut
  have S := Lib.hid hb
  clear hb
  go_wp2_with fail
  go_loopw [0] (fun u wr => ∃ j : Nat, k.length + j ≤ 64 ∧ u = .string (strB (k ++ List.replicate j 0)) ∧ wr = wc) (fun u _ => 64 - sizeOfStr u)
  case atStart => exact ⟨0, KL.out, by simp, rfl⟩
  case round =>
    obtain ⟨j, hj, rfl, rfl⟩ := hrel
    obtain ⟨q, hq⟩ : ∃ q, q = k ++ List.replicate j 0 := ⟨_, rfl⟩
    obtain ⟨m, hm⟩ : ∃ m, m = q.length := ⟨_, rfl⟩
    have SS := strB_size q
    rw [← hm] at SS
    rw [← hq]
    have ME := Lib.hid hm
    have QE := Lib.hid hq
    have MJ := Lib.hid (show m = k.length + j by rw [hm, hq]; simp)
    have M64 := Lib.hid (show m ≤ 64 by rw [hm, hq]; simp; omega)
    clear hq hm hj
    by_cases hlt : m < 64
    · have hD : decide ((m : Int) < 64) = true := by simp; omega
      go_upto_region 4 with fail
      clear SS
      go_wp2_with (refine wpList_val rfl (run_cat 9 _ (.tmp 16) (.const (.string { data := #[0] })) rfl q [0] rfl rfl (by have := M64.out; have := ME.out; simp; omega) _) ?_)
      go_roundw
      case rel => exact ⟨j + 1, by have := MJ.out; omega, by rw [QE.out, List.append_assoc, List.replicate_succ'], trivial⟩
      case measure => simp [sizeOfStr, strB_size]; have := ME.out; omega
    · have hD : decide ((m : Int) < 64) = false := by simp; omega
      have QP := Lib.hid (show q = padK k by rw [QE.out, padK]; congr 2; have := MJ.out; have := M64.out; omega)
      obtain ⟨p, hp⟩ : ∃ p, p = padK k := ⟨_, rfl⟩
      rw [← hp] at QP
      have PE := Lib.hid hp
      have PL := Lib.hid (show p.length = 64 by rw [hp]; exact padK_length _ KL.out)
      clear hp
      go_wp2_with fail
      clear SS hD
      rw [QP.out]
      go_loopw [5, 6, 7] (fun u v i wr => ∃ t : Nat, t ≤ 64 ∧ u = .string (strB (xorL 0x36 (p.take t))) ∧ v = .string (strB (xorL 0x5c (p.take t))) ∧ i = .int .i64 (t : Int) ∧ Below w.heap.size w wr) (fun _ _ i _ => 64 - (intOf i).toNat)
      case atStart => exact ⟨0, by omega, rfl, rfl, rfl, S.out⟩
      case round =>
        obtain ⟨t, ht, rfl, rfl, rfl, hb⟩ := hrel
        have T := Lib.hid ht
        have S := Lib.hid hb
        have X1 := Lib.hid (show (xorL 0x36 (p.take t)).length ≤ 64 by rw [xorL_length, List.length_take]; omega)
        have X2 := Lib.hid (show (xorL 0x5c (p.take t)).length ≤ 64 by rw [xorL_length, List.length_take]; omega)
        obtain ⟨x1, hx1⟩ : ∃ x, x = xorL 0x36 (p.take t) := ⟨_, rfl⟩
        obtain ⟨x2, hx2⟩ : ∃ x, x = xorL 0x5c (p.take t) := ⟨_, rfl⟩
        rw [← hx1] at X1 ⊢
        rw [← hx2] at X2 ⊢
        have E1 := Lib.hid hx1
        have E2 := Lib.hid hx2
        clear hx1 hx2 hb ht
        by_cases hlt : t < 64
        · have hD : decide ((t : Int) < 64) = true := by simp; omega
          have T2 := Lib.hid (show t < p.length by rw [PL.out]; exact hlt)
          obtain ⟨y, hy⟩ : ∃ y, y = p.getD t 0 := ⟨_, rfl⟩
          have Y := Lib.hid hy
          obtain ⟨z1, hz1, e1⟩ : ∃ z : UInt8, Hid (z = y ^^^ 0x36) ∧ bits .xor .u8 (y.toNat : Int) 54 = (z.toNat : Int) := ⟨_, rfl, u8_xor' y 0x36⟩
          obtain ⟨z2, hz2, e2⟩ : ∃ z : UInt8, Hid (z = y ^^^ 0x5c) ∧ bits .xor .u8 (y.toNat : Int) 92 = (z.toNat : Int) := ⟨_, rfl, u8_xor' y 0x5c⟩
          clear hy
          have HB := Lib.hid (S.out.alloc S.out.size (.cells #[.int .u8 (z1.toNat : Int)] 5))
          have HB2 := Lib.hid (HB.out.alloc HB.out.size (.cells #[.int .u8 (z2.toNat : Int)] 5))
          go_wp2_with (first
            | (refine wpList_val rfl (run_idx_str 9 (.tmp 23) (.tmp 24) rfl Try.underlying9 p t y Y.out T2.out .i64 _ rfl rfl rfl _) ?_)
            | (refine wpList_val rfl (run_idx_str 9 (.tmp 31) (.tmp 32) rfl Try.underlying9 p t y Y.out T2.out .i64 _ rfl rfl rfl _) ?_)
            | (refine wpList_val rfl (run_str 22 9 (.tmp 27) rfl Try.underlying22 Try.underlying5 Try.underlying9 (RdB.one (y := z1) (row_cell (fr := (0, 0)) (ha_new _ _ _ rfl) 0 rfl)) 1 1 rfl rfl) ?_)
            | (refine wpList_val rfl (run_str 22 9 (.tmp 35) rfl Try.underlying22 Try.underlying5 Try.underlying9 (RdB.one (y := z2) (row_cell (fr := (0, 0)) (ha_new _ _ _ (by simp)) 0 rfl)) 1 1 rfl rfl) ?_)
            | (refine wpList_val rfl (run_cat 9 _ (.tmp 22) (.tmp 28) rfl x1 [z1] rfl rfl (by have := X1.out; simp; omega) _) ?_)
            | (refine wpList_val rfl (run_cat 9 _ (.tmp 30) (.tmp 36) rfl x2 [z2] rfl rfl (by have := X2.out; simp; omega) _) ?_))
          go_roundw
          case rel => exact ⟨t + 1, by have := T2.out; have := PL.out; omega, by rw [E1.out, hz1.out, Y.out, xorL_take _ _ _ T2.out], by rw [E2.out, hz2.out, Y.out, xorL_take _ _ _ T2.out], by go_num, HB2.out⟩
          case measure => have := T2.out; have := PL.out; simp [intOf]; omega
        · have hD : decide ((t : Int) < 64) = false := by simp; omega
          have TE := Lib.hid (show t = p.length by have := T.out; rw [PL.out]; omega)
          have F1 := Lib.hid (show x1 = xorL 0x36 (padK (keyK key)) by rw [E1.out, TE.out, List.take_length, PE.out, KE.out])
          have F2 := Lib.hid (show x2 = xorL 0x5c (padK (keyK key)) by rw [E2.out, TE.out, List.take_length, PE.out, KE.out])
          go_wp2_with (refine wpList_val rfl (run_cat 9 _ (.tmp 39) (.tmp 40) rfl x1 s rfl rfl (by have := X1.out; have := HS.out; omega) _) ?_)
          refine (rksum_any (x1 ++ s) (by have := X1.out; have := HS.out; rw [List.length_append]; omega) _).mono ?_
          obtain ⟨h1, hh1⟩ : ∃ h, h = hashL (x1 ++ s) := ⟨_, rfl⟩
          rw [← hh1]
          have H1 := Lib.hid hh1
          have L1 := Lib.hid (show h1.length = 32 by rw [hh1, hashL_length])
          rintro e w2 ⟨rfl, hb2⟩
          have S := Lib.hid (S.out.trans (hb2.mono S.out.size))
          clear hh1 hb2
          go_wp2_with (refine wpList_val rfl (run_cat 9 _ (.tmp 38) (.tmp 42) rfl x2 h1 rfl rfl (by have := X2.out; have := L1.out; omega) _) ?_)
          refine (rksum_any (x2 ++ h1) (by have := X2.out; have := L1.out; rw [List.length_append]; omega) _).mono ?_
          rintro e w3 ⟨rfl, hb3⟩
          have S := Lib.hid (S.out.trans (hb3.mono S.out.size))
          clear hb3
          go_wp2_with fail
          go_ret
          exact ⟨by rw [macL, ← F1.out, ← F2.out, H1.out]; rfl, S.out⟩
end Go.Proofs.Ytimdlnamicgdnaa
