/- The document's byte of a source. No condition but those each theorem states. -/
import Derived.Test.YtphpcegifdiofaaDrawT
import Derived.Test.YtphpcegifdiofaaRefShaS
import Derived.Test.YtphpcegifdiofaaRefPut
namespace Go.Proofs.Ytphpcegifdiofaa
set_option linter.unusedVariables false
set_option linter.unusedSimpArgs false
open Go.RowKit
attribute [local go_sem ↓] Go.wp_at_zero Go.wp_at_succ

theorem putN_8 : putN 8 = 8 := rfl
set_option maxRecDepth 100000 in
set_option maxHeartbeats 4000000 in
theorem rbyte_any (F : List UInt8) (n : Nat) (hn : F.length = n) (hb : n ≤ 2900) (i : Nat) (hi : i ≤ 1000000) (w : World) :
    Calls Try.prog 8 #[.string (strB F), .int .i64 (i : Int)] w fun e w' => e = .returned (.int .u8 ((byteS F i).toNat : Int)) ∧ Below w.heap.size w w' := by
  have SZ := strB_size F
  rw [hn] at SZ
  have HN := Lib.hid hn
  have HB := Lib.hid hb
  have ib : (i : Int) ≤ 1000000 := by omega
  have nb : (n : Int) ≤ 2900 := by omega
  obtain ⟨y, hy⟩ : ∃ y, y = byteS F i := ⟨_, rfl⟩
  rw [← hy]
  have YE := Lib.hid hy
  clear hy
  by_cases hlt : i < n
  · have hD : decide ((i : Int) < (n : Int)) = true := by simp; omega
    have Y2 := Lib.hid (show y = F.getD i 0 by rw [YE.out, byteS, if_pos (by rw [HN.out]; exact hlt)])
    clear hn hb hi
    go_enter Try.func8, Try.ntmps8
    go_upto_region 2 with fail
    clear SZ
    go_wp2_with (refine wpList_val rfl (run_idx_str 9 (.tmp 11) (.tmp 12) rfl Try.underlying9 F i y Y2.out (by rw [HN.out]; exact hlt) .i64 _ rfl rfl rfl _) ?_)
    go_ret
    exact ⟨rfl, Below.refl _ _⟩
  · have hD : decide ((i : Int) < (n : Int)) = false := by simp; omega
    obtain ⟨d, hd⟩ : ∃ d, i = n + d := ⟨i - n, by omega⟩
    have eD : (i : Int) - (n : Int) = (d : Int) := by omega
    obtain ⟨x, hx⟩ : ∃ x : UInt64, x.toNat = d / 32 := ⟨UInt64.ofNat (d / 32), by simp; omega⟩
    have XN := Lib.hid hx
    obtain ⟨r, hr⟩ : ∃ r, r = d % 32 := ⟨_, rfl⟩
    have R := Lib.hid hr
    have R32 := Lib.hid (show r < 32 by omega)
    have db : (d : Int) ≤ 1000000 := by omega
    have e1 : (d : Int).tdiv 32 = (x.toNat : Int) := by rw [Int.tdiv_eq_ediv_of_nonneg (by omega), hx]; omega
    have e2 : (d : Int).tmod 32 = (r : Int) := by rw [Int.tmod_eq_emod_of_nonneg (by omega)]; omega
    have xb : (x.toNat : Int) ≤ 1000000 := by omega
    have rb : (r : Int) < 32 := by omega
    obtain ⟨S, hS⟩ : ∃ S, S = hashL F := ⟨_, rfl⟩
    obtain ⟨T, hT⟩ : ∃ T, T = hashL (S ++ beL 8 x.toNat) := ⟨_, rfl⟩
    have SE := Lib.hid hS
    have TE := Lib.hid hT
    have SL := Lib.hid (show S.length = 32 by rw [hS, hashL_length])
    have TL := Lib.hid (show T.length = 32 by rw [hT, hashL_length])
    have Y2 := Lib.hid (show T.getD r 0 = y by rw [YE.out, byteS, if_neg (by rw [HN.out]; exact hlt), hT, hS, hx, HN.out, hr, show i - n = d by omega])
    have ZS := Lib.hid (show (Try.prog.info? 29).map (·.size) = some (W8 S).size by rw [W8_size, SL.out]; kernel_rfl)
    have ZT := Lib.hid (show (Try.prog.info? 29).map (·.size) = some (W8 T).size by rw [W8_size, TL.out]; kernel_rfl)
    obtain ⟨i0, hi0, hz0, hz1, hz2⟩ := info_parts (show (Try.prog.info? 5).map (fun i => (i.zero, i.size, i.bytes)) = some (some (.int .u8 0), 1, 1) by kernel_rfl)
    have I0 := Lib.hid hi0
    clear hn hb hi hd hx hr hS hT hi0 hz0 hz1 hz2 hlt
    go_enter Try.func8, Try.ntmps8
    go_upto_region 4 with fail
    clear SZ hD eD
    go_wp2_with fail
    refine (rsum_any F (by rw [HN.out]; have := HB.out; omega) _).mono ?_
    rw [← SE.out]
    rintro e w1 ⟨rfl, hb1⟩
    have B := Lib.hid hb1
    clear hb1
    go_upto_region 5 with (refine wpList_store_new rfl rfl 29 (.tmp 5) (.tmp 19) rfl (W8 S) rfl rfl ZS.out ?c1 (W8_one _) ?_)
    case c1 => rw [W8_size, SL.out]; rfl
    obtain ⟨M, hM⟩ : ∃ M, M = w1.heap.size := ⟨_, rfl⟩
    obtain ⟨w2, hw2⟩ : ∃ w2, w2 = w1.alloc (.cells (W8 S) 29) := ⟨_, rfl⟩
    have R2 := Lib.hid (show RdB w2 (some ⟨M, 0, none⟩) S from RdB.row (t := 29) (fr := (0, 0)) (by rw [hw2]; exact ha_new _ _ _ hM))
    have B := Lib.hid (show Below w.heap.size w w2 by rw [hw2]; exact B.out.alloc B.out.size _)
    rw [← hw2, ← hM]
    clear hw2 hM
    go_wp2_with (first
      | (refine wpList_val rfl (run_arr_all 29 (.tmp 5) rfl 32 5 Try.underlying29 I0.out M rfl _) ?_)
      | (refine wpList_val rfl (run_str 22 9 (.tmp 20) rfl Try.underlying22 Try.underlying5 Try.underlying9 R2.out 32 32 SL.out rfl) ?_))
    refine (rput_any S x 8 (by omega) (by rw [SL.out]; omega) _).mono ?_
    rw [putN_8]
    rintro e w3 ⟨rfl, hb3⟩
    have B := Lib.hid (B.out.trans (hb3.mono B.out.size))
    clear hb3
    go_wp2_with fail
    refine (rsum_any (S ++ beL 8 x.toNat) (by rw [List.length_append, SL.out, beL_length]; omega) _).mono ?_
    rw [← TE.out]
    rintro e w4 ⟨rfl, hb4⟩
    have B := Lib.hid (B.out.trans (hb4.mono B.out.size))
    clear hb4
    go_upto_region 6 with (refine wpList_store_new rfl rfl 29 (.tmp 6) (.tmp 26) rfl (W8 T) rfl rfl ZT.out ?c1 (W8_one _) ?_)
    case c1 => rw [W8_size, TL.out]; rfl
    obtain ⟨M, hM⟩ : ∃ M, M = w4.heap.size := ⟨_, rfl⟩
    obtain ⟨w5, hw5⟩ : ∃ w5, w5 = w4.alloc (.cells (W8 T) 29) := ⟨_, rfl⟩
    have c := row_cell (show w5.heap[M]? = some (.cells (W8 T) 29 (0, 0)) by rw [hw5]; exact ha_new _ _ _ hM) r (W8_get _ r (by rw [TL.out]; exact R32.out))
    rw [Y2.out] at c
    have B := Lib.hid (show Below w.heap.size w w5 by rw [hw5]; exact B.out.alloc B.out.size _)
    rw [← hw5, ← hM]
    clear hw5 hM
    go_wp2_with fail
    go_ret
    exact ⟨rfl, B.out⟩
end Go.Proofs.Ytphpcegifdiofaa
