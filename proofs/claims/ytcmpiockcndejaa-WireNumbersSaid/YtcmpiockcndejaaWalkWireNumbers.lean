/- The law WireNumbers, walked. -/
import Derived.Test.YtcmpiockcndejaaWireLaws
import Derived.Test.YtcmpiockcndejaaWireOne
import Derived.Test.YtcmpiockcndejaaMasks
namespace Go.Proofs.Ytcmpiockcndejaa
set_option linter.unusedVariables false
set_option linter.unusedSimpArgs false
open Go.RowKit
attribute [local go_sem ↓] Go.wp_at_zero Go.wp_at_succ

set_option maxRecDepth 100000 in
set_option maxHeartbeats 4000000 in
theorem wireNumbers_walk (w : World) (x : UInt64) (n : Int) (hn : -9223372036854775808 ≤ n ∧ n ≤ 9223372036854775807) (A2 : Option Addr) (c2 : Nat) (l2 : List UInt8) (R2 : RdB w A2 l2) (n2 : l2.length ≤ c2) (m2 : c2 ≤ 9223372036854775807) (b2 : ∀ a, A2 = some a → a.block < w.heap.size) (z2 : l2.length ≤ 140737488351232) :
    Calls Try.prog 3 #[.int .u64 (x.toNat : Int), .int .i64 n, .slice A2 l2.length c2] w fun e w' => e = .returned (.bool true) ∧ Below w.heap.size w w' := by
  obtain ⟨i0, hi, hz0, hz1, hz2⟩ := info_parts (show (Try.prog.info? 5).map (fun i => (i.zero, i.size, i.bytes)) = some (some (.int .u8 0), 1, 1) by kernel_rfl)
  have I0 := Lib.hid hi
  have I2 := Lib.hid hz1
  have TB := Lib.hid (show ByteT Try.prog from ⟨Try.underlying23, by kernel_rfl⟩)
  obtain ⟨m, hm, e1⟩ := mask_i64 n 7 (by omega)
  obtain ⟨N, hN⟩ : ∃ N, N = m + 1 := ⟨_, rfl⟩
  have e2 : 1 + (m : Int) = (N : Int) := by omega
  have N8 := Lib.hid (show 0 < N ∧ N ≤ 8 by omega)
  have nb : (N : Int) ≤ 8 := by omega
  have n0 : (0 : Int) < (N : Int) := by omega
  obtain ⟨k, hk⟩ : ∃ k, k = l2.length := ⟨_, rfl⟩
  rw [← hk] at n2 z2 ⊢
  have KL := Lib.hid hk.symm
  have H2 := Lib.hid R2
  have kb : (k : Int) ≤ 140737488351232 := by omega
  clear hi hz0 hz1 hz2 hN hk R2 n2 m2 b2 hn
  have e1 : bits .and .i64 n 7 = (m : Int) := e1
  go_enter Try.func3, Try.ntmps3
  by_cases h1 : 1000 < k
  · have hD : decide ((1000 : Int) < (k : Int)) = true := by simp; omega
    go_wp2_with fail
    go_ret
    exact ⟨rfl, Below.refl _ _⟩
  · have hD : decide ((1000 : Int) < (k : Int)) = false := by simp; omega
    have K1 := Lib.hid (show k ≤ 1000 by omega)
    go_wp2_with fail
    refine (put_any w none 0 0 [] x (N : Int) (by omega) rfl (RdB.nil _ _) (by omega)).mono ?_
    obtain ⟨b, hb⟩ : ∃ b, b = beL N x.toNat := ⟨_, rfl⟩
    rw [show [] ++ beL (putN (N : Int)) x.toNat = b by rw [hb, List.nil_append]; congr 1; have := N8.out; unfold putN; omega]
    have BE := Lib.hid hb
    have BL := Lib.hid (show b.length = N by rw [hb, beL_length])
    clear hb
    rintro e w1 ⟨v, rfl, ho, hb⟩
    obtain ⟨Ab, cb, rfl, hr, hl, _, _⟩ := ho.read
    rw [BL.out] at hl ⊢
    have RB := Lib.hid hr
    have CB := Lib.hid hl
    have S := Lib.hid hb
    have W1 := Lib.hid (Below.refl w1.heap.size w1)
    clear ho hb hr hl
    go_wp2_with (refine app_list rfl TB.out (.tmp 25) (.tmp 26) rfl w1.heap.size _ [] b Ab N cb rfl rfl BL.out (World.ownsRow_made w1 #[] 0 (Nat.le_refl _) (Nat.zero_le _) rfl) (RB.out.keep (below_new _ _)) ?s1 ?s2 ?_)
    case s1 => simp
    case s2 => have := N8.out; simp; omega
    have W1 := Lib.hid (show Below w1.heap.size w1 (w1.alloc (.cells #[] 5)) from below_new _ _)
    have O := Lib.hid (show OwnB (w1.alloc (.cells #[] 5)) w1.heap.size (.slice (some ⟨w1.heap.size, 0, none⟩) 0 0) [] from World.ownsRow_made w1 #[] 0 (Nat.le_refl _) (Nat.zero_le _) rfl)
    intro v1 w3 ho hg _
    have W1 := Lib.hid (below_own W1.out O.out hg)
    have O := Lib.hid ho
    clear ho hg
    go_wp2_with (refine app_list rfl TB.out (.tmp 27) (.tmp 28) rfl w1.heap.size _ b l2 A2 k c2 rfl rfl KL.out O.out ((H2.out.keep S.out).keep W1.out) W1.out.size (by have := N8.out; have := BL.out; have := K1.out; omega) ?_)
    intro v2 w4 ho hg _
    have W1 := Lib.hid (below_own W1.out O.out hg)
    obtain ⟨Am, cm, rfl, hr, hl, _, _⟩ := ho.read
    have ML := Lib.hid (show (b ++ l2).length = N + k by rw [List.length_append, BL.out, KL.out])
    rw [ML.out] at hl ⊢
    have RM := Lib.hid hr
    clear ho hg hr hl O
    go_wp2_with fail
    refine (rnew_any w4 Am (N + k) cm (b ++ l2) ML.out RM.out (by have := N8.out; have := K1.out; omega)).mono ?_
    rintro e w5 ⟨g, D, rfl, hg, hD', hr, hb⟩
    have R := Lib.hid hr
    have GW := Lib.hid (show w1.heap.size ≤ g from Nat.le_trans W1.out.size hg)
    have W1 := Lib.hid (W1.out.trans (hb.mono W1.out.size))
    clear hg hD' hr hb RM
    go_upto_if 33 with fail
    go_cut [9] (fun u wx => u = .int .u64 ((x.toNat % 2 ^ (8 * N) : Nat) : Int) ∧ wx = w5)
    case first =>
      by_cases h8 : N < 8
      · have hE : decide ((N : Int) < 8) = true := by simp; omega
        have e3 : 8 * (N : Int) < 64 := by omega
        have e4 : (8 * (N : Int)).toNat = 8 * N := by omega
        obtain ⟨P, hP⟩ : ∃ P : Nat, P = 2 ^ (8 * N) := ⟨_, rfl⟩
        have hP2 : P ≤ 2 ^ 56 := by rw [hP]; exact Nat.pow_le_pow_right (by omega) (by omega)
        have hP0 : 0 < P := by rw [hP]; exact Nat.pow_pos (by omega)
        have e5 : IntKind.u64.wrap (2 ^ (8 * N)) = (P : Int) := by
          have : (2 : Int) ^ (8 * N) = (P : Int) := by rw [hP, Int.natCast_pow]; rfl
          rw [this, IntKind.wrap_u64]; omega
        have p0 : (0 : Int) < (P : Int) := by omega
        have PE := Lib.hid hP
        clear hP hP2 hP0
        go_wp2_with fail
        go_meet
        exact ⟨by rw [← PE.out]; rfl, rfl⟩
      · have hE : decide ((N : Int) < 8) = false := by simp; omega
        go_wp2_with fail
        go_meet
        exact ⟨by rw [Nat.mod_eq_of_lt (by rw [show N = 8 by have := N8.out; omega]; exact x.toNat_lt)], rfl⟩
    case rest =>
    obtain ⟨rfl, hwx⟩ := hcut
    rw [hwx]
    clear hwx wc
    obtain ⟨X, hX⟩ : ∃ X, X = x.toNat % 2 ^ (8 * N) := ⟨_, rfl⟩
    rw [← hX]
    have NE := Lib.hid (show numS ⟨b ++ l2, 0⟩ (N : Int) = (⟨l2, 0⟩, X) by rw [BE.out, hX]; exact numS_beL _ _ N8.out.1 N8.out.2 _)
    clear hX
    go_wp2_with fail
    refine (num_any g D ⟨b ++ l2, 0⟩ (N : Int) (by omega) w5 R.out).mono ?_
    rw [NE.out]
    rintro e w6 ⟨rfl, hr, hg⟩
    have R := Lib.hid hr
    have W1 := Lib.hid (W1.out.trans (grown_below hg W1.out.size (by rintro q ⟨⟩; exact GW.out)))
    clear hr hg
    have e7 : (N : Int) - 1 = (m : Int) := by omega
    have NM := Lib.hid (show N = m + 1 by omega)
    have hcut := cut_to (P := Try.prog) 23 5 Try.underlying23 I0.out I2.out Ab N cb m (by have := CB.out; omega)
    clear e1 e2
    go_wp2_with fail
    clear hcut
    refine (rnew_any w6 Ab m cb (b.take m) (by rw [List.length_take, BL.out]; have := NM.out; omega) ((RB.out.keep W1.out).take m) (by omega)).mono ?_
    rintro e w7 ⟨g2, D2, rfl, hg, hD', hr, hb⟩
    have R2 := Lib.hid hr
    have GW2 := Lib.hid (show w1.heap.size ≤ g2 from Nat.le_trans W1.out.size hg)
    have R := Lib.hid (R.out.keep hb)
    have W1 := Lib.hid (W1.out.trans (hb.mono W1.out.size))
    have NE2 := Lib.hid (numS_short (b.take m) N N8.out.1 N8.out.2 (by rw [List.length_take, BL.out]; have := NM.out; omega))
    clear hg hD' hr hb
    go_wp2_with fail
    refine (left_any g D ⟨l2, 0⟩ w7 R.out).mono ?_
    rw [show ((⟨l2, 0⟩ : RSt).l.length) = k from KL.out]
    rintro e w8 ⟨rfl, hw⟩
    rw [hw]
    clear hw w8
    go_wp2_with fail
    refine (num_any g2 D2 ⟨b.take m, 0⟩ (N : Int) (by omega) w7 R2.out).mono ?_
    rw [NE2.out]
    rintro e w8 ⟨rfl, hr, hg⟩
    have R2 := Lib.hid hr
    have W1 := Lib.hid (W1.out.trans (grown_below hg W1.out.size (by rintro q ⟨⟩; exact GW2.out)))
    clear hr hg
    go_wp2_with fail
    refine (wrong_any g2 D2 ⟨[], 10⟩ w8 R2.out).mono ?_
    rintro e w9 ⟨rfl, hw⟩
    rw [hw]
    clear hw w9
    go_wp2_with fail
    refine (wireOne_true _).mono ?_
    rintro e w9 ⟨rfl, hb⟩
    have W1 := Lib.hid (W1.out.trans (hb.mono W1.out.size))
    clear hb
    go_wp2_with fail
    go_ret
    exact ⟨rfl, S.out.trans (W1.out.mono S.out.size)⟩
end Go.Proofs.Ytcmpiockcndejaa
