/- Bytes in limbs, a clamped key: walked. No condition but those each theorem states. -/
import Derived.Test.YtdheopihcohciaaPolyS
namespace Go.Proofs.Ytdheopihcohciaa
set_option linter.unusedVariables false
set_option linter.unusedSimpArgs false
open Go.RowKit
attribute [local go_sem ↓] Go.wp_at_zero Go.wp_at_succ

theorem or64 (x y : Nat) (hx : x < 18446744073709551616) (hy : y < 18446744073709551616) : bits .or .u64 (x : Int) (y : Int) = ((x ||| y : Nat) : Int) := u64_or_nat x y hx hy
set_option maxRecDepth 100000 in
set_option maxHeartbeats 2000000 in
theorem nload_any (A : Option Addr) (n c : Nat) (l : List UInt8) (hn : l.length = n) (h17 : n ≤ 17) (h4 : n = 17 → (l.getD 16 0).toNat < 4) (w : World) (hR : RdB w A l) :
    Calls Try.prog 30 #[.slice A n c] w fun e w' => e = .returned (.agg (WN (limbsN (leNat l)))) ∧ Below w.heap.size w w' := by
  have HN := Lib.hid hn
  have H4 := Lib.hid h4
  have HR := Lib.hid hR
  have Z5' := Lib.hid zero5
  clear hn h4 hR
  go_enter Try.func30, Try.ntmps30
  go_wp2_with fail
  rw [← Z5'.out]
  obtain ⟨w1, hw1⟩ : ∃ w1, w1 = (w.alloc (.cells (WN Z5) 60)).alloc (.cells (WN Z5) 60) := ⟨_, rfl⟩
  have S1 := Lib.hid (show NW w w.heap.size Z5 w1 ∧ NW w (w.heap.size + 1) (limbsN (leNat (l.take 0))) w1 by
    have hb : Below w.heap.size w w1 := by rw [hw1]; exact ((Below.refl _ _).alloc (Nat.le_refl _) _).alloc (by simp) _
    rw [hw1] at hb ⊢
    rw [show limbsN (leNat (l.take 0)) = Z5 by rw [List.take_zero]; rfl]
    exact ⟨⟨ha_old _ _ _ (by simp) (ha_new _ _ _ rfl), by omega, hb⟩, ⟨ha_new _ _ _ (by simp), by omega, hb⟩⟩)
  rw [← hw1]
  clear hw1
  go_loopw [12] (fun u wr => ∃ i : Nat, i ≤ n ∧ u = .int .i64 (i : Int) ∧ NW w w.heap.size Z5 wr ∧ NW w (w.heap.size + 1) (limbsN (leNat (l.take i))) wr) (fun u _ => n - (intOf u).toNat)
  case atStart => exact ⟨0, by omega, rfl, S1.out⟩
  case round =>
    obtain ⟨i, hi, rfl, hs⟩ := hrel
    have I := Lib.hid hi
    have S2 := Lib.hid hs
    clear hi hs S1
    by_cases hlt : i < n
    · have hD : decide ((i : Int) < (n : Int)) = true := by simp; omega
      obtain ⟨X, hX⟩ : ∃ X, X = leNat (l.take i) := ⟨_, rfl⟩
      rw [← hX] at S2
      have XX := Lib.hid hX
      have XB := Lib.hid (show X < 256 ^ i by rw [hX]; have := leNat_lt (l.take i); rw [List.length_take, HN.out, Nat.min_eq_left (by omega)] at this; exact this)
      obtain ⟨b, o, rfl, y, hy, hcell⟩ := (HR.out.keep S2.out.1.bel).get i (by rw [HN.out]; exact hlt)
      obtain ⟨k, hk⟩ : ∃ k, k = 8 * i / 26 := ⟨_, rfl⟩
      obtain ⟨s, hs⟩ : ∃ s, s = 8 * i % 26 := ⟨_, rfl⟩
      have i17 : i < 17 := by omega
      have b1 : (i : Int) ≤ 16 := by omega
      have e1 : 8 * (i : Int) / 26 = (k : Int) := by omega
      have e2 : 8 * (i : Int) % 26 = (s : Int) := by omega
      have k4 : k < 5 := by omega
      have s26 : s < 26 := by omega
      have K := Lib.hid hk
      have S := Lib.hid hs
      obtain ⟨V, hV⟩ : ∃ V, V = y.toNat * 2 ^ s := ⟨_, rfl⟩
      have yb := y.toNat_lt
      have sp : 2 ^ s ≤ 2 ^ 25 := Nat.pow_le_pow_right (by omega) (by omega)
      have vb : V ≤ 8589934592 := by rw [hV]; have := Nat.mul_le_mul (show y.toNat ≤ 256 by omega) sp; omega
      have e3 : IntKind.u64.wrap (y.toNat : Int) = (y.toNat : Int) := wrap_u64 _ (by omega)
      have e4 : IntKind.u64.wrap ((y.toNat : Int) * 2 ^ s) = (V : Int) := by
        have : ((y.toNat : Int) * 2 ^ s) = (V : Int) := by rw [hV, Int.natCast_mul, Int.natCast_pow]; rfl
        rw [this]; exact wrap_u64 _ (by omega)
      have VV := Lib.hid hV
      have E1 := Lib.hid e1
      have E2 := Lib.hid e2
      clear hX hk hs hV sp yb
      go_upto_region 8 with fail
      rw [E1.out, E2.out]
      clear hcell e1 e2 e3 e4
      obtain ⟨q, hq⟩ : ∃ q, q = limbsN X := ⟨_, rfl⟩
      rw [← hq] at S2
      have QL := Lib.hid (show q.length = 5 by rw [hq]; rfl)
      have QB := Lib.hid (show Bd 67108863 q by rw [hq]; exact limbsN_bd X)
      obtain ⟨x, hx⟩ : ∃ x, x = q.getD k 0 := ⟨_, rfl⟩
      have xb : x ≤ 67108863 := by rw [hx]; exact QB.out k
      have a1 := row_cell S2.out.2.b k (WN_get _ k (by rw [QL.out]; omega))
      have f1 := row_free S2.out.2.b k
      rw [← hx] at a1
      obtain ⟨P, hP⟩ : ∃ P, P = x ||| V % 67108864 := ⟨_, rfl⟩
      have e5 : bits .or .u64 (x : Int) ((V : Int) % 67108864) = (P : Int) := by
        have h := or64 x (V % 67108864) (by omega) (by omega)
        rw [← hP] at h
        rw [← h]
        rfl
      have e6 := mask26 V (by omega)
      have b2 : (k : Int) < 5 := by omega
      have Q := Lib.hid hq
      have XQ := Lib.hid hx
      have PP := Lib.hid hP
      clear hq hx hP
      go_upto_region 9 with fail
      clear a1 f1 e5 e6
      obtain ⟨p, hp⟩ : ∃ p, p = q.set k P := ⟨_, rfl⟩
      obtain ⟨w2, hw2⟩ : ∃ w2, w2 = wr.setCell ⟨w.heap.size + 1, k, none⟩ (.int .u64 (P : Int)) := ⟨_, rfl⟩
      have S3 := Lib.hid (show NW w w.heap.size Z5 w2 ∧ NW w (w.heap.size + 1) p w2 by rw [hw2, hp]; exact ⟨S2.out.1.other (by omega) (by omega) _ _, S2.out.2.set _ _⟩)
      rw [← hw2]
      have PL := Lib.hid (show p.length = 5 by rw [hp, List.length_set, QL.out])
      have PS := Lib.hid hp
      have LS := Lib.hid (show limbsN (leNat (l.take (i + 1))) = if k + 1 < 5 then p.set (k + 1) (p.getD (k + 1) 0 ||| V / 67108864) else p by
        have h := load_step X y.toNat i i17 XB.out y.toNat_lt (fun e => by have := H4.out (by omega); rw [e] at hy; rw [hy.out]; exact this)
        rw [leNat_snoc l i (by rw [HN.out]; exact hlt), ← XX.out, ← hy.out, ← h, loadStep, ← K.out, ← S.out, ← Q.out, ← VV.out, ← XQ.out, ← PP.out, ← PS.out])
      clear hw2 hp
      by_cases h5 : k + 1 < 5
      · have hE : decide ((k : Int) + 1 < 5) = true := by simp; omega
        obtain ⟨z, hz⟩ : ∃ z, z = p.getD (k + 1) 0 := ⟨_, rfl⟩
        have zb : z ≤ 67108863 := by rw [hz, PS.out, getD_set, if_neg (by omega)]; exact QB.out _
        have a2 := row_cell S3.out.2.b (k + 1) (WN_get _ (k + 1) (by rw [PL.out]; exact h5))
        have f2 := row_free S3.out.2.b (k + 1)
        rw [← hz] at a2
        obtain ⟨R, hRr⟩ : ∃ R, R = z ||| V / 67108864 := ⟨_, rfl⟩
        have e5 : bits .or .u64 (z : Int) ((V : Int) / 67108864) = (R : Int) := by
          have h := or64 z (V / 67108864) (by omega) (by omega)
          rw [← hRr] at h
          rw [← h]
          rfl
        have b3 : (k : Int) + 1 < 5 := by omega
        have e7 : ((k : Int) + 1).toNat = k + 1 := by omega
        have ZZ := Lib.hid hz
        have RR := Lib.hid hRr
        clear hz hRr
        go_wp2_with fail
        go_roundw
        case rel =>
          refine ⟨i + 1, by omega, by go_num, ?_⟩
          rw [LS.out, if_pos h5, ← ZZ.out, ← RR.out]
          exact ⟨S3.out.1.other (by omega) (by omega) _ _, S3.out.2.set _ _⟩
        case measure => simp [intOf]; omega
      · have hE : decide ((k : Int) + 1 < 5) = false := by simp; omega
        go_wp2_with fail
        go_roundw
        case rel =>
          refine ⟨i + 1, by omega, by go_num, ?_⟩
          rw [LS.out, if_neg h5]
          exact S3.out
        case measure => simp [intOf]; omega
    · have hi : Hid (i = n) := show i = n by have := I.out; omega
      have hD : decide ((i : Int) < (n : Int)) = false := by simp; omega
      obtain ⟨L, hL⟩ : ∃ L, L = limbsN (leNat (l.take i)) := ⟨_, rfl⟩
      rw [← hL] at S2
      have LL := Lib.hid (show L.length = 5 by rw [hL]; rfl)
      have HLL := Lib.hid (show L = limbsN (leNat l) by rw [hL, hi.out, ← HN.out, List.take_length])
      clear hL
      go_wp2_with (first
        | (refine wpList_load_row rfl 60 (.tmp 3) rfl (w.heap.size + 1) rfl 60 (WN L) (0, 0) _ S2.out.2.b Try.underlying60 rfl (info_num LL.out) ?_)
        | (refine wpList_store_whole rfl rfl 60 (.tmp 2) (.tmp 46) rfl w.heap.size (WN L) rfl rfl 60 _ S2.out.1.b (info_num LL.out) (by rw [WN_size, WN_size, LL.out]; rfl) (WN_one _) ?_; intro w8 hz8 hg8 _))
      exact bodyPost_ret (results_cell_row rfl _ _ w.heap.size 60 (WN L) (0, 0) _ rfl hz8 Try.underlying60 rfl (info_num LL.out)) rfl ⟨by rw [HLL.out], ret_number S2.out.1 hg8⟩
end Go.Proofs.Ytdheopihcohciaa
