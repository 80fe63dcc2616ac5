/- The tag of a text: walked. No condition but those each theorem states. -/
import Derived.Test.YtdheopihcohciaaPolyM
import Derived.Test.YtdheopihcohciaaLast
namespace Go.Proofs.Ytdheopihcohciaa
set_option linter.unusedVariables false
set_option linter.unusedSimpArgs false
open Go.RowKit
attribute [local go_sem ↓] Go.wp_at_zero Go.wp_at_succ

theorem min16_ex (r : Nat) (h0 : 0 < r) : ∃ m : Nat, (if (16 : Int) < (r : Int) then (16 : Int) else (r : Int)) = (m : Int) ∧ m ≤ r ∧ m ≤ 16 ∧ 0 < m ∧ Hid (m = min r 16) := by
  by_cases h : 16 < r
  · exact ⟨16, by rw [if_pos (by omega)]; rfl, by omega, by omega, by omega, show 16 = min r 16 by omega⟩
  · exact ⟨r, by rw [if_neg (by omega)], by omega, by omega, by omega, show r = min r 16 by omega⟩
theorem mod_add_mul (A B R P : Nat) : (A + B) * R % P = (A % P + B) * R % P := by
  rw [Nat.mul_mod (A + B) R P, Nat.mul_mod (A % P + B) R P, Nat.add_mod A B P, Nat.add_mod (A % P) B P, Nat.mod_mod]
/-- What stands while the text is taken in. -/
structure PsW (w : World) (key : List UInt8) (r : List Nat) (M3 M4 : Nat) (a : List Nat) (W : World) : Prop where
  bk : BW w 22 w.heap.size key W
  bo : BW w 29 (w.heap.size + 1) Z16 W
  br : NW w M3 r W
  ba : NW w M4 a W
  h3 : w.heap.size + 1 < M3
  h4 : M3 < M4
theorem PsW.keep {w W W' : World} {key : List UInt8} {r a : List Nat} {M3 M4 : Nat} (h : PsW w key r M3 M4 a W) (hb : Below W.heap.size W W') : PsW w key r M3 M4 a W' :=
  ⟨h.bk.keep hb, h.bo.keep hb, h.br.keep hb, h.ba.keep hb, h.h3, h.h4⟩
theorem PsW.whole {w W W' : World} {key : List UInt8} {r a a' : List Nat} {M3 M4 : Nat} (h : PsW w key r M3 M4 a W) (hz : W'.heap[M4]? = some (.cells (WN a') 60 (0, 0))) (hg : W.grownBy W' (some M4)) : PsW w key r M3 M4 a' W' := by
  have h3 := h.h3
  have h4 := h.h4
  exact ⟨h.bk.away (by omega) (by omega) hg, h.bo.away (by omega) (by omega) hg, h.br.away (by omega) (by omega) hg, h.ba.whole hz hg, h3, h4⟩
set_option maxRecDepth 100000 in
set_option maxHeartbeats 4000000 in
theorem polySum_any (key : List UInt8) (hk : key.length = 32) (w : World) (A : Option Addr) (n c : Nat) (l : List UInt8) (hn : l.length = n) (hc : n ≤ c) (hR : RdB w A l) (hb : n ≤ 140737488355000) :
    Calls Try.prog 17 #[.agg (W8 key), .slice A n c] w fun e w' => e = .returned (.agg (W8 (polyL key l))) ∧ Below w.heap.size w w' := by
  have HK := Lib.hid hk
  have HN := Lib.hid hn
  have HC := Lib.hid hc
  have HR := Lib.hid hR
  have HB := Lib.hid hb
  have Z := Lib.hid zero16
  have Z5' := Lib.hid zero5
  obtain ⟨i0, hi, hz0, hz1, hz2⟩ := info_parts (show (Try.prog.info? 5).map (fun i => (i.zero, i.size, i.bytes)) = some (some (.int .u8 0), 1, 1) by kernel_rfl)
  have I0 := Lib.hid hi
  have I2 := Lib.hid hz1
  have K16 := Lib.hid (show (key.take 16).length = 16 by simp [hk])
  have KD := Lib.hid (show (key.drop 16).length = 16 by simp [hk])
  have Z24 := Lib.hid (show (Try.prog.info? 29).map (·.size) = some (B8 (key.take 16)).length by rw [B8_length, K16.out]; kernel_rfl)
  clear hn hc hR hb hk hi hz0 hz1 hz2
  go_enter Try.func17, Try.ntmps17
  go_upto_region 1 with fail
  rw [← Z.out]
  obtain ⟨w1, hw1⟩ : ∃ w1, w1 = (w.alloc (.cells (W8 key) 22)).alloc (.cells (W8 Z16) 29) := ⟨_, rfl⟩
  have S1 := Lib.hid (show BW w 22 w.heap.size key w1 ∧ BW w 29 (w.heap.size + 1) Z16 w1 by
    have hb : Below w.heap.size w w1 := by rw [hw1]; exact ((Below.refl _ _).alloc (Nat.le_refl _) _).alloc (by simp) _
    rw [hw1] at hb ⊢
    exact ⟨⟨ha_old _ _ _ (by simp) (ha_new _ _ _ rfl), by omega, hb⟩, ⟨ha_new _ _ _ (by simp), by omega, hb⟩⟩)
  rw [← hw1]
  clear hw1
  have HRG := Lib.hid (show w1.rangeAt w.heap.size 0 (B8 (key.take 16)) by
    intro j v hj
    have hj2 : j < 16 := by have := (List.getElem?_eq_some_iff.1 hj).1; rw [B8_length, K16.out] at this; exact this
    rw [B8_get _ _ (by rw [K16.out]; exact hj2)] at hj
    cases hj
    rw [Nat.zero_add]
    refine (row_cell S1.out.1.b j (W8_get key j (by rw [HK.out]; omega))).trans ?_
    rw [List.getD_eq_getElem?_getD, List.getD_eq_getElem?_getD, List.getElem?_take, if_pos hj2])
  obtain ⟨half, hhalf⟩ : ∃ half, half = clampL (key.take 16) := ⟨_, rfl⟩
  have HH := Lib.hid hhalf
  have HL := Lib.hid (show half.length = 16 by rw [hhalf, clampL_length, K16.out])
  clear hhalf
  go_upto_region 2 with (first
    | (refine wpList_val rfl (run_arr_to 22 (.tmp 2) (.const (.int .i64 16)) rfl 32 5 Try.underlying22 I0.out w.heap.size 16 (by omega) rfl rfl _) ?_)
    | (refine wpList_val rfl (run_sl2arr 29 (.tmp 17) rfl 16 5 Try.underlying29 (some ⟨w.heap.size, 0, none⟩) 16 32 rfl (by omega) _) ?_)
    | (refine wpList_load_mid rfl 29 (.tmp 18) rfl w.heap.size 0 rfl (B8 (key.take 16)) _ HRG.out Try.underlying29 rfl Z24.out ?_))
  change Calls _ _ #[.agg (W8 (key.take 16))] _ _
  refine (clamp_any (key.take 16) K16.out _).mono ?_
  rw [← HH.out]
  rintro e w2 ⟨rfl, hb2⟩
  have S2 := Lib.hid (And.intro (S1.out.1.keep hb2) (S1.out.2.keep hb2))
  clear hb2 S1 HRG
  go_upto_region 2 with (refine wpList_store_new rfl rfl 29 (.tmp 5) (.tmp 20) rfl (W8 half) rfl rfl (info_16 HL.out) ?c1 (W8_one _) ?_)
  case c1 => rw [W8_size, HL.out]; rfl
  obtain ⟨M2, hM2⟩ : ∃ M, M = w2.heap.size := ⟨_, rfl⟩
  rw [← hM2]
  obtain ⟨w3, hw3⟩ : ∃ w3, w3 = w2.alloc (.cells (W8 half) 29) := ⟨_, rfl⟩
  have S3 := Lib.hid (show BW w 22 w.heap.size key w3 ∧ BW w 29 (w.heap.size + 1) Z16 w3 ∧ w3.heap[M2]? = some (.cells (W8 half) 29 (0, 0)) by
    have hb : Below w2.heap.size w2 w3 := by rw [hw3]; exact (Below.refl _ _).alloc (Nat.le_refl _) _
    exact ⟨S2.out.1.keep hb, S2.out.2.keep hb, by rw [hw3]; exact ha_new _ _ _ hM2⟩)
  rw [← hw3]
  clear hw3 hM2 S2
  go_wp2_with (refine wpList_val rfl (run_arr_all 29 (.tmp 5) rfl 16 5 Try.underlying29 I0.out M2 rfl _) ?_)
  refine (nload_any (some ⟨M2, 0, none⟩) 16 16 half HL.out (by omega) (by omega) _ (RdB.row S3.out.2.2)).mono ?_
  obtain ⟨r, hr⟩ : ∃ r, r = limbsN (leNat half) := ⟨_, rfl⟩
  rw [← hr]
  have RL := Lib.hid (show r.length = 5 by rw [hr]; rfl)
  have RB := Lib.hid (show Bd 67108864 r by rw [hr]; exact (limbsN_bd _).mono (by omega))
  have RV := Lib.hid (show valN r = leNat half by rw [hr, limbsN_val _ (by have := leNat_lt16 half HL.out; omega)])
  clear hr
  rintro e w4 ⟨rfl, hb4⟩
  have S4 := Lib.hid (And.intro (S3.out.1.keep hb4) (S3.out.2.1.keep hb4))
  clear hb4 S3
  go_upto_region 3 with (refine wpList_store_new rfl rfl 60 (.tmp 6) (.tmp 22) rfl (WN r) rfl rfl (info_num RL.out) ?c2 (WN_one _) ?_)
  case c2 => rw [WN_size, RL.out]; rfl
  obtain ⟨M3, hM3⟩ : ∃ M, M = w4.heap.size := ⟨_, rfl⟩
  rw [← hM3]
  go_wp2_with fail
  rw [← Z5'.out, ← hM3]
  obtain ⟨w5, hw5⟩ : ∃ w5, w5 = (w4.alloc (.cells (WN r) 60)).alloc (.cells (WN Z5) 60) := ⟨_, rfl⟩
  have S5 := Lib.hid (show PsW w key r M3 (M3 + 1) Z5 w5 by
    have hb : Below w4.heap.size w4 w5 := by rw [hw5]; exact ((Below.refl _ _).alloc (Nat.le_refl _) _).alloc (by simp) _
    have hbk := S4.out.1.keep hb
    have h1 := row_lt S4.out.2.b
    exact ⟨hbk, S4.out.2.keep hb, ⟨by rw [hw5]; exact ha_old _ _ _ (by simp; omega) (ha_new _ _ _ hM3), by omega, hbk.bel⟩, ⟨by rw [hw5]; exact ha_new _ _ _ (by simp; omega), by omega, hbk.bel⟩, by omega, by omega⟩)
  rw [← hw5]
  clear hw5 S4 hM3
  have TB := Lib.hid (show ByteT Try.prog from ⟨Try.underlying24, by kernel_rfl⟩)
  go_loopw [1] (fun b wr => ∃ (l' : List UInt8) (A' : Option Addr) (c' : Nat) (a : List Nat), b = .slice A' l'.length c' ∧ l'.length ≤ c' ∧ RdB w A' l' ∧ l'.length ≤ n ∧ a.length = 5 ∧ Bd 67108868 a ∧ polyA (leNat half) (valN a % PN) l' = polyA (leNat half) 0 l ∧ PsW w key r M3 (M3 + 1) a wr) (fun b _ => lenOf b)
  case atStart => exact ⟨l, A, c, Z5, by rw [HN.out], by rw [HN.out]; exact HC.out, HR.out, by rw [HN.out]; exact Nat.le_refl _, rfl, by intro j; rcases j with _ | _ | _ | _ | _ | j <;> simp [Z5], rfl, S5.out⟩
  case round =>
    obtain ⟨l', A', c', a, rfl, hlc, hr', hln, hal, hab, hpa, hs⟩ := hrel
    obtain ⟨q, hq⟩ : ∃ q, q = l'.length := ⟨_, rfl⟩
    rw [← hq] at hlc hln ⊢
    have QL := Lib.hid hq.symm
    have LC := Lib.hid hlc
    have R' := Lib.hid hr'
    have LN := Lib.hid hln
    have AL := Lib.hid hal
    have AB := Lib.hid hab
    have PA := Lib.hid hpa
    have S6 := Lib.hid hs
    clear hq hlc hr' hln hal hab hpa hs S5 HR
    by_cases h0 : 0 < q
    · have hD : decide ((0 : Int) < (q : Int)) = true := by simp; omega
      obtain ⟨m, hm, hmq, hm16, hm0, hme⟩ := min16_ex q h0
      have hcm := cut_max (P := Try.prog) 24 5 Try.underlying24 I0.out I2.out A' q c' m (by have := LC.out; omega)
      have LM := Lib.hid (show (l'.take m).length = m by have := QL.out; simp; omega)
      have TM := Lib.hid (show l'.take m = l'.take 16 by
        rw [hme.out]
        by_cases h : q ≤ 16
        · rw [Nat.min_eq_left h, List.take_of_length_le (by rw [QL.out]; omega), List.take_of_length_le (by rw [QL.out]; omega)]
        · rw [Nat.min_eq_right (by omega)])
      have RM := Lib.hid ((R'.out.take m).keep S6.out.bk.bel)
      have NA := Lib.hid (show A' = none → m = 0 ∧ m = 0 by
        intro e
        obtain ⟨b, o, e2, _⟩ := R'.out 0 (by rw [QL.out]; exact h0)
        rw [e] at e2
        cases e2)
      go_upto_region 7 with (refine appg_list rfl TB.out (.tmp 32) (.tmp 33) rfl A' m m (l'.take m) [1] ⟨wr.heap.size, 0, none⟩ 1 1 rfl rfl LM.out rfl NA.out (RM.out.keep ((Below.refl _ _).alloc (Nat.le_refl _) _)) (RdB.one (y := 1) (row_cell (fr := (0, 0)) (ha_new wr _ _ rfl) 0 rfl)) (by omega) (by omega) ?_; intro v1 w6 ho hg)
      clear hm hcm
      have S7 := Lib.hid ((S6.out.keep ((Below.refl _ _).alloc (Nat.le_refl _) _)).keep (show Below _ _ _ from grown_below hg (Nat.le_refl _) (by intro g e; cases e)))
      obtain ⟨A7, c7, rfl, hr7, hl7, _, _⟩ := ho.read
      obtain ⟨k, hk⟩ : ∃ k, k = (l'.take m ++ [1]).length := ⟨_, rfl⟩
      rw [← hk] at hl7 ⊢
      have KE := Lib.hid hk.symm
      have KB := Lib.hid (show k = m + 1 by rw [hk, List.length_append, LM.out]; rfl)
      have R7 := Lib.hid hr7
      clear ho hg hr7 hl7 hk RM
      have S8 := Lib.hid (S7.out.keep (Below.refl _ _).drew)
      refine wp_region_till (PsW w key r M3 (M3 + 1) a) 6 [(true, 0), (true, 1), (true, 4), (false, 2), (false, 3), (false, 5)] _ (by kernel_rfl) (by kernel_rfl) rfl (fun _ _ d _ _ h => by cases d <;> exact h) ?_
      simp only [List.filterMap_cons, List.filterMap_nil, List.getElem?_toArray, List.getElem?_cons_zero, List.getElem?_cons_succ, Option.map_some]
      refine till_q (by rfl) (S8.out) (fun W hW => run_load_row 60 (.tmp 7) rfl (M3 + 1) rfl 60 (WN a) (0, 0) _ hW.ba.b Try.underlying60 rfl (info_num AL.out)) ?_
      simp only [Act.put, List.setIfInBounds_toArray, List.set_cons_zero, List.set_cons_succ]
      refine till_q (v := ?_) (by rfl) (S8.out) ?_ ?_
      rotate_left
      · intro W hW
        go_simp
        with_reducible rfl
      simp only [Act.put, List.setIfInBounds_toArray, List.set_cons_zero, List.set_cons_succ]
      refine till_q (by rfl) (S8.out) (fun W hW => run_load_row 60 (.tmp 6) rfl M3 rfl 60 (WN r) (0, 0) _ hW.br.b Try.underlying60 rfl (info_num RL.out)) ?_
      simp only [Act.put, List.setIfInBounds_toArray, List.set_cons_zero, List.set_cons_succ]
      refine till_t (by rfl) (fun K hK => ?_)
      go_simp
      refine (nload_any A7 k c7 (l'.take m ++ [1]) KE.out (by have := KB.out; omega) ?k1 w6.drew R7.out).mono ?_
      case k1 =>
        intro e
        have h1 := KB.out
        have h2 := LM.out
        rw [List.getD_eq_getElem?_getD, List.getElem?_append_right (by omega), show 16 - (l'.take m).length = 0 by omega]
        decide
      obtain ⟨B, hB⟩ : ∃ B, B = limbsN (leNat (l'.take m ++ [1])) := ⟨_, rfl⟩
      rw [← hB]
      have BL := Lib.hid (show B.length = 5 by rw [hB]; rfl)
      have BB := Lib.hid (show Bd 67108863 B by rw [hB]; exact limbsN_bd _)
      have BV := Lib.hid (show valN B = leNat (l'.take 16 ++ [1]) by
        rw [hB, TM.out]
        refine limbsN_val _ ?_
        have h1 := leNat_append (l'.take 16) [1]
        have h2 := leNat_lt (l'.take 16)
        have h3 : 256 ^ (l'.take 16).length ≤ 256 ^ 16 := Nat.pow_le_pow_right (by omega) (by simp; omega)
        have h4 : leNat [1] = 1 := rfl
        rw [h4] at h1
        omega)
      clear hB
      rintro e w8 ⟨rfl, hb8⟩
      have S9 := Lib.hid (S8.out.keep hb8)
      clear hb8
      refine hK.out _ _ (S9.out) ?_
      clear hK K
      refine till_t (by rfl) (fun K hK => ?_)
      go_simp
      refine (nadd_any a B AL.out BL.out (AB.out.mono (by omega)) (BB.out.mono (by omega)) _).mono ?_
      obtain ⟨t, ht⟩ : ∃ t, t = addK a B 5 := ⟨_, rfl⟩
      rw [← ht]
      have TL := Lib.hid (show t.length = 5 by rw [ht, addK_length, AL.out])
      have TBd := Lib.hid (show Bd 268435456 t by rw [ht]; exact ((addK_all a B AL.out BL.out).2 _ _ AB.out BB.out).mono (by omega))
      have TV := Lib.hid (show valN t = valN a + valN B by rw [ht]; exact (addK_all a B AL.out BL.out).1)
      clear ht
      rintro e w9 ⟨rfl, hb9⟩
      have S10 := Lib.hid (S9.out.keep hb9)
      clear hb9
      refine hK.out _ _ (S10.out) ?_
      clear hK K
      refine till_t (by rfl) (fun K hK => ?_)
      go_simp
      refine (ntimes_any t r TL.out RL.out TBd.out RB.out _).mono ?_
      obtain ⟨u, hu⟩ : ∃ u, u = timesL t r := ⟨_, rfl⟩
      rw [← hu]
      have UL := Lib.hid (show u.length = 5 by rw [hu, timesL_length])
      have UA := Lib.hid (timesL_all t r TL.out RL.out TBd.out RB.out)
      rw [← hu] at UA
      clear hu
      rintro e w10 ⟨rfl, hb10⟩
      have S11 := Lib.hid (S10.out.keep hb10)
      clear hb10
      refine hK.out _ _ (S11.out) ?_
      clear hK K
      refine till_last (fun K hK => ?_)
      refine storeW_wp 60 (.tmp 7) (.tmp 40) rfl (M3 + 1) (WN u) rfl rfl _ _ S11.out.ba.b (info_num UL.out) (by rw [WN_size, WN_size, UL.out, AL.out]) (WN_one _) ?_
      intro w11 hz11 hg11 hs11
      have S12 := Lib.hid (S11.out.whole hz11 hg11)
      clear hz11 hg11 hs11
      refine hK.out _ _ ?_
      clear hK K
      simp only [Act.put]
      obtain ⟨A'', hcut, hcutR, _⟩ := cut_from (P := Try.prog) 24 5 Try.underlying24 I0.out I2.out A' q c' m hmq
      have RD := Lib.hid (hcutR w l' QL.out LC.out R'.out)
      clear hcutR
      go_wp2_with fail
      go_roundw
      case rel =>
        have h1 := QL.out
        have h2 := LC.out
        refine ⟨l'.drop m, A'', c' - m, u, by rw [List.length_drop, h1], by rw [List.length_drop, h1]; omega, RD.out, by rw [List.length_drop, h1]; have := LN.out; omega, UL.out, UA.out.2, ?_, S12.out⟩
        rw [← PA.out, polyA_cons _ _ l' (by intro e; rw [e] at h1; simp at h1; omega), UA.out.1, TV.out, BV.out, RV.out]
        have hd : l'.drop m = l'.drop 16 := by
          rw [hme.out]
          by_cases h : q ≤ 16
          · rw [Nat.min_eq_left h, List.drop_of_length_le (by rw [h1]; omega), List.drop_of_length_le (by rw [h1]; omega)]
          · rw [Nat.min_eq_right (by omega)]
        rw [hd]
        congr 1
        exact mod_add_mul _ _ _ _
      case measure => simp [lenOf]; omega
    · have hl0 : Hid (l' = []) := List.eq_nil_of_length_eq_zero (by rw [QL.out]; omega)
      have hD : decide ((0 : Int) < (q : Int)) = false := by simp; omega
      have XV := Lib.hid (show valN a % PN = polyA (leNat half) 0 l by have := PA.out; rw [hl0.out, polyA_nil] at this; exact this)
      clear PA
      go_wp2_with (refine wpList_load_row rfl 60 (.tmp 7) rfl (M3 + 1) rfl 60 (WN a) (0, 0) _ S6.out.ba.b Try.underlying60 rfl (info_num AL.out) ?_)
      refine (nleast_any a AL.out AB.out _).mono ?_
      obtain ⟨X, hX⟩ : ∃ X, X = valN a % PN := ⟨_, rfl⟩
      obtain ⟨L, hL⟩ : ∃ L, L = leastL a := ⟨_, rfl⟩
      rw [← hL]
      have LL := Lib.hid (show L = limbsN X by rw [hL, hX]; exact leastL_all a AL.out AB.out)
      have LLen := Lib.hid (show L.length = 5 by rw [LL.out]; rfl)
      have LB := Lib.hid (show Bd 67108863 L by rw [LL.out]; exact limbsN_bd _)
      have XE := Lib.hid (show X = polyA (leNat half) 0 l by rw [hX]; exact XV.out)
      clear hX hL
      rintro e w6 ⟨rfl, hb6⟩
      have S7 := Lib.hid (S6.out.keep hb6)
      clear hb6
      go_upto_region 10 with (refine wpList_store_whole rfl rfl 60 (.tmp 7) (.tmp 45) rfl (M3 + 1) (WN L) rfl rfl 60 _ S7.out.ba.b (info_num LLen.out) (by rw [WN_size, WN_size, LLen.out, AL.out]) (WN_one _) ?_; intro w7 hz7 hg7 hs7)
      have S8 := Lib.hid (S7.out.whole hz7 hg7)
      clear hz7 hg7 hs7 S6 S7
      go_wp2_with fail
      rw [← Z.out]
      obtain ⟨M5, hM5⟩ : ∃ M, M = w7.heap.size := ⟨_, rfl⟩
      rw [← hM5]
      obtain ⟨T, hT⟩ : ∃ T, T = bytesN (tagN X (key.drop 16)) := ⟨_, rfl⟩
      have TL := Lib.hid (show T.length = 16 by rw [hT, bytesN_length])
      have TT := Lib.hid hT
      obtain ⟨w8, hw8⟩ : ∃ w8, w8 = w7.alloc (.cells (W8 Z16) 29) := ⟨_, rfl⟩
      have S9 := Lib.hid (show PsW w key r M3 (M3 + 1) L w8 ∧ BW w 29 M5 (partB T 0) w8 ∧ M3 + 1 < M5 by
        have hb : Below w7.heap.size w7 w8 := by rw [hw8]; exact (Below.refl _ _).alloc (Nat.le_refl _) _
        have h9 := S8.out.keep hb
        have h1 := row_lt S8.out.ba.b
        refine ⟨h9, ⟨?_, ?_, h9.bk.bel⟩, by omega⟩
        · rw [hw8, partB_zero, TL.out]
          exact ha_new _ _ _ hM5
        · have := S8.out.ba.bel.size
          omega)
      have M5L := Lib.hid S9.out.2.2
      rw [← hw8]
      clear hw8 hM5 hT S8
      go_loopw [11, 46] (fun cy u wr => ∃ i : Nat, i ≤ 16 ∧ u = .int .i64 (i : Int) ∧ cy = .int .u64 ((tagK X (key.drop 16) i / 256 ^ i : Nat) : Int) ∧ PsW w key r M3 (M3 + 1) L wr ∧ BW w 29 M5 (partB T i) wr) (fun _ u _ => 16 - (intOf u).toNat)
      case atStart => exact ⟨0, by omega, rfl, by simp [tagK, leNat, Nat.mod_one], S9.out.1, S9.out.2.1⟩
      case round =>
        obtain ⟨i, hi, rfl, rfl, hs, hm⟩ := hrel
        have I := Lib.hid hi
        have SA := Lib.hid hs
        have SB := Lib.hid hm
        clear hi hs hm S9
        obtain ⟨cy, hcy⟩ : ∃ cy, cy = tagK X (key.drop 16) i / 256 ^ i := ⟨_, rfl⟩
        rw [← hcy]
        have CY := Lib.hid hcy
        have CB := Lib.hid (show cy ≤ 1 by rw [hcy]; exact tagK_small _ _ _ (by rw [KD.out]; exact I.out))
        clear hcy
        by_cases hlt : i < 16
        · have hD2 : decide ((i : Int) < 16) = true := by simp; omega
          obtain ⟨k, hk⟩ : ∃ k, k = 8 * i / 26 := ⟨_, rfl⟩
          obtain ⟨s, hs⟩ : ∃ s, s = 8 * i % 26 := ⟨_, rfl⟩
          have b1 : (i : Int) ≤ 15 := by omega
          have e1 : 8 * (i : Int) / 26 = (k : Int) := by omega
          have e2 : 8 * (i : Int) % 26 = (s : Int) := by omega
          have k4 : k < 5 := by omega
          have s26 : s < 26 := by omega
          obtain ⟨x, hx⟩ : ∃ x, x = L.getD k 0 := ⟨_, rfl⟩
          have xb : x ≤ 67108863 := by rw [hx]; exact LB.out k
          have a1 := row_cell SA.out.ba.b k (WN_get _ k (by rw [LLen.out]; exact k4))
          rw [← hx] at a1
          obtain ⟨v0, hv0⟩ : ∃ v, v = x / 2 ^ s := ⟨_, rfl⟩
          have v0b : v0 ≤ 67108863 := by rw [hv0]; exact Nat.le_trans (Nat.div_le_self _ _) xb
          have e5 : (x : Int) / 2 ^ s = (v0 : Int) := by rw [hv0, Int.natCast_ediv, Int.natCast_pow]; rfl
          have K := Lib.hid hk
          have S := Lib.hid hs
          have E1 := Lib.hid e1
          have E2 := Lib.hid e2
          have E5 := Lib.hid e5
          have X0 := Lib.hid hx
          have V0 := Lib.hid hv0
          clear hk hs hx hv0
          go_upto_if 62 with fail
          clear a1 e1 e2 e5
          rw [E1.out, E2.out]
          obtain ⟨V, hV⟩ : ∃ V, V = outV L i := ⟨_, rfl⟩
          have HV := Lib.hid hV
          clear hV
          go_cut [16] (fun v wx => v = .int .u64 (V : Int) ∧ V < 18446744073709551616 ∧ wx = wr)
          case first =>
            by_cases h5 : k + 1 < 5
            · have hE : decide ((k : Int) + 1 < 5) = true := by simp; omega
              obtain ⟨y, hy⟩ : ∃ y, y = L.getD (k + 1) 0 := ⟨_, rfl⟩
              have yb : y ≤ 67108863 := by rw [hy]; exact LB.out _
              have a2 := row_cell SA.out.ba.b (k + 1) (WN_get _ (k + 1) (by rw [LLen.out]; exact h5))
              rw [← hy] at a2
              obtain ⟨Y, hYY⟩ : ∃ Y, Y = y * 2 ^ (26 - s) := ⟨_, rfl⟩
              have sp : 2 ^ (26 - s) ≤ 2 ^ 26 := Nat.pow_le_pow_right (by omega) (by omega)
              have Yb : Y ≤ 67108863 * 67108864 := by rw [hYY]; exact Nat.mul_le_mul yb sp
              have e6 : IntKind.u64.wrap ((y : Int) * 2 ^ (26 - s)) = (Y : Int) := by
                have : ((y : Int) * 2 ^ (26 - s)) = (Y : Int) := by rw [hYY, Int.natCast_mul, Int.natCast_pow]; rfl
                rw [this]; exact wrap_u64 _ (by omega)
              have e7 : (26 - (s : Int)).toNat = 26 - s := by omega
              have b2 : (0 : Int) ≤ 26 - (s : Int) := by omega
              have b6 : (s : Int) ≤ 26 := by omega
              have b3 : (k : Int) + 1 < 5 := by omega
              have e8 : ((k : Int) + 1).toNat = k + 1 := by omega
              have VE : Hid (V = v0 ||| Y) := by
                show V = _
                rw [HV.out, outV, ← K.out, ← S.out, if_pos h5, ← X0.out, ← V0.out, ← hy, ← hYY]
              have e9 : bits .or .u64 (v0 : Int) (Y : Int) = (V : Int) := by rw [VE.out]; exact or64 v0 Y (by omega) (by omega)
              have Vb : V < 18446744073709551616 := by rw [VE.out]; exact Nat.or_lt_two_pow (n := 64) (by omega) (by omega)
              clear hy hYY sp
              go_wp2_with fail
              go_meet
              exact ⟨rfl, Vb, rfl⟩
            · have hE : decide ((k : Int) + 1 < 5) = false := by simp; omega
              have VE : V = v0 := by rw [HV.out, outV, ← K.out, ← S.out, if_neg h5, ← X0.out, ← V0.out]
              have VE2 := Lib.hid VE
              clear VE
              go_wp2_with fail
              go_meet
              exact ⟨by rw [VE2.out], by rw [VE2.out]; omega, rfl⟩
          case rest =>
          obtain ⟨rfl, hVb, rfl⟩ := hcut
          obtain ⟨B, hB⟩ : ∃ B, B = X / 256 ^ i % 256 := ⟨_, rfl⟩
          have VB : Hid (V % 256 = B) := by
            show V % 256 = B
            rw [HV.out, LL.out, hB]
            exact outV_byte X i hlt
          have Bb : B ≤ 255 := by rw [hB]; omega
          obtain ⟨kb, hkb⟩ : ∃ y, y = key.getD (16 + i) 0 := ⟨_, rfl⟩
          have a3 := row_cell SA.out.bk.b (16 + i) (W8_get key (16 + i) (by rw [HK.out]; omega))
          rw [← hkb] at a3
          have kb8 := kb.toNat_lt
          have e3 : IntKind.u64.wrap (kb.toNat : Int) = (kb.toNat : Int) := wrap_u64 _ (by omega)
          have e4 : bits .and .u64 (V : Int) 255 = (B : Int) := by
            have h := u64_and_nat V 255 hVb (by omega)
            rw [show ((255 : Nat) : Int) = 255 from rfl] at h
            rw [h, show (255 : Nat) = 2 ^ 8 - 1 from rfl, Nat.and_two_pow_sub_one_eq_mod]
            have := VB.out
            omega
          have b3 : 16 + (i : Int) < 32 := by omega
          have b4 : (0 : Int) ≤ 16 + (i : Int) := by omega
          have e6 : (16 + (i : Int)).toNat = 16 + i := by omega
          have cb := CB.out
          have b5 : (B : Int) + (kb.toNat : Int) ≤ 600 := by omega
          have b6 : (cy : Int) + ((B : Int) + (kb.toNat : Int)) ≤ 600 := by omega
          obtain ⟨z, hz⟩ : ∃ z : UInt8, z = UInt8.ofNat (cy + (B + kb.toNat)) := ⟨_, rfl⟩
          have e7 : ((cy : Int) + ((B : Int) + (kb.toNat : Int))) % 256 = (z.toNat : Int) := by
            rw [hz, UInt8.toNat_ofNat']
            omega
          obtain ⟨cy', hcy'⟩ : ∃ c : Nat, c = (cy + (B + kb.toNat)) / 256 := ⟨_, rfl⟩
          have e8 : ((cy : Int) + ((B : Int) + (kb.toNat : Int))) / 256 = (cy' : Int) := by omega
          have a5 := row_cell SB.out.b i (W8_get _ i (by rw [partB_length, TL.out]; exact hlt))
          have f5 := row_free SB.out.b i
          have b7 : (i : Int) < 16 := by omega
          have KBE := Lib.hid (show kb = (key.drop 16).getD i 0 by rw [hkb, List.getD_eq_getElem?_getD, List.getD_eq_getElem?_getD, List.getElem?_drop])
          have BE := Lib.hid hB
          have ZE := Lib.hid hz
          have CE := Lib.hid hcy'
          clear hB hkb hz hcy' hVb
          go_wp2_with fail
          go_roundw
          case rel =>
            refine ⟨i + 1, by omega, by go_num, ?_, ?_, ?_⟩
            · rw [CE.out, tagK_next _ _ _ (by rw [KD.out]; exact hlt), ← CY.out, ← BE.out, ← KBE.out]
            · have hgr := grown1 wc M5 i (.int .u8 (z.toNat : Int))
              have h1 := M5L.out
              have h3 := SA.out.h3
              have h4 := SA.out.h4
              have h5 := SB.out.hg
              exact ⟨SA.out.bk.away (by omega) h5 hgr, SA.out.bo.away (by omega) h5 hgr, SA.out.br.away (by omega) h5 hgr, SA.out.ba.away (by omega) h5 hgr, h3, h4⟩
            · have := SB.out.set i z
              rw [show z = T.getD i 0 by rw [ZE.out, TT.out, tag_byte X _ KD.out i hlt, ← CY.out, ← BE.out, ← KBE.out], partB_set _ _ (by rw [TL.out]; exact hlt)] at this
              rw [show z = T.getD i 0 by rw [ZE.out, TT.out, tag_byte X _ KD.out i hlt, ← CY.out, ← BE.out, ← KBE.out]]
              exact this
          case measure => simp [intOf]; omega
        · have hi : Hid (i = 16) := show i = 16 by have := I.out; omega
          have hD2 : decide ((i : Int) < 16) = false := by simp; omega
          have SC := Lib.hid (show BW w 29 M5 T wr by have := SB.out; rw [hi.out, ← TL.out, partB_full] at this; exact this)
          go_wp2_with (first
            | (refine wpList_load_row rfl 29 (.tmp 10) rfl M5 rfl 29 (W8 T) (0, 0) _ SC.out.b Try.underlying29 rfl (info_16 TL.out) ?_)
            | (refine wpList_store_whole rfl rfl 29 (.tmp 4) (.tmp 89) rfl (w.heap.size + 1) (W8 T) rfl rfl 29 _ SA.out.bo.b (info_16 TL.out) (by rw [W8_size, W8_size, TL.out]; rfl) (W8_one _) ?_; intro w8 hz8 hg8 _))
          exact bodyPost_ret (results_cell_row rfl _ _ (w.heap.size + 1) 29 (W8 T) (0, 0) _ rfl hz8 Try.underlying29 rfl (info_16 TL.out)) rfl ⟨by rw [TT.out, XE.out, HH.out]; rfl, SA.out.bo.ret hg8⟩
end Go.Proofs.Ytdheopihcohciaa
