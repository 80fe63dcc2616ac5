/- The least number, bytes in limbs, a clamped key: walked. No condition but those each theorem states. -/
import Derived.Test.YtdheopihcohciaaPolyL
namespace Go.Proofs.Ytdheopihcohciaa
set_option linter.unusedVariables false
set_option linter.unusedSimpArgs false
open Go.RowKit
attribute [local go_sem ↓] Go.wp_at_zero Go.wp_at_succ

theorem info_num {l : List Nat} (h : l.length = 5) : (Try.prog.info? 60).map (·.size) = some (WN l).size := by rw [WN_size, h]; kernel_rfl
theorem NW.whole {w W W' : World} {g : Nat} {l l' : List Nat} (h : NW w g l W) (hb : W'.heap[g]? = some (.cells (WN l') 60 (0, 0))) (hg : W.grownBy W' (some g)) : NW w g l' W' := ⟨hb, h.hg, ret_number h hg⟩
theorem NW.away {w W W' : World} {g k : Nat} {m : List Nat} (h : NW w k m W) (hne : k ≠ g) (hg : w.heap.size ≤ g) (hgr : W.grownBy W' (some g)) : NW w k m W' where
  b := grown_block hgr (by simp; exact hne) h.b
  hg := h.hg
  bel := h.bel.trans (grown_below hgr h.bel.size (by rintro k ⟨⟩; exact hg))
set_option maxRecDepth 100000 in
set_option maxHeartbeats 2000000 in
theorem nleast_any (n : List Nat) (hn : n.length = 5) (bn : Bd 67108868 n) (w : World) :
    Calls Try.prog 33 #[.agg (WN n)] w fun e w' => e = .returned (.agg (WN (leastL n))) ∧ Below w.heap.size w w' := by
  have HN := Lib.hid hn
  have BN := Lib.hid bn
  have Z5' := Lib.hid zero5
  obtain ⟨t1, ht1⟩ : ∃ t, t = carryL n := ⟨_, rfl⟩
  obtain ⟨t2, ht2⟩ : ∃ t, t = carryL t1 := ⟨_, rfl⟩
  have L1 := Lib.hid (show t1.length = 5 by rw [ht1, carryL_length, hn])
  have L2 := Lib.hid (show t2.length = 5 by rw [ht2, carryL_length, L1.out])
  have D1 := Lib.hid (show Bd 4611686018427387904 t1 by rw [ht1]; exact carryL_bd n hn (bn.mono (by omega)))
  have D2 := Lib.hid (show Bd 67108863 t2 by
    obtain ⟨b0, b1, b2, b3, b4, e, h0, h1, h2, h3, h4⟩ := carryL_small n hn bn
    rw [ht2, ht1, e]
    intro j
    rcases j with _ | _ | _ | _ | _ | j <;> simp <;> omega)
  have T1 := Lib.hid ht1
  have T2 := Lib.hid ht2
  have LE := Lib.hid (show leastL n = if (leastK (t2.set 0 (t2.getD 0 0 + 5)) 4).getD 4 0 / 67108864 = 0 then t2 else (leastK (t2.set 0 (t2.getD 0 0 + 5)) 4).set 4 ((leastK (t2.set 0 (t2.getD 0 0 + 5)) 4).getD 4 0 % 67108864) by rw [ht2, ht1]; rfl)
  clear hn bn ht1 ht2
  go_enter Try.func33, Try.ntmps33
  go_upto_region 1 with fail
  rw [← Z5'.out]
  obtain ⟨w1, hw1⟩ : ∃ w1, w1 = (w.alloc (.cells (WN n) 60)).alloc (.cells (WN Z5) 60) := ⟨_, rfl⟩
  have S1 := Lib.hid (show NW w w.heap.size n w1 ∧ NW w (w.heap.size + 1) Z5 w1 by
    have hb : Below w.heap.size w w1 := by rw [hw1]; exact ((Below.refl _ _).alloc (Nat.le_refl _) _).alloc (by simp) _
    rw [hw1] at hb ⊢
    exact ⟨⟨ha_old _ _ _ (by simp) (ha_new _ _ _ rfl), by omega, hb⟩, ⟨ha_new _ _ _ (by simp), by omega, hb⟩⟩)
  rw [← hw1]
  clear hw1
  go_wp2_with (refine wpList_load_row rfl 60 (.tmp 1) rfl w.heap.size rfl 60 (WN n) (0, 0) _ S1.out.1.b Try.underlying60 rfl (info_num HN.out) ?_)
  refine (ncarry_any n HN.out (BN.out.mono (by omega)) _).mono ?_
  rw [← T1.out]
  rintro e w2 ⟨rfl, hb2⟩
  have S2 := Lib.hid (And.intro (S1.out.1.keep hb2) (S1.out.2.keep hb2))
  clear hb2 S1
  go_wp2_with fail
  refine (ncarry_any t1 L1.out D1.out _).mono ?_
  rw [← T2.out]
  rintro e w3 ⟨rfl, hb3⟩
  have S3 := Lib.hid (And.intro (S2.out.1.keep hb3) (S2.out.2.keep hb3))
  clear hb3 S2
  go_upto_region 2 with (refine wpList_store_whole rfl rfl 60 (.tmp 1) (.tmp 7) rfl w.heap.size (WN t2) rfl rfl 60 _ S3.out.1.b (info_num L2.out) (by rw [WN_size, WN_size, L2.out, HN.out]) (WN_one _) ?_; intro w4 hz4 hg4 hs4)
  have S4 := Lib.hid (show NW w w.heap.size t2 w4 ∧ NW w (w.heap.size + 1) Z5 w4 from ⟨S3.out.1.whole hz4 hg4, S3.out.2.away (by omega) (Nat.le_refl _) hg4⟩)
  clear hz4 hg4 hs4 S3
  go_upto_region 3 with (first
    | (refine wpList_load_row rfl 60 (.tmp 1) rfl w.heap.size rfl 60 (WN t2) (0, 0) _ S4.out.1.b Try.underlying60 rfl (info_num L2.out) ?_)
    | (refine wpList_store_new rfl rfl 60 (.tmp 3) (.tmp 8) rfl (WN t2) rfl rfl (info_num L2.out) ?c1 (WN_one _) ?_))
  case c1 => rw [WN_size, L2.out]; rfl
  obtain ⟨M, hM⟩ : ∃ M, M = w4.heap.size := ⟨_, rfl⟩
  rw [← hM]
  obtain ⟨w5, hw5⟩ : ∃ w5, w5 = w4.alloc (.cells (WN t2) 60) := ⟨_, rfl⟩
  have hbel : Below w4.heap.size w4 w5 := by rw [hw5]; exact (Below.refl _ _).alloc (Nat.le_refl _) _
  have S5 := Lib.hid (show NW w w.heap.size t2 w5 ∧ NW w (w.heap.size + 1) Z5 w5 ∧ NW w M t2 w5 from ⟨S4.out.1.keep hbel, S4.out.2.keep hbel, by rw [hw5]; exact ha_new _ _ _ hM, by rw [hM]; exact S4.out.1.bel.size, (S4.out.1.keep hbel).bel⟩)
  have HM := Lib.hid (show w.heap.size + 1 < M by rw [hM]; exact row_lt S4.out.2.b)
  rw [← hw5]
  clear hbel hw5 hM S4
  obtain ⟨x, hx⟩ : ∃ x, x = t2.getD 0 0 := ⟨_, rfl⟩
  have a1 := row_cell S5.out.2.2.b 0 (WN_get _ 0 (by rw [L2.out]; omega))
  have f1 := row_free S5.out.2.2.b 0
  rw [← hx] at a1
  have b1 : (x : Int) ≤ 67108863 := by have := D2.out 0; omega
  have X := Lib.hid hx
  clear hx
  go_upto_region 4 with fail
  clear a1 f1
  obtain ⟨z, hz⟩ : ∃ z : Nat, z = x + 5 := ⟨_, rfl⟩
  rw [show (x : Int) + 5 = (z : Int) by omega]
  obtain ⟨m, hm0⟩ : ∃ m, m = t2.set 0 z := ⟨_, rfl⟩
  obtain ⟨w6, hw6⟩ : ∃ w6, w6 = w5.setCell ⟨M, 0, none⟩ (.int .u64 (z : Int)) := ⟨_, rfl⟩
  have hm : m = t2.set 0 (x + 5) := by rw [hm0, hz]
  have S6 := Lib.hid (show NW w w.heap.size t2 w6 ∧ NW w (w.heap.size + 1) Z5 w6 ∧ NW w M (leastK m 0) w6 by
    rw [hw6, leastK, hm0]
    have := HM.out
    exact ⟨S5.out.1.other (by omega) (by omega) _ _, S5.out.2.1.other (by omega) (by omega) _ _, S5.out.2.2.set _ _⟩)
  have ML := Lib.hid (show m.length = 5 by rw [hm, List.length_set, L2.out])
  have MB := Lib.hid (show ∀ i, i ≤ 4 → Bd 134217800 (leastK m i) by
    obtain ⟨c0, c1, c2, c3, c4, hc⟩ := list5 t2 L2.out
    rw [hm, X.out, hc]
    have d := D2.out
    rw [hc] at d
    have d0 := d 0
    have d1 := d 1
    have d2 := d 2
    have d3 := d 3
    have d4 := d 4
    simp at d0 d1 d2 d3 d4
    intro i hi j
    rcases i with _ | _ | _ | _ | _ | i
    · rcases j with _ | _ | _ | _ | _ | j <;> simp [leastK] <;> omega
    · rcases j with _ | _ | _ | _ | _ | j <;> simp [leastK] <;> omega
    · rcases j with _ | _ | _ | _ | _ | j <;> simp [leastK] <;> omega
    · rcases j with _ | _ | _ | _ | _ | j <;> simp [leastK] <;> omega
    · rcases j with _ | _ | _ | _ | _ | j <;> simp [leastK] <;> omega
    · omega)
  have MM := Lib.hid (show m = t2.set 0 (t2.getD 0 0 + 5) by rw [hm, X.out])
  rw [← hw6]
  clear hw6 hm hm0 hz S5 b1
  go_wp2_with fail
  go_loopw [13] (fun u wr => ∃ i : Nat, i ≤ 4 ∧ u = .int .i64 (i : Int) ∧ NW w w.heap.size t2 wr ∧ NW w (w.heap.size + 1) Z5 wr ∧ NW w M (leastK m i) wr) (fun u _ => 4 - (intOf u).toNat)
  case atStart => exact ⟨0, by omega, rfl, S6.out⟩
  case round =>
    obtain ⟨i, hi, rfl, hs⟩ := hrel
    have I := Lib.hid hi
    have S7 := Lib.hid hs
    clear hi hs S6
    by_cases hlt : i < 4
    · have hD : decide ((i : Int) < 4) = true := by simp; omega
      obtain ⟨q, hq⟩ : ∃ q, q = leastK m i := ⟨_, rfl⟩
      rw [← hq] at S7
      have QL := Lib.hid (show q.length = 5 by rw [hq, leastK_length, ML.out])
      have QB := Lib.hid (show Bd 134217800 q by rw [hq]; exact MB.out i I.out)
      have QQ := Lib.hid hq
      obtain ⟨x, hx⟩ : ∃ x, x = q.getD i 0 := ⟨_, rfl⟩
      obtain ⟨y, hy⟩ : ∃ y, y = q.getD (i + 1) 0 := ⟨_, rfl⟩
      have hxb : x ≤ 134217800 := by rw [hx]; exact QB.out i
      have hyb : y ≤ 134217800 := by rw [hy]; exact QB.out (i + 1)
      have a1 := row_cell S7.out.2.2.b i (WN_get _ i (by rw [QL.out]; omega))
      have a2 := row_cell S7.out.2.2.b (i + 1) (WN_get _ (i + 1) (by rw [QL.out]; omega))
      have f2 := row_free S7.out.2.2.b (i + 1)
      rw [← hx] at a1
      rw [← hy] at a2
      have X' := Lib.hid hx
      have Y := Lib.hid hy
      have A1 := Lib.hid a1
      have b1 : (i : Int) < 5 := by omega
      have b2 : (i : Int) + 1 < 5 := by omega
      have b0 : (0 : Int) ≤ (i : Int) + 1 := by omega
      have e0 := wrap_i64' ((i : Int) + 1) (by omega)
      have e3 : ((i : Int) + 1).toNat = i + 1 := by omega
      have e2 := wrap_u64 (y + x / 67108864) (by omega)
      rw [Int.natCast_add, Int.natCast_ediv] at e2
      have c26 : ((67108864 : Nat) : Int) = 67108864 := rfl
      rw [c26] at e2
      clear hq hx hy c26
      go_upto_region 7 with fail
      clear a1
      refine wp_region_plan (fun W => W.cell? ⟨M, i, none⟩ = some (.int .u64 (x : Int))) [0, 1, 2, 4, 5, 6, 7] [3, 8, 9, 10] (by kernel_rfl) (by kernel_rfl) (fun _ _ d _ _ h => by cases d <;> exact h) (A1.out) ?_
      simp only [List.filterMap_cons, List.filterMap_nil, List.getElem?_toArray, List.getElem?_cons_zero, List.getElem?_cons_succ]
      refine planQ_cons (v := ?_) (by rfl) ?_ ?_
      rotate_left
      · intro W hW
        go_simp
        with_reducible rfl
      simp only [Act.put, List.setIfInBounds_toArray, List.set_cons_zero, List.set_cons_succ]
      refine planQ_cons (v := ?_) (by rfl) ?_ ?_
      rotate_left
      · intro W hW
        go_simp
        with_reducible rfl
      simp only [Act.put, List.setIfInBounds_toArray, List.set_cons_zero, List.set_cons_succ]
      refine planQ_cons (v := ?_) (by rfl) ?_ ?_
      rotate_left
      · intro W hW
        go_simp
        with_reducible rfl
      simp only [Act.put, List.setIfInBounds_toArray, List.set_cons_zero, List.set_cons_succ]
      refine planQ_cons (v := ?_) (by rfl) ?_ ?_
      rotate_left
      · intro W hW
        go_simp
        with_reducible rfl
      simp only [Act.put, List.setIfInBounds_toArray, List.set_cons_zero, List.set_cons_succ]
      refine planQ_cons (v := ?_) (by rfl) ?_ ?_
      rotate_left
      · intro W hW
        go_simp
        with_reducible rfl
      simp only [Act.put, List.setIfInBounds_toArray, List.set_cons_zero, List.set_cons_succ]
      refine planQ_cons (by rfl) (fun W hW => run_cell 58 (.tmp 21) rfl _ Try.underlying58 rfl rfl hW) ?_
      simp only [Act.put, List.setIfInBounds_toArray, List.set_cons_zero, List.set_cons_succ]
      refine planQ_cons (v := ?_) (by rfl) ?_ ?_
      rotate_left
      · intro W hW
        go_simp
        with_reducible rfl
      simp only [Act.put, List.setIfInBounds_toArray, List.set_cons_zero, List.set_cons_succ]
      refine planQ_nil ?_
      refine planT_val (by rfl) (A1.out) (run_cell 58 (.tmp 18) rfl _ Try.underlying58 rfl rfl a2) ?_
      simp only [Act.put, List.setIfInBounds_toArray, List.set_cons_zero, List.set_cons_succ]
      refine planT_val (v := ?_) (by rfl) (A1.out) ?_ ?_
      rotate_left
      · go_simp
        with_reducible rfl
      simp only [Act.put, List.setIfInBounds_toArray, List.set_cons_zero, List.set_cons_succ]
      refine planT_val (v := ?_) (by rfl) (A1.out) ?_ ?_
      rotate_left
      · go_simp
        with_reducible rfl
      simp only [Act.put, List.setIfInBounds_toArray, List.set_cons_zero, List.set_cons_succ]
      refine planT_cons (by rfl) (fun K hK => ?_)
      go_simp
      obtain ⟨p, hp⟩ : ∃ p, p = q.set (i + 1) (y + x / 67108864) := ⟨_, rfl⟩
      rw [show (y : Int) + (x : Int) / 67108864 = ((y + x / 67108864 : Nat) : Int) by omega]
      have S8 := Lib.hid (show NW w w.heap.size t2 (wr.setCell ⟨M, i + 1, none⟩ (.int .u64 ((y + x / 67108864 : Nat) : Int))).drew ∧ NW w (w.heap.size + 1) Z5 (wr.setCell ⟨M, i + 1, none⟩ (.int .u64 ((y + x / 67108864 : Nat) : Int))).drew ∧ NW w M p (wr.setCell ⟨M, i + 1, none⟩ (.int .u64 ((y + x / 67108864 : Nat) : Int))).drew by
        have := HM.out
        rw [hp]
        exact ⟨(S7.out.1.other (by omega) (by omega) _ _).drew, (S7.out.2.1.other (by omega) (by omega) _ _).drew, (S7.out.2.2.set _ _).drew⟩)
      have PL := Lib.hid (show p.length = 5 by rw [hp, List.length_set, QL.out])
      have PX := Lib.hid (show p.getD i 0 = x by rw [hp, getD_set, if_neg (by omega), X'.out])
      have PP := Lib.hid hp
      clear hp
      have A2 := row_cell S8.out.2.2.b i (WN_get _ i (by rw [PL.out]; omega))
      rw [PX.out] at A2
      refine hK.out _ _ (A2) ?_
      clear hK K
      refine planT_nil ?_
      obtain ⟨w8, hw8⟩ : ∃ w8, w8 = (wr.setCell ⟨M, i + 1, none⟩ (.int .u64 ((y + x / 67108864 : Nat) : Int))).drew := ⟨_, rfl⟩
      rw [← hw8] at S8 A2 ⊢
      clear hw8 a2 f2 e0 e2 e3
      have f1 := row_free S8.out.2.2.b i
      have e1 := mask26 x (by omega)
      go_wp2_with fail
      go_roundw
      case rel =>
        refine ⟨i + 1, by omega, by go_num, ?_⟩
        have := HM.out
        rw [show (x : Int) % 67108864 = ((x % 67108864 : Nat) : Int) by omega]
        rw [leastK, ← QQ.out, ← X'.out, ← Y.out, ← PP.out]
        exact ⟨S8.out.1.other (by omega) (by omega) _ _, S8.out.2.1.other (by omega) (by omega) _ _, S8.out.2.2.set _ _⟩
      case measure => simp [intOf]; omega
    · have hi : Hid (i = 4) := show i = 4 by have := I.out; omega
      have hD : decide ((i : Int) < 4) = false := by simp; omega
      obtain ⟨q, hq⟩ : ∃ q, q = leastK m 4 := ⟨_, rfl⟩
      have S8 := Lib.hid (show NW w w.heap.size t2 wr ∧ NW w (w.heap.size + 1) Z5 wr ∧ NW w M q wr by have := S7.out; rw [hi.out, ← hq] at this; exact this)
      have QL := Lib.hid (show q.length = 5 by rw [hq, leastK_length, ML.out])
      have QB := Lib.hid (show Bd 134217800 q by rw [hq]; exact MB.out 4 (by omega))
      obtain ⟨y, hy⟩ : ∃ y, y = q.getD 4 0 := ⟨_, rfl⟩
      have hyb : y ≤ 134217800 := by rw [hy]; exact QB.out 4
      have LF := Lib.hid (show leastL n = if y / 67108864 = 0 then t2 else q.set 4 (y % 67108864) by rw [LE.out, ← MM.out, ← hq, ← hy])
      have a1 := row_cell S8.out.2.2.b 4 (WN_get _ 4 (by rw [QL.out]; omega))
      have f1 := row_free S8.out.2.2.b 4
      rw [← hy] at a1
      have e1 := mask26 y (by omega)
      clear hq hy S7
      by_cases hc : y / 67108864 = 0
      · have hE : ((y : Int) / 67108864 == 0) = true := by simp; omega
        go_wp2_with (first
          | (refine wpList_load_row rfl 60 (.tmp 1) rfl w.heap.size rfl 60 (WN t2) (0, 0) _ S8.out.1.b Try.underlying60 rfl (info_num L2.out) ?_)
          | (refine wpList_store_whole rfl rfl 60 (.tmp 2) (.tmp 36) rfl (w.heap.size + 1) (WN t2) rfl rfl 60 _ S8.out.2.1.b (info_num L2.out) (by rw [WN_size, WN_size, L2.out]; rfl) (WN_one _) ?_; intro w8 hz8 hg8 _))
        exact bodyPost_ret (results_cell_row rfl _ _ (w.heap.size + 1) 60 (WN t2) (0, 0) _ rfl hz8 Try.underlying60 rfl (info_num L2.out)) rfl ⟨by rw [LF.out, if_pos hc], ret_number S8.out.2.1 hg8⟩
      · have hE : ((y : Int) / 67108864 == 0) = false := by simp; omega
        go_upto_region 13 with fail
        clear a1 f1 e1 hE
        rw [show (y : Int) % 67108864 = ((y % 67108864 : Nat) : Int) by omega]
        obtain ⟨p, hp⟩ : ∃ p, p = q.set 4 (y % 67108864) := ⟨_, rfl⟩
        obtain ⟨w9, hw9⟩ : ∃ w9, w9 = wr.setCell ⟨M, 4, none⟩ (.int .u64 ((y % 67108864 : Nat) : Int)) := ⟨_, rfl⟩
        have S9 := Lib.hid (show NW w (w.heap.size + 1) Z5 w9 ∧ NW w M p w9 by
          have := HM.out
          rw [hw9, hp]
          exact ⟨S8.out.2.1.other (by omega) (by omega) _ _, S8.out.2.2.set _ _⟩)
        rw [← hw9]
        have PL := Lib.hid (show p.length = 5 by rw [hp, List.length_set, QL.out])
        have PP := Lib.hid hp
        clear hw9 hp S8
        go_wp2_with (first
          | (refine wpList_load_row rfl 60 (.tmp 3) rfl M rfl 60 (WN p) (0, 0) _ S9.out.2.b Try.underlying60 rfl (info_num PL.out) ?_)
          | (refine wpList_store_whole rfl rfl 60 (.tmp 2) (.tmp 41) rfl (w.heap.size + 1) (WN p) rfl rfl 60 _ S9.out.1.b (info_num PL.out) (by rw [WN_size, WN_size, PL.out]; rfl) (WN_one _) ?_; intro w8 hz8 hg8 _))
        exact bodyPost_ret (results_cell_row rfl _ _ (w.heap.size + 1) 60 (WN p) (0, 0) _ rfl hz8 Try.underlying60 rfl (info_num PL.out)) rfl ⟨by rw [LF.out, if_neg hc, PP.out], ret_number S9.out.1 hg8⟩
end Go.Proofs.Ytdheopihcohciaa
