/- Numbers in limbs: a product, and the least one. No condition but those each theorem states. -/
import Derived.Test.YtdheopihcohciaaPolyW
namespace Go.Proofs.Ytdheopihcohciaa
set_option linter.unusedVariables false
set_option linter.unusedSimpArgs false
open Go.RowKit
attribute [local go_sem ↓] Go.wp_at_zero Go.wp_at_succ

theorem carryL_bd (n : List Nat) (hn : n.length = 5) (h : Bd 4611686018427387904 n) : Bd 4611686018427387904 (carryL n) := by
  obtain ⟨b0, b1, b2, b3, b4, c4, e, h0, h1, h2, h3, h4, hc⟩ := carryL_once n hn h
  rw [e]
  intro j
  rcases j with _ | _ | _ | _ | _ | j <;> simp <;> omega
/-- What stands while a product is made. -/
structure TmW (w : World) (n r acc : List Nat) (W : World) : Prop where
  bn : NW w w.heap.size n W
  br : NW w (w.heap.size + 1) r W
  bz : NW w (w.heap.size + 1 + 1) Z5 W
  ba : NW w (w.heap.size + 1 + 1 + 1) acc W
theorem TmW.set {w W : World} {n r acc : List Nat} (h : TmW w n r acc W) (i x : Nat) : TmW w n r (acc.set i x) (W.setCell ⟨w.heap.size + 1 + 1 + 1, i, none⟩ (.int .u64 (x : Int))).drew where
  bn := (h.bn.other (by omega) (by omega) _ _).drew
  br := (h.br.other (by omega) (by omega) _ _).drew
  bz := (h.bz.other (by omega) (by omega) _ _).drew
  ba := (h.ba.set i x).drew
set_option maxRecDepth 100000 in
set_option maxHeartbeats 2000000 in
theorem ntimes_any (n r : List Nat) (hn : n.length = 5) (hr : r.length = 5) (bn : Bd 268435456 n) (br : Bd 67108864 r) (w : World) :
    Calls Try.prog 32 #[.agg (WN n), .agg (WN r)] w fun e w' => e = .returned (.agg (WN (timesL n r))) ∧ Below w.heap.size w w' := by
  have HN := Lib.hid hn
  have HR := Lib.hid hr
  have BN := Lib.hid bn
  have BR := Lib.hid br
  have Z5' := Lib.hid zero5
  clear hn hr bn br
  go_enter Try.func32, Try.ntmps32
  go_wp2_with fail
  rw [← Z5'.out]
  obtain ⟨w1, hw1⟩ : ∃ w1, w1 = (((w.alloc (.cells (WN n) 60)).alloc (.cells (WN r) 60)).alloc (.cells (WN Z5) 60)).alloc (.cells (WN Z5) 60) := ⟨_, rfl⟩
  have S1 := Lib.hid (show TmW w n r (timesT n r 0) w1 by
    have hb : Below w.heap.size w w1 := by rw [hw1]; exact ((((Below.refl _ _).alloc (Nat.le_refl _) _).alloc (by simp) _).alloc (by simp <;> omega) _).alloc (by simp <;> omega) _
    rw [hw1] at hb ⊢
    exact ⟨⟨ha_old _ _ _ (by simp <;> omega) (ha_old _ _ _ (by simp <;> omega) (ha_old _ _ _ (by simp) (ha_new _ _ _ rfl))), by omega, hb⟩, ⟨ha_old _ _ _ (by simp <;> omega) (ha_old _ _ _ (by simp) (ha_new _ _ _ (by simp))), by omega, hb⟩, ⟨ha_old _ _ _ (by simp) (ha_new _ _ _ (by simp)), by omega, hb⟩, ⟨ha_new _ _ _ (by simp), by omega, hb⟩⟩)
  rw [← hw1]
  clear hw1
  go_loopw [8] (fun u wr => ∃ i : Nat, i ≤ 5 ∧ u = .int .i64 (i : Int) ∧ TmW w n r (timesT n r i) wr) (fun u _ => 5 - (intOf u).toNat)
  case atStart => exact ⟨0, by omega, rfl, S1.out⟩
  case round =>
    obtain ⟨i, hi, rfl, hs⟩ := hrel
    have I := Lib.hid hi
    have S2 := Lib.hid hs
    clear hi hs S1
    by_cases hlt : i < 5
    · have hD : decide ((i : Int) < 5) = true := by simp; omega
      obtain ⟨wo, rfl⟩ : ∃ wo : World, wo = wr := ⟨_, rfl⟩
      go_wp2_with fail
      go_loopw [11] (fun u wr => ∃ k : Nat, k ≤ 5 ∧ u = .int .i64 (k : Int) ∧ TmW w n r (rowT n r (timesT n r i) i k) wr) (fun u _ => 5 - (intOf u).toNat)
      case atStart => exact ⟨0, by omega, rfl, S2.out⟩
      case round =>
        obtain ⟨k, hk, rfl, hs⟩ := hrel
        have KK := Lib.hid hk
        have S3 := Lib.hid hs
        clear hk hs S2
        by_cases hlk : k < 5
        · have hE : decide ((k : Int) < 5) = true := by simp; omega
          obtain ⟨acc, hacc⟩ : ∃ acc, acc = rowT n r (timesT n r i) i k := ⟨_, rfl⟩
          rw [← hacc] at S3
          have AA := Lib.hid hacc
          have AL := Lib.hid (show acc.length = 5 by rw [hacc, rowT_length, timesT_length])
          have AB := Lib.hid (show Bd 4611686018427387904 acc by rw [hacc]; exact (rowT_bd BN.out BR.out (timesT_bd BN.out BR.out i) i k).mono (by omega))
          obtain ⟨x, hx⟩ : ∃ x, x = n.getD i 0 := ⟨_, rfl⟩
          obtain ⟨y, hy⟩ : ∃ y, y = r.getD k 0 := ⟨_, rfl⟩
          have hp := prod_bd BN.out BR.out i k
          rw [← hx, ← hy] at hp
          have a1 := row_cell S3.out.bn.b i (WN_get _ i (by rw [HN.out]; exact hlt))
          have a2 := row_cell S3.out.br.b k (WN_get _ k (by rw [HR.out]; exact hlk))
          rw [← hx] at a1
          rw [← hy] at a2
          have hxb : x ≤ 268435456 := by rw [hx]; exact BN.out i
          have X := Lib.hid hx
          have Y := Lib.hid hy
          have A12 := Lib.hid (And.intro a1 a2)
          have b1 : (i : Int) < 5 := by omega
          have b2 : (k : Int) < 5 := by omega
          have e0 := wrap_i64' ((i : Int) + (k : Int)) (by omega)
          have b0 : (0 : Int) ≤ (i : Int) + (k : Int) := by omega
          have e1 := wrap_u64_mul x y (by omega)
          rw [Int.natCast_mul] at e1
          clear hacc hx hy
          by_cases h5 : i + k < 5
          · have hF : decide ((i : Int) + (k : Int) < 5) = true := by simp; omega
            have b3 : (i : Int) + (k : Int) < 5 := by omega
            have e3 : ((i : Int) + (k : Int)).toNat = i + k := by omega
            obtain ⟨o, ho⟩ : ∃ o, o = acc.getD (i + k) 0 := ⟨_, rfl⟩
            have a3 := row_cell S3.out.ba.b (i + k) (WN_get _ (i + k) (by rw [AL.out]; exact h5))
            have f3 := row_free S3.out.ba.b (i + k)
            rw [← ho] at a3
            have e2 := wrap_u64 (o + x * y) (by have := AB.out (i + k); omega)
            rw [Int.natCast_add, Int.natCast_mul] at e2
            have O := Lib.hid ho
            clear ho a1 a2
            go_upto_region 9 with fail
            refine wp_region_plan (fun W => W.cell? ⟨w.heap.size, i, none⟩ = some (.int .u64 (x : Int)) ∧ W.cell? ⟨w.heap.size + 1, k, none⟩ = some (.int .u64 (y : Int))) [0, 1, 2, 3, 5, 6, 7, 8, 9, 10, 11] [4, 12, 13, 14] (by kernel_rfl) (by kernel_rfl) (fun _ _ d _ _ h => by cases d <;> exact h) (A12.out) ?_
            simp only [List.filterMap_cons, List.filterMap_nil, List.getElem?_toArray, List.getElem?_cons_zero, List.getElem?_cons_succ]
            refine planQ_cons (v := ?_) (by rfl) ?_ ?_
            rotate_left
            · intro W hW
              go_simp
              with_reducible rfl
            simp only [Act.put, List.setIfInBounds_toArray, List.set_cons_zero, List.set_cons_succ]
            refine planQ_cons (v := ?_) (by rfl) ?_ ?_
            rotate_left
            · intro W hW
              go_simp
              with_reducible rfl
            simp only [Act.put, List.setIfInBounds_toArray, List.set_cons_zero, List.set_cons_succ]
            refine planQ_cons (v := ?_) (by rfl) ?_ ?_
            rotate_left
            · intro W hW
              go_simp
              with_reducible rfl
            simp only [Act.put, List.setIfInBounds_toArray, List.set_cons_zero, List.set_cons_succ]
            refine planQ_cons (v := ?_) (by rfl) ?_ ?_
            rotate_left
            · intro W hW
              go_simp
              with_reducible rfl
            simp only [Act.put, List.setIfInBounds_toArray, List.set_cons_zero, List.set_cons_succ]
            refine planQ_cons (v := ?_) (by rfl) ?_ ?_
            rotate_left
            · intro W hW
              go_simp
              with_reducible rfl
            simp only [Act.put, List.setIfInBounds_toArray, List.set_cons_zero, List.set_cons_succ]
            refine planQ_cons (v := ?_) (by rfl) ?_ ?_
            rotate_left
            · intro W hW
              go_simp
              with_reducible rfl
            simp only [Act.put, List.setIfInBounds_toArray, List.set_cons_zero, List.set_cons_succ]
            refine planQ_cons (by rfl) (fun W hW => run_cell 58 (.tmp 24) rfl _ Try.underlying58 rfl rfl hW.1) ?_
            simp only [Act.put, List.setIfInBounds_toArray, List.set_cons_zero, List.set_cons_succ]
            refine planQ_cons (v := ?_) (by rfl) ?_ ?_
            rotate_left
            · intro W hW
              go_simp
              with_reducible rfl
            simp only [Act.put, List.setIfInBounds_toArray, List.set_cons_zero, List.set_cons_succ]
            refine planQ_cons (v := ?_) (by rfl) ?_ ?_
            rotate_left
            · intro W hW
              go_simp
              with_reducible rfl
            simp only [Act.put, List.setIfInBounds_toArray, List.set_cons_zero, List.set_cons_succ]
            refine planQ_cons (by rfl) (fun W hW => run_cell 58 (.tmp 27) rfl _ Try.underlying58 rfl rfl hW.2) ?_
            simp only [Act.put, List.setIfInBounds_toArray, List.set_cons_zero, List.set_cons_succ]
            refine planQ_cons (v := ?_) (by rfl) ?_ ?_
            rotate_left
            · intro W hW
              go_simp
              with_reducible rfl
            simp only [Act.put, List.setIfInBounds_toArray, List.set_cons_zero, List.set_cons_succ]
            refine planQ_nil ?_
            refine planT_val (by rfl) (A12.out) (run_cell 58 (.tmp 21) rfl _ Try.underlying58 rfl rfl a3) ?_
            simp only [Act.put, List.setIfInBounds_toArray, List.set_cons_zero, List.set_cons_succ]
            refine planT_val (v := ?_) (by rfl) (A12.out) ?_ ?_
            rotate_left
            · go_simp
              with_reducible rfl
            simp only [Act.put, List.setIfInBounds_toArray, List.set_cons_zero, List.set_cons_succ]
            refine planT_val (v := ?_) (by rfl) (A12.out) ?_ ?_
            rotate_left
            · go_simp
              with_reducible rfl
            simp only [Act.put, List.setIfInBounds_toArray, List.set_cons_zero, List.set_cons_succ]
            refine planT_cons (by rfl) (fun K hK => ?_)
            go_simp
            rw [show (o : Int) + (x : Int) * (y : Int) = ((o + x * y : Nat) : Int) by rw [Int.natCast_add, Int.natCast_mul]]
            have S4 := Lib.hid (S3.out.set (i + k) (o + x * y))
            refine hK.out _ _ (⟨(row_cell S4.out.bn.b i (WN_get _ i (by rw [HN.out]; exact hlt))).trans (by rw [X.out]), (row_cell S4.out.br.b k (WN_get _ k (by rw [HR.out]; exact hlk))).trans (by rw [Y.out])⟩) ?_
            clear hK K
            refine planT_nil ?_
            clear a3 f3 e0 e1 e2 e3
            go_wp2_with fail
            go_roundw
            case rel =>
              refine ⟨k + 1, by omega, by go_num, ?_⟩
              rw [rowT, stepT, if_pos h5, ← AA.out, ← O.out, ← X.out, ← Y.out]
              exact S4.out
            case measure => simp [intOf]; omega
          · have hF : decide ((i : Int) + (k : Int) < 5) = false := by simp; omega
            have b3 : (i : Int) + (k : Int) - 5 < 5 := by omega
            have b4 : (0 : Int) ≤ (i : Int) + (k : Int) - 5 := by omega
            have b5 : (5 : Int) ≤ (i : Int) + (k : Int) := by omega
            have e3 : ((i : Int) + (k : Int) - 5).toNat = i + k - 5 := by omega
            have e4 := wrap_i64' ((i : Int) + (k : Int) - 5) (by omega)
            obtain ⟨o, ho⟩ : ∃ o, o = acc.getD (i + k - 5) 0 := ⟨_, rfl⟩
            have a3 := row_cell S3.out.ba.b (i + k - 5) (WN_get _ (i + k - 5) (by rw [AL.out]; omega))
            have f3 := row_free S3.out.ba.b (i + k - 5)
            rw [← ho] at a3
            have e2 := wrap_u64 (o + 5 * x * y) (by have := AB.out (i + k - 5); omega)
            rw [Int.natCast_add, Int.natCast_mul, Int.natCast_mul] at e2
            have e5 := wrap_u64 (5 * x * y) (by omega)
            rw [Int.natCast_mul, Int.natCast_mul] at e5
            have e6 := wrap_u64 (5 * x) (by omega)
            rw [Int.natCast_mul] at e6
            have c5 : ((5 : Nat) : Int) = 5 := rfl
            rw [c5] at e2 e5 e6
            have O := Lib.hid ho
            clear ho a1 a2 c5
            go_upto_region 10 with fail
            refine wp_region_plan (fun W => W.cell? ⟨w.heap.size, i, none⟩ = some (.int .u64 (x : Int)) ∧ W.cell? ⟨w.heap.size + 1, k, none⟩ = some (.int .u64 (y : Int))) [0, 1, 2, 3, 4, 6, 7, 8, 9, 10, 11, 12, 13] [5, 14, 15, 16] (by kernel_rfl) (by kernel_rfl) (fun _ _ d _ _ h => by cases d <;> exact h) (A12.out) ?_
            simp only [List.filterMap_cons, List.filterMap_nil, List.getElem?_toArray, List.getElem?_cons_zero, List.getElem?_cons_succ]
            refine planQ_cons (v := ?_) (by rfl) ?_ ?_
            rotate_left
            · intro W hW
              go_simp
              with_reducible rfl
            simp only [Act.put, List.setIfInBounds_toArray, List.set_cons_zero, List.set_cons_succ]
            refine planQ_cons (v := ?_) (by rfl) ?_ ?_
            rotate_left
            · intro W hW
              go_simp
              with_reducible rfl
            simp only [Act.put, List.setIfInBounds_toArray, List.set_cons_zero, List.set_cons_succ]
            refine planQ_cons (v := ?_) (by rfl) ?_ ?_
            rotate_left
            · intro W hW
              go_simp
              with_reducible rfl
            simp only [Act.put, List.setIfInBounds_toArray, List.set_cons_zero, List.set_cons_succ]
            refine planQ_cons (v := ?_) (by rfl) ?_ ?_
            rotate_left
            · intro W hW
              go_simp
              with_reducible rfl
            simp only [Act.put, List.setIfInBounds_toArray, List.set_cons_zero, List.set_cons_succ]
            refine planQ_cons (v := ?_) (by rfl) ?_ ?_
            rotate_left
            · intro W hW
              go_simp
              with_reducible rfl
            simp only [Act.put, List.setIfInBounds_toArray, List.set_cons_zero, List.set_cons_succ]
            refine planQ_cons (v := ?_) (by rfl) ?_ ?_
            rotate_left
            · intro W hW
              go_simp
              with_reducible rfl
            simp only [Act.put, List.setIfInBounds_toArray, List.set_cons_zero, List.set_cons_succ]
            refine planQ_cons (v := ?_) (by rfl) ?_ ?_
            rotate_left
            · intro W hW
              go_simp
              with_reducible rfl
            simp only [Act.put, List.setIfInBounds_toArray, List.set_cons_zero, List.set_cons_succ]
            refine planQ_cons (by rfl) (fun W hW => run_cell 58 (.tmp 39) rfl _ Try.underlying58 rfl rfl hW.1) ?_
            simp only [Act.put, List.setIfInBounds_toArray, List.set_cons_zero, List.set_cons_succ]
            refine planQ_cons (v := ?_) (by rfl) ?_ ?_
            rotate_left
            · intro W hW
              go_simp
              with_reducible rfl
            simp only [Act.put, List.setIfInBounds_toArray, List.set_cons_zero, List.set_cons_succ]
            refine planQ_cons (v := ?_) (by rfl) ?_ ?_
            rotate_left
            · intro W hW
              go_simp
              with_reducible rfl
            simp only [Act.put, List.setIfInBounds_toArray, List.set_cons_zero, List.set_cons_succ]
            refine planQ_cons (v := ?_) (by rfl) ?_ ?_
            rotate_left
            · intro W hW
              go_simp
              with_reducible rfl
            simp only [Act.put, List.setIfInBounds_toArray, List.set_cons_zero, List.set_cons_succ]
            refine planQ_cons (by rfl) (fun W hW => run_cell 58 (.tmp 43) rfl _ Try.underlying58 rfl rfl hW.2) ?_
            simp only [Act.put, List.setIfInBounds_toArray, List.set_cons_zero, List.set_cons_succ]
            refine planQ_cons (v := ?_) (by rfl) ?_ ?_
            rotate_left
            · intro W hW
              go_simp
              with_reducible rfl
            simp only [Act.put, List.setIfInBounds_toArray, List.set_cons_zero, List.set_cons_succ]
            refine planQ_nil ?_
            refine planT_val (by rfl) (A12.out) (run_cell 58 (.tmp 36) rfl _ Try.underlying58 rfl rfl a3) ?_
            simp only [Act.put, List.setIfInBounds_toArray, List.set_cons_zero, List.set_cons_succ]
            refine planT_val (v := ?_) (by rfl) (A12.out) ?_ ?_
            rotate_left
            · go_simp
              with_reducible rfl
            simp only [Act.put, List.setIfInBounds_toArray, List.set_cons_zero, List.set_cons_succ]
            refine planT_val (v := ?_) (by rfl) (A12.out) ?_ ?_
            rotate_left
            · go_simp
              with_reducible rfl
            simp only [Act.put, List.setIfInBounds_toArray, List.set_cons_zero, List.set_cons_succ]
            refine planT_cons (by rfl) (fun K hK => ?_)
            go_simp
            rw [show (o : Int) + 5 * (x : Int) * (y : Int) = ((o + 5 * x * y : Nat) : Int) by rw [Int.natCast_add, Int.natCast_mul, Int.natCast_mul]; rfl]
            have S4 := Lib.hid (S3.out.set (i + k - 5) (o + 5 * x * y))
            refine hK.out _ _ (⟨(row_cell S4.out.bn.b i (WN_get _ i (by rw [HN.out]; exact hlt))).trans (by rw [X.out]), (row_cell S4.out.br.b k (WN_get _ k (by rw [HR.out]; exact hlk))).trans (by rw [Y.out])⟩) ?_
            clear hK K
            refine planT_nil ?_
            clear a3 f3 e0 e1 e2 e3 e4 e5 e6
            go_wp2_with fail
            go_roundw
            case rel =>
              refine ⟨k + 1, by omega, by go_num, ?_⟩
              rw [rowT, stepT, if_neg h5, ← AA.out, ← O.out, ← X.out, ← Y.out]
              exact S4.out
            case measure => simp [intOf]; omega
        · have hk5 : Hid (k = 5) := show k = 5 by have := KK.out; omega
          have hE : decide ((k : Int) < 5) = false := by simp; omega
          go_wp2_with fail
          go_roundw
          case rel =>
            refine ⟨i + 1, by omega, by go_num, ?_⟩
            rw [timesT, ← hk5.out]
            exact S3.out
          case measure => simp [intOf]; omega
    · have hi : Hid (i = 5) := show i = 5 by have := I.out; omega
      have hD : decide ((i : Int) < 5) = false := by simp; omega
      have L1 := Lib.hid (timesT_bd BN.out BR.out 5)
      obtain ⟨t, ht⟩ : ∃ t, t = timesT n r i := ⟨_, rfl⟩
      rw [← ht] at S2
      have TT := Lib.hid (show t = timesT n r 5 by rw [ht, hi.out])
      have TL := Lib.hid (show t.length = 5 by rw [ht, timesT_length])
      have TB := Lib.hid (show Bd 4611686018427387904 t by rw [TT.out]; exact L1.out.mono (by omega))
      have Z := Lib.hid (show (Try.prog.info? 60).map (·.size) = some (WN t).size by rw [WN_size, TL.out]; kernel_rfl)
      clear ht
      go_wp2_with (refine wpList_load_row rfl 60 (.tmp 5) rfl (w.heap.size + 1 + 1 + 1) rfl 60 (WN t) (0, 0) _ S2.out.ba.b Try.underlying60 rfl Z.out ?_)
      refine (ncarry_any t TL.out TB.out _).mono ?_
      rintro e w2 ⟨rfl, hb2⟩
      have B2 := Lib.hid hb2
      clear hb2
      obtain ⟨t2, ht2⟩ : ∃ t2, t2 = carryL t := ⟨_, rfl⟩
      rw [← ht2]
      have TL2 := Lib.hid (show t2.length = 5 by rw [ht2, carryL_length, TL.out])
      have TB2 := Lib.hid (show Bd 4611686018427387904 t2 by rw [ht2]; exact carryL_bd t TL.out TB.out)
      have TT2 := Lib.hid ht2
      clear ht2
      go_wp2_with fail
      refine (ncarry_any t2 TL2.out TB2.out _).mono ?_
      rintro e w3 ⟨rfl, hb3⟩
      have B3 := Lib.hid (B2.out.trans (hb3.mono B2.out.size))
      clear hb3
      obtain ⟨L, hL⟩ : ∃ L, L = carryL t2 := ⟨_, rfl⟩
      rw [← hL]
      have L3 := Lib.hid (show L.length = 5 by rw [hL, carryL_length, TL2.out])
      have HLL := Lib.hid (show L = timesL n r by rw [hL, TT2.out, TT.out, timesL])
      have Z2 := Lib.hid (show (Try.prog.info? 60).map (·.size) = some (WN L).size by rw [WN_size, L3.out]; kernel_rfl)
      have S3 := Lib.hid (S2.out.bz.keep B3.out)
      clear hL
      go_wp2_with (refine wpList_store_whole rfl rfl 60 (.tmp 4) (.tmp 52) rfl (w.heap.size + 1 + 1) (WN L) rfl rfl 60 _ S3.out.b Z2.out (by rw [WN_size, WN_size, L3.out]; rfl) (WN_one _) ?_; intro w8 hz8 hg8 _)
      exact bodyPost_ret (results_cell_row rfl _ _ (w.heap.size + 1 + 1) 60 (WN L) (0, 0) _ rfl hz8 Try.underlying60 rfl Z2.out) rfl ⟨by rw [HLL.out], ret_number S3.out hg8⟩
/-! ### the least one -/
def leastK (m : List Nat) : Nat → List Nat
  | 0 => m
  | i + 1 => ((leastK m i).set (i + 1) ((leastK m i).getD (i + 1) 0 + (leastK m i).getD i 0 / 67108864)).set i ((leastK m i).getD i 0 % 67108864)
theorem leastK_length (n : List Nat) (i : Nat) : (leastK n i).length = n.length := by
  induction i with
  | zero => rfl
  | succ i ih => simp [leastK, ih]
def limbsN (x : Nat) : List Nat := [x % 67108864, x / 67108864 % 67108864, x / 4503599627370496 % 67108864, x / 302231454903657293676544 % 67108864, x / 20282409603651670423947251286016 % 67108864]
theorem limbs_val (b0 b1 b2 b3 b4 : Nat) (h0 : b0 < 67108864) (h1 : b1 < 67108864) (h2 : b2 < 67108864) (h3 : b3 < 67108864) (h4 : b4 < 67108864) : [b0, b1, b2, b3, b4] = limbsN (valN [b0, b1, b2, b3, b4]) := by
  simp only [limbsN, valN, List.getD_cons_zero, List.getD_cons_succ]
  congr 1
  · omega
  congr 1
  · omega
  congr 1
  · omega
  congr 1
  · omega
  congr 1
  omega
theorem limbs_lt (b0 b1 b2 b3 b4 : Nat) (h0 : b0 < 67108864) (h1 : b1 < 67108864) (h2 : b2 < 67108864) (h3 : b3 < 67108864) (h4 : b4 < 67108864) : valN [b0, b1, b2, b3, b4] < 1361129467683753853853498429727072845824 := by
  simp only [valN, List.getD_cons_zero, List.getD_cons_succ]
  omega
/-- What 'least' has after the loop, of small limbs. -/
theorem leastK_form (b0 b1 b2 b3 b4 : Nat) (h0 : b0 < 67108864) (h1 : b1 < 67108864) (h2 : b2 < 67108864) (h3 : b3 < 67108864) (h4 : b4 < 67108864) :
    ∃ c0 c1 c2 c3 c4, leastK [b0 + 5, b1, b2, b3, b4] 4 = [c0, c1, c2, c3, c4] ∧ c0 < 67108864 ∧ c1 < 67108864 ∧ c2 < 67108864 ∧ c3 < 67108864 ∧ c4 ≤ 67108864 ∧ valN [c0, c1, c2, c3, c4] = valN [b0, b1, b2, b3, b4] + 5 := by
  refine ⟨(b0 + 5) % 67108864, (b1 + (b0 + 5) / 67108864) % 67108864, (b2 + (b1 + (b0 + 5) / 67108864) / 67108864) % 67108864, (b3 + (b2 + (b1 + (b0 + 5) / 67108864) / 67108864) / 67108864) % 67108864, b4 + (b3 + (b2 + (b1 + (b0 + 5) / 67108864) / 67108864) / 67108864) / 67108864, rfl, ?_⟩
  obtain ⟨d0, hd0⟩ : ∃ d, d = (b0 + 5) / 67108864 := ⟨_, rfl⟩
  rw [← hd0]
  obtain ⟨d1, hd1⟩ : ∃ d, d = (b1 + d0) / 67108864 := ⟨_, rfl⟩
  rw [← hd1]
  obtain ⟨d2, hd2⟩ : ∃ d, d = (b2 + d1) / 67108864 := ⟨_, rfl⟩
  rw [← hd2]
  obtain ⟨d3, hd3⟩ : ∃ d, d = (b3 + d2) / 67108864 := ⟨_, rfl⟩
  rw [← hd3]
  refine ⟨by omega, by omega, by omega, by omega, by omega, ?_⟩
  simp only [valN, List.getD_cons_zero, List.getD_cons_succ]
  omega
def leastL (n : List Nat) : List Nat :=
  let a := carryL (carryL n)
  let m := leastK (a.set 0 (a.getD 0 0 + 5)) 4
  if m.getD 4 0 / 67108864 = 0 then a else m.set 4 (m.getD 4 0 % 67108864)
theorem leastL_all (n : List Nat) (hn : n.length = 5) (h : Bd 67108868 n) : leastL n = limbsN (valN n % PN) := by
  have hv : valN (carryL (carryL n)) % PN = valN n % PN := by rw [carryL_mod _ (by rw [carryL_length]; exact hn), carryL_mod _ hn]
  obtain ⟨b0, b1, b2, b3, b4, e, h0, h1, h2, h3, h4⟩ := carryL_small n hn h
  obtain ⟨c0, c1, c2, c3, c4, e2, g0, g1, g2, g3, g4, gv⟩ := leastK_form b0 b1 b2 b3 b4 h0 h1 h2 h3 h4
  have hlt := limbs_lt b0 b1 b2 b3 b4 h0 h1 h2 h3 h4
  rw [e] at hv
  unfold leastL
  rw [e]
  have e3 : leastK ([b0, b1, b2, b3, b4].set 0 ([b0, b1, b2, b3, b4].getD 0 0 + 5)) 4 = [c0, c1, c2, c3, c4] := e2
  dsimp only
  rw [e3]
  simp only [List.getD_cons_zero, List.getD_cons_succ]
  obtain ⟨X, hX⟩ : ∃ X, X = valN [b0, b1, b2, b3, b4] := ⟨_, rfl⟩
  rw [← hX] at hlt gv hv
  rw [← hv]
  by_cases hc : c4 / 67108864 = 0
  · rw [if_pos hc]
    have : X < PN := by
      have := limbs_lt c0 c1 c2 c3 c4 g0 g1 g2 g3 (by omega)
      unfold PN
      omega
    rw [Nat.mod_eq_of_lt this, hX]
    exact limbs_val b0 b1 b2 b3 b4 h0 h1 h2 h3 h4
  · rw [if_neg hc]
    have hc4 : c4 = 67108864 := by omega
    subst hc4
    have hX2 : valN [c0, c1, c2, c3, 0] = X - PN ∧ PN ≤ X := by
      simp only [valN, List.getD_cons_zero, List.getD_cons_succ] at gv ⊢
      unfold PN
      omega
    have : X % PN = X - PN := by
      rw [Nat.mod_eq_sub_mod hX2.2, Nat.mod_eq_of_lt (by unfold PN; omega)]
    rw [this, ← hX2.1]
    exact limbs_val c0 c1 c2 c3 0 g0 g1 g2 g3 (by omega)
end Go.Proofs.Ytdheopihcohciaa
