/- The document's sum. -/
import Derived.Test.YtphpcegifdiofaaRefShaB
import Derived.Test.YtphpcegifdiofaaRefShaP
import Derived.Test.YtphpcegifdiofaaShaSum
namespace Go.Proofs.Ytphpcegifdiofaa
set_option linter.unusedVariables false
set_option linter.unusedSimpArgs false
open Go.RowKit
attribute [local go_sem ↓] Go.wp_at_zero Go.wp_at_succ

theorem strB_extract (l : List UInt8) (i j : Nat) : (strB l).extract i j = strB ((l.drop i).take (j - i)) := by
  apply ByteArray.ext
  rw [ByteArray.data_extract]
  simp [strB, List.extract_eq_take_drop]
theorem run_str_mid {P : Program} {o : Oper} {a : Act} (t : TypeId) (x y z : Operand) (ho : o.op = .slice t x (some y) (some z) none) (hu : P.underlying t = some .string) (l : List UInt8) (i j : Nat) (hij : i ≤ j) (hj : j ≤ l.length)
    (hx : a.eval x = .string (strB l)) (k k' : IntKind) (zi zj : Int) (hzi : zi = (i : Int)) (hzj : zj = (j : Int)) (hy : a.eval y = .int k zi) (hz : a.eval z = .int k' zj) (W : World) : (execOp a.eval o).run P W = .ok (.value (.string (strB ((l.drop i).take (j - i))))) W := by
  subst hzi hzj
  have h := run_slice_string (P := P) W t (strB l) k k' (i : Int) (j : Int) hu (by omega) (by omega) (by rw [strB_size]; omega)
  have h2 := run_sliceAt_string (P := P) (w := W) t (.string (strB l)) (some (.int k (i : Int))) (some (.int k' (j : Int))) none hu
  unfold execOp
  simp only [ho, hx, hy, hz, Option.map_some, Option.map_none, Sem.run_bind, Sem.run_pure, h2, h, Result.andThen_ok, Int.toNat_natCast, strB_extract]
/-- The words after some blocks. -/
def wordsK (p : List UInt8) (k : Nat) : List UInt32 := (putsB startH (p.take (64 * k))).s
theorem wordsK_zero (p : List UInt8) : wordsK p 0 = beginL := by simp [wordsK, putsB, startH]
theorem wordsK_succ (p : List UInt8) (k : Nat) (h : 64 * (k + 1) ≤ p.length) : wordsK p (k + 1) = takeL (wordsK p k) ((p.drop (64 * k)).take 64) := by
  unfold wordsK
  rw [show 64 * (k + 1) = 64 * k + 64 by omega, List.take_add, putsB_append, putsB_block _ (putsB_ok startH_ok _) _ (by rw [putsB_n, List.length_take]; simp [startH]; omega) (by rw [List.length_take, List.length_drop]; omega)]
theorem wordsK_length (p : List UInt8) (k : Nat) : (wordsK p k).length = 8 := (putsB_ok startH_ok _).hs
theorem wordsK_all (l : List UInt8) (k : Nat) (h : 64 * k = (padL l).length) : outL (wordsK (padL l) k) = hashL l := by
  unfold wordsK
  rw [h, List.take_length, padL, putsB_append]
  unfold hashL sumH
  rw [putsB_n]
  simp [startH]
/-- The call's own: the answer, the words. -/
structure RmW (w : World) (h : List UInt32) (W : World) : Prop where
  bo : W.heap[w.heap.size]? = some (.cells (W8 (List.replicate 32 0)) 29 (0, 0))
  bh : W.heap[w.heap.size + 1]? = some (.cells (W32 h) 52 (0, 0))
  bel : Below w.heap.size w W
theorem RmW.keep {w W W' : World} {h : List UInt32} (k : RmW w h W) (hb : Below W.heap.size W W') : RmW w h W' where
  bo := below_block hb (row_lt k.bo) k.bo
  bh := below_block hb (row_lt k.bh) k.bh
  bel := k.bel.trans (hb.mono k.bel.size)
theorem RmW.seth {w W W' : World} {h h' : List UInt32} (k : RmW w h W) (hb : W'.heap[w.heap.size + 1]? = some (.cells (W32 h') 52 (0, 0))) (hg : W.grownBy W' (some (w.heap.size + 1))) : RmW w h' W' where
  bo := grown_block hg (by simp) k.bo
  bh := hb
  bel := k.bel.trans (grown_below hg k.bel.size (by rintro g ⟨⟩; omega))

set_option maxRecDepth 100000 in
set_option maxHeartbeats 4000000 in
theorem rsum_any (l : List UInt8) (hl : l.length ≤ 3000) (w : World) :
    Calls Try.prog 16 #[.string (strB l)] w fun e w' => e = .returned (.agg (W8 (hashL l))) ∧ Below w.heap.size w w' := by
  have HL := Lib.hid hl
  clear hl
  obtain ⟨BL, hBL⟩ : ∃ BL, BL = W32 beginL := ⟨_, rfl⟩
  have B1 := Lib.hid hBL
  have ZB := Lib.hid (show (Try.prog.info? 52).map (·.size) = some BL.size by rw [hBL]; kernel_rfl)
  go_enter Try.func16, Try.ntmps16
  go_wp2_with (refine wpList_store_new rfl rfl 52 (.tmp 3) (.tmp 7) rfl BL (by rw [B1.out]; rfl) rfl ZB.out (by rw [B1.out]; rfl) (by rw [B1.out]; exact W32_one _) ?_)
  refine (rpadded_any l _ rfl HL.out _).mono ?_
  rintro e w1 ⟨rfl, hb1⟩
  have M1 := Lib.hid (show RmW w (wordsK (padL l) 0) w1 from RmW.keep ⟨ha_old _ _ _ (by simp) (ha_new _ _ _ rfl), (ha_new _ _ _ (by simp)).trans (by rw [wordsK_zero]; rfl), ((Below.refl _ _).alloc (Nat.le_refl _) _).alloc (by simp) _⟩ hb1)
  obtain ⟨p, hp⟩ : ∃ p, p = padL l := ⟨_, rfl⟩
  rw [← hp] at M1 ⊢
  obtain ⟨n, hn⟩ : ∃ n, n = p.length := ⟨_, rfl⟩
  obtain ⟨K, hK⟩ : ∃ K, 64 * K = n := ⟨n / 64, by have := padL_length l HL.out; rw [← hp, ← hn] at this; omega⟩
  have hs := strB_size p
  rw [← hn] at hs
  have PA := Lib.hid (show outL (wordsK p K) = hashL l by rw [hp]; exact wordsK_all l K (by rw [← hp, ← hn]; exact hK))
  have NE := Lib.hid (show p.length = n from hn.symm)
  have KE := Lib.hid hK
  have KB := Lib.hid (show n ≤ 3200 by rw [hn, hp]; exact (padL_length l HL.out).2)
  clear hb1 hp hn hK
  go_wp2_with fail
  go_loopw [4] (fun i wr => ∃ k : Nat, k ≤ K ∧ i = .int .i64 ((64 * k : Nat) : Int) ∧ RmW w (wordsK p k) wr) (fun i _ => n - (intOf i).toNat)
  case atStart => exact ⟨0, by omega, rfl, M1.out⟩
  case round =>
    obtain ⟨k, hk, rfl, h2⟩ := hrel
    have M2 := Lib.hid h2
    clear h2 M1 w1
    obtain ⟨z, hz⟩ : ∃ z, z = 64 * k := ⟨_, rfl⟩
    rw [← hz]
    have Z := Lib.hid hz
    obtain ⟨h, hh⟩ : ∃ h, h = wordsK p k := ⟨_, rfl⟩
    rw [← hh] at M2
    have HE := Lib.hid hh
    have HS := Lib.hid (show h.length = 8 by rw [hh]; exact wordsK_length _ _)
    have ZH := Lib.hid (show (Try.prog.info? 52).map (·.size) = some (W32 h).size by rw [W32_size, HS.out]; kernel_rfl)
    clear hz hh
    by_cases hlt : z < n
    · have hD : decide ((z : Int) < (n : Int)) = true := by simp; omega
      have KL := Lib.hid (show k < K by have := Z.out; have := KE.out; omega)
      have Z2 := Lib.hid (show z + 64 ≤ n by have := Z.out; have := KE.out; have := KL.out; omega)
      have e4 : IntKind.i64.wrap ((z : Int) + 64) = ((z + 64 : Nat) : Int) := by have := KB.out; have := Z2.out; rw [IntKind.wrap_i64]; omega
      have E4 := Lib.hid e4
      clear e4
      go_upto_region 6 with fail
      have M3 := Lib.hid (M2.out.keep (Below.refl _ _).drew)
      refine wp_region_till (RmW w h) 7 [(true, 0), (true, 1), (true, 2), (true, 3), (true, 4), (true, 5), (false, 6)] _ (by kernel_rfl) (by kernel_rfl) rfl (fun _ _ d _ _ h => by cases d <;> exact h) ?_
      simp only [List.filterMap_cons, List.filterMap_nil, List.getElem?_toArray, List.getElem?_cons_zero, List.getElem?_cons_succ, Option.map_some]
      refine till_q (by rfl) (M3.out) (fun W hW => run_load_row 52 (.tmp 3) rfl (w.heap.size + 1) rfl 52 (W32 h) (0, 0) _ hW.bh Try.underlying52 rfl ZH.out) ?_
      simp only [Act.put, List.setIfInBounds_toArray, List.set_cons_zero, List.set_cons_succ]
      refine till_q (v := ?_) (by rfl) (M3.out) ?_ ?_
      rotate_left
      · intro W hW
        go_simp
        with_reducible rfl
      simp only [Act.put, List.setIfInBounds_toArray, List.set_cons_zero, List.set_cons_succ]
      refine till_q (v := ?_) (by rfl) (M3.out) ?_ ?_
      rotate_left
      · intro W hW
        go_simp
        with_reducible rfl
      simp only [Act.put, List.setIfInBounds_toArray, List.set_cons_zero, List.set_cons_succ]
      refine till_q (v := ?_) (by rfl) (M3.out) ?_ ?_
      rotate_left
      · intro W hW
        go_simp
        with_reducible rfl
      simp only [Act.put, List.setIfInBounds_toArray, List.set_cons_zero, List.set_cons_succ]
      refine till_q (v := ?_) (by rfl) (M3.out) ?_ ?_
      rotate_left
      · intro W hW
        go_simp
        with_reducible rfl
      simp only [Act.put, List.setIfInBounds_toArray, List.set_cons_zero, List.set_cons_succ]
      refine till_q (by rfl) (M3.out) (fun W hW => run_str_mid 9 (.tmp 17) (.tmp 18) (.tmp 20) rfl Try.underlying9 p z (z + 64) (by omega) (by have := Z2.out; have := NE.out; omega) rfl .i64 .i64 _ _ rfl E4.out rfl rfl W) ?_
      simp only [Act.put, List.setIfInBounds_toArray, List.set_cons_zero, List.set_cons_succ]
      refine till_t (by rfl) (fun K hK => ?_)
      go_simp
      obtain ⟨c, hc⟩ : ∃ c, c = (p.drop z).take 64 := ⟨_, rfl⟩
      rw [← hc]
      have CL := Lib.hid (show c.length = 64 by have := Z2.out; have := NE.out; rw [hc, List.length_take, List.length_drop]; omega)
      have SK := Lib.hid (show wordsK p (k + 1) = takeL h c by have := Z2.out; have := NE.out; rw [wordsK_succ p k (by have := Z.out; omega), HE.out, hc, Z.out])
      clear hc
      refine (rblock_any h c HS.out CL.out _).mono ?_
      rintro e w4 ⟨rfl, hb4⟩
      have M4 := Lib.hid (M3.out.keep hb4)
      clear hb4 M3 M2
      obtain ⟨h4, hh4⟩ : ∃ h4, h4 = takeL h c := ⟨_, rfl⟩
      rw [← hh4] at SK ⊢
      have L4 := Lib.hid (show h4.length = 8 by rw [hh4, takeL_length]; exact HS.out)
      clear hh4
      refine hK.out _ _ (M4.out) ?_
      clear hK K
      refine till_last (fun K hK => ?_)
      refine storeW_wp 52 (.tmp 3) (.tmp 22) rfl (w.heap.size + 1) (W32 h4) rfl rfl _ _ M4.out.bh (by rw [W32_size, L4.out]; kernel_rfl) (by rw [W32_size, W32_size, L4.out, HS.out]) (W32_one _) ?_
      intro w5 hz5 hg5 hs5
      have M5 := Lib.hid (M4.out.seth hz5 hg5)
      clear hz5 hg5 hs5 M4
      refine hK.out _ _ ?_
      clear hK K
      have zb : (z : Int) ≤ 3200 := by have := KB.out; omega
      go_wp2_with fail
      go_roundw
      case rel => exact ⟨k + 1, by have := KL.out; omega, by have := Z.out; go_num, by rw [SK.out]; exact M5.out⟩
      case measure => simp [intOf] <;> omega
    · have hD : decide ((z : Int) < (n : Int)) = false := by simp; omega
      have KK := Lib.hid (show k = K by have := Z.out; have := KE.out; omega)
      obtain ⟨L, hL⟩ : ∃ L, L = outL h := ⟨_, rfl⟩
      have LL := Lib.hid (show L.length = 32 by rw [hL, outL_length])
      have LE := Lib.hid hL
      have LF := Lib.hid (show L = hashL l by rw [hL, HE.out, KK.out]; exact PA.out)
      clear hL hk
      go_upto_region 8 with fail
      rw [← zero32]
      obtain ⟨M, hM⟩ : ∃ M, M = wr.heap.size := ⟨_, rfl⟩
      have MG := Lib.hid (show w.heap.size + 1 < M by rw [hM]; exact row_lt M2.out.bh)
      obtain ⟨w3, hw3⟩ : ∃ w3, w3 = wr.alloc (.cells (W8 (List.replicate 32 0)) 29) := ⟨_, rfl⟩
      have M3 := Lib.hid (show RmW w h w3 by rw [hw3]; exact M2.out.keep ((Below.refl _ _).alloc (Nat.le_refl _) _))
      have O3 := Lib.hid (show w3.heap[M]? = some (.cells (W8 (partB L 0)) 29 (0, 0)) by rw [hw3, partB_zero, LL.out]; exact ha_new _ _ _ hM)
      rw [← hw3, ← hM]
      clear hw3 hM M2 hD hlt
      go_wp2_with fail
      go_loopw [6] (fun i wr => ∃ j : Nat, j ≤ 32 ∧ i = .int .i64 (j : Int) ∧ RmW w h wr ∧ wr.heap[M]? = some (.cells (W8 (partB L j)) 29 (0, 0))) (fun i _ => 32 - (intOf i).toNat)
      case atStart => exact ⟨0, by omega, rfl, M3.out, O3.out⟩
      case round =>
        obtain ⟨j, hj, rfl, h4, o4⟩ := hrel
        have M4 := Lib.hid h4
        have O4 := Lib.hid o4
        clear h4 o4 M3 O3
        by_cases hlt : j < 32
        · have hD : decide ((j : Int) < 32) = true := by simp; omega
          have J := Lib.hid hlt
          obtain ⟨x, hx⟩ : ∃ x, x = h.getD (j / 4) 0 := ⟨_, rfl⟩
          have a1 := row_cell M4.out.bh (j / 4) (W32_get _ (j / 4) (by rw [HS.out]; omega))
          rw [← hx] at a1
          have a2 := row_cell O4.out j (W8_get _ j (by rw [partB_length, LL.out]; exact hlt))
          have f2 := row_free O4.out j
          have X := Lib.hid hx
          have e1 : ((j : Int) / 4).toNat = j / 4 := by omega
          have e2 : (24 - 8 * ((j : Int) % 4)).toNat = 8 * (3 - j % 4) := by omega
          clear hx
          go_wp2_with fail
          rw [shr_out x (8 * (3 - j % 4)) (by omega)]
          obtain ⟨w3, hw3⟩ : ∃ w3, w3 = wr.setCell ⟨M, j, none⟩ (.int .u8 ((x >>> UInt32.ofNat (8 * (3 - j % 4))).toUInt8.toNat : Int)) := ⟨_, rfl⟩
          rw [← hw3]
          have hx2 : (x >>> UInt32.ofNat (8 * (3 - j % 4))).toUInt8 = L.getD j 0 := by
            rw [LE.out, outL, List.getD_eq_getElem?_getD, List.getElem?_map, List.getElem?_range hlt, X.out]
            rfl
          have M9 : w3.heap[M]? = some (.cells (W8 (partB L (j + 1))) 29 (0, 0)) := by
            rw [hw3, heap_setCell_same _ _ _ _ _ _ O4.out, W8_set, hx2, partB_set _ _ (by rw [LL.out]; exact hlt)]
          have S9 : RmW w h w3 := by
            have hgr : wr.grownBy w3 (some M) := by rw [hw3]; exact grown_set (World.grownBy.refl _ _) _ _
            have h1 := MG.out
            exact ⟨grown_block hgr (by simp; omega) M4.out.bo, grown_block hgr (by simp; omega) M4.out.bh, M4.out.bel.trans (grown_below hgr M4.out.bel.size (by intro g e; cases e; omega))⟩
          clear hw3
          go_roundw
          case rel => exact ⟨j + 1, by have := J.out; omega, by go_num, S9, M9⟩
          case measure => have := J.out; simp [intOf]; omega
        · have hj32 : Hid (j = 32) := show j = 32 by omega
          have hD : decide ((j : Int) < 32) = false := by simp; omega
          have OF := Lib.hid (show wr.heap[M]? = some (.cells (W8 L) 29 (0, 0)) by have := O4.out; rw [hj32.out] at this; rw [← LL.out, partB_full] at this; exact this)
          have ZS := Lib.hid (show (Try.prog.info? 29).map (·.size) = some (W8 L).size by rw [W8_size, LL.out]; kernel_rfl)
          clear hlt hj
          go_wp2_with (first
            | (refine wpList_load_row rfl 29 (.tmp 5) rfl M rfl 29 (W8 L) (0, 0) _ OF.out Try.underlying29 rfl ZS.out ?_)
            | (refine wpList_store_whole rfl rfl 29 (.tmp 2) (.tmp 40) rfl w.heap.size (W8 L) rfl rfl 29 (W8 (List.replicate 32 0)) M4.out.bo ZS.out (by rw [W8_size, W8_size, LL.out]; rfl) (W8_one _) ?_; intro w8 hz8 hg8 _))
          refine bodyPost_ret (results_cell_row rfl _ _ w.heap.size 29 (W8 L) (0, 0) _ rfl hz8 Try.underlying29 rfl ZS.out) rfl ⟨?_, ?_⟩
          · rw [LF.out]
          · exact M4.out.bel.trans (grown_below hg8 M4.out.bel.size (by rintro g ⟨⟩; omega))
end Go.Proofs.Ytphpcegifdiofaa
