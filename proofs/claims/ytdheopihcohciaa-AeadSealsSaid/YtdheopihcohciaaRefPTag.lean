/- The document's tag: Sum. No condition but those each theorem states. -/
import Derived.Test.YtdheopihcohciaaRefPSum
import Derived.Test.YtdheopihcohciaaStrMid
namespace Go.Proofs.Ytdheopihcohciaa
set_option linter.unusedVariables false
set_option linter.unusedSimpArgs false
open Go.RowKit
attribute [local go_sem ↓] Go.wp_at_zero Go.wp_at_succ

/-! ### plain -/
theorem valB_digit (o : List Nat) (ho : ∀ d ∈ o, d ≤ 255) (j : Nat) : o.getD j 0 = valB o / 256 ^ j % 256 := by
  have h1 := valB_split o j
  have h2 := tab_lt o ho j
  have h3 := valB_drop o j
  have h4 := getD_le ho j
  rw [h1, Nat.add_mul_div_left _ _ (Nat.pow_pos (by omega)), Nat.div_eq_of_lt h2, Nat.zero_add, h3]
  omega
theorem bytesN_low (x y : Nat) (h : x % 256 ^ 16 = y % 256 ^ 16) : bytesN x = bytesN y := by
  unfold bytesN
  apply List.map_congr_left
  intro j hj
  have hj16 : j < 16 := by simpa using hj
  apply UInt8.toNat_inj.1
  simp only [UInt8.toNat_ofNat', Nat.reducePow]
  obtain ⟨k, hk⟩ : ∃ k, 16 = j + 1 + k := ⟨16 - (j + 1), by omega⟩
  have key : ∀ z : Nat, z / 256 ^ j % 256 = (z % 256 ^ 16) / 256 ^ j % 256 := by
    intro z
    rw [hk, Nat.pow_add, Nat.mod_mul, Nat.pow_succ, Nat.mul_assoc, Nat.add_mul_div_left _ _ (Nat.pow_pos (by omega)), Nat.add_mul_mod_self_left, Nat.mod_mul, Nat.add_mul_div_left _ _ (Nat.pow_pos (by omega)), Nat.div_eq_of_lt (Nat.mod_lt _ (Nat.pow_pos (by omega))), Nat.zero_add, Nat.mod_mod]
  rw [key x, key y, h]
theorem bytesN_tag (x : Nat) (s : List UInt8) : bytesN (x + leNat s) = bytesN (tagN x s) := by
  apply bytesN_low
  unfold tagN
  rw [show (340282366920938463463374607431768211456 : Nat) = 256 ^ 16 from by decide +kernel]
  rw [Nat.mod_add_mod]
theorem poly_small (acc : Nat) (b r : List UInt8) (ha : acc < PN) (hb : b.length ≤ 16) (hr : r.length ≤ 16) : (acc + leNat (b ++ [1])) * leNat r < 256 ^ 37 := by
  have h1 : leNat (b ++ [1]) < 256 ^ 17 := by
    have := leNat_lt (b ++ [1])
    rw [List.length_append, List.length_singleton] at this
    exact Nat.lt_of_lt_of_le this (Nat.pow_le_pow_right (by omega) (by omega))
  have h2 : leNat r < 256 ^ 16 := Nat.lt_of_lt_of_le (leNat_lt r) (Nat.pow_le_pow_right (by omega) hr)
  have h3 : PN < 256 ^ 17 := by decide +kernel
  have h4 : (acc + leNat (b ++ [1])) * leNat r ≤ (2 * 256 ^ 17) * 256 ^ 16 := Nat.mul_le_mul (by omega) (by omega)
  have h5 : (2 * 256 ^ 17) * 256 ^ 16 < 256 ^ 37 := by decide +kernel
  omega
/-! ### walked -/
structure PtW (w : World) (key half : List UInt8) (W : World) : Prop where
  bk : BW w 22 w.heap.size key W
  bo : BW w 29 (w.heap.size + 1) Z16 W
  bh : BW w 29 (w.heap.size + 1 + 1) half W
theorem PtW.keep {w W W' : World} {key half : List UInt8} (h : PtW w key half W) (hb : Below W.heap.size W W') : PtW w key half W' := ⟨h.bk.keep hb, h.bo.keep hb, h.bh.keep hb⟩
theorem PtW.own {w W W' : World} {key half : List UInt8} {r : Option Nat} (h : PtW w key half W) (hg : W.grownBy W' r) (hr : ∀ g, r = some g → w.heap.size + 1 + 1 < g) : PtW w key half W' := by
  have hb : Below w.heap.size W W' := grown_below hg h.bk.bel.size (fun g e => by have := hr g e; omega)
  exact ⟨⟨grown_block hg (fun e => by have := hr _ e.symm; omega) h.bk.b, h.bk.hg, h.bk.bel.trans hb⟩, ⟨grown_block hg (fun e => by have := hr _ e.symm; omega) h.bo.b, h.bo.hg, h.bo.bel.trans hb⟩, ⟨grown_block hg (fun e => by have := hr _ e.symm; omega) h.bh.b, h.bh.hg, h.bh.bel.trans hb⟩⟩
theorem PtW.lt {w W : World} {key half : List UInt8} (h : PtW w key half W) : w.heap.size + 1 + 1 < W.heap.size := row_lt h.bh.b
set_option maxRecDepth 100000 in
set_option maxHeartbeats 8000000 in
theorem rpsum_any (key : List UInt8) (hk : key.length = 32) (l : List UInt8) (n : Nat) (hn : l.length = n) (hm : n ≤ 3000) (w : World) :
    Calls Try.prog 24 #[.agg (W8 key), .string (strB l)] w fun e w' => e = .returned (.agg (W8 (polyL key l))) ∧ Below w.heap.size w w' := by
  have SZ0 := strB_size l
  rw [hn] at SZ0
  have SZ := Lib.hid SZ0
  have HN := Lib.hid hn
  have HK := Lib.hid hk
  have HM := Lib.hid hm
  have NT := Lib.hid numT
  have Z := Lib.hid zero16
  have nb : (n : Int) ≤ 3000 := by omega
  obtain ⟨P, hP⟩ : ∃ P, P = polyL key l := ⟨_, rfl⟩
  rw [← hP]
  have PE := Lib.hid hP
  obtain ⟨k16, hk16⟩ : ∃ k, k = key.take 16 := ⟨_, rfl⟩
  have KE := Lib.hid hk16
  have HL := Lib.hid (show k16.length = 16 by rw [hk16, List.length_take, hk]; rfl)
  have DL := Lib.hid (show (key.drop 16).length = 16 by rw [List.length_drop, hk])
  clear SZ0 hn hk hm hP hk16
  go_enter Try.func24, Try.ntmps24
  go_upto_block 0 with fail
  rw [← Z.out]
  generalize hw1 : World.alloc w _ = w1
  generalize hw2 : World.alloc w1 _ = w2
  generalize hw3 : World.alloc w2 _ = w3
  have S := Lib.hid (show PtW w key (partB k16 0) w3 by
    have s1 : w1.heap.size = w.heap.size + 1 := by rw [← hw1, ha_size]
    have s2 : w2.heap.size = w.heap.size + 1 + 1 := by rw [← hw2, ha_size, s1]
    have hb : Below w.heap.size w w3 := by rw [← hw3, ← hw2, ← hw1]; exact (((Below.refl _ _).alloc (Nat.le_refl _) _).alloc (by simp) _).alloc (by simp <;> omega) _
    have eZ : partB k16 0 = Z16 := by rw [partB_zero, HL.out]; rfl
    rw [eZ]
    refine ⟨⟨?_, by omega, hb⟩, ⟨?_, by omega, hb⟩, ⟨?_, by omega, hb⟩⟩
    · rw [← hw3]; exact ha_old _ _ _ (by omega) (by rw [← hw2]; exact ha_old _ _ _ (by omega) (by rw [← hw1]; exact ha_new _ _ _ rfl))
    · rw [← hw3]; exact ha_old _ _ _ (by omega) (by rw [← hw2]; exact ha_new _ _ _ s1.symm)
    · rw [← hw3]; exact ha_new _ _ _ s2.symm)
  clear hw1 hw2 hw3
  go_cut [5] (fun v wx => v = .pointer (some ⟨w.heap.size + 1 + 1, 0, none⟩) ∧ PtW w key k16 wx)
  case first =>
    go_wp2_with fail
    go_loopw [6] (fun i wr => ∃ j : Nat, j ≤ 16 ∧ i = .int .i64 (j : Int) ∧ PtW w key (partB k16 j) wr) (fun i _ => 16 - (intOf i).toNat)
    case atStart => exact ⟨0, by omega, rfl, S.out⟩
    case round =>
      obtain ⟨j, hj, rfl, hs⟩ := hrel
      have J := Lib.hid hj
      have S2 := Lib.hid hs
      clear hj hs
      by_cases hlt : j < 16
      · have hD : decide ((j : Int) < 16) = true := by simp; omega
        obtain ⟨x, hx⟩ : ∃ x, x = key.getD j 0 := ⟨_, rfl⟩
        have XE := Lib.hid (show x = k16.getD j 0 by rw [hx, KE.out]; simp [List.getD_eq_getElem?_getD, List.getElem?_take, hlt])
        have a1 := row_cell S2.out.bk.b j (W8_get _ j (by rw [HK.out]; omega))
        rw [← hx] at a1
        have a2 := row_cell S2.out.bh.b j (W8_get _ j (by rw [partB_length, HL.out]; omega))
        have f2 := row_free S2.out.bh.b j
        have jb : (j : Int) < 16 := by omega
        have J16 := Lib.hid hlt
        clear hx hlt
        go_upto_region 4 with fail
        obtain ⟨w4, hw4⟩ : ∃ w4, w4 = wr.setCell ⟨w.heap.size + 1 + 1, j, none⟩ (.int .u8 (x.toNat : Int)) := ⟨_, rfl⟩
        rw [← hw4]
        have S3 := Lib.hid (show PtW w key (partB k16 (j + 1)) w4 by
          rw [hw4, ← partB_set _ _ (by rw [HL.out]; exact J16.out), ← XE.out]
          exact ⟨S2.out.bk.away (by omega) (by omega) (grown1 _ _ _ _), S2.out.bo.away (by omega) (by omega) (grown1 _ _ _ _), S2.out.bh.set _ _⟩)
        clear hw4 a1 a2 f2 hD
        go_wp2_with fail
        go_roundw
        case rel => exact ⟨j + 1, by have := J16.out; omega, by go_num, S3.out⟩
        case measure => have := J16.out; simp [intOf]; omega
      · have hD : decide ((j : Int) < 16) = false := by simp; omega
        have J16 := Lib.hid (show j = 16 by have := J.out; omega)
        go_wp2_with fail
        go_meet
        refine ⟨rfl, ?_⟩
        have h := S2.out
        rw [J16.out, ← HL.out, partB_full] at h
        exact h
  case rest =>
  obtain ⟨rfl, hs⟩ := hcut
  have S := Lib.hid hs
  clear hs
  go_wp2_with (refine wpList_val rfl (run_load_row 29 (.tmp 5) rfl (w.heap.size + 1 + 1) rfl 29 (W8 k16) (0, 0) _ S.out.bh.b Try.underlying29 rfl (info_16 HL.out)) ?_)
  refine (clampR_any k16 HL.out wc).mono ?_
  obtain ⟨half, hhalf⟩ : ∃ h, h = clampL k16 := ⟨_, rfl⟩
  rw [← hhalf]
  have HE := Lib.hid hhalf
  have HL2 := Lib.hid (show half.length = 16 by rw [hhalf, clampL_length, HL.out])
  rintro e w4 ⟨rfl, hb⟩
  have S := Lib.hid (S.out.keep hb)
  clear hb hhalf
  go_upto_region 7 with (refine storeM_list rfl 29 (.tmp 5) (.tmp 24) rfl (w.heap.size + 1 + 1) 0 (W8 half) rfl rfl _ _ S.out.bh.b (info_16 HL2.out) (by rw [W8_size, W8_size, HL2.out, HL.out]; omega) (W8_one _) ?_; intro w5 hz5 hg5 hs5)
  have S := Lib.hid (show PtW w key half w5 from ⟨S.out.bk.away (by omega) (by omega) hg5, S.out.bo.away (by omega) (by omega) hg5, ⟨by
    rw [hz5]
    congr 2
    rw [List.take_zero, List.nil_append, List.drop_of_length_le (by rw [W8_size, HL2.out]; have := HL.out; simp [W8]; omega), List.append_nil], by omega, S.out.bh.ret hg5⟩⟩)
  clear hz5 hg5 hs5
  go_upto_block 2 with fail
  obtain ⟨s, hs⟩ : ∃ s, s = key.drop 16 := ⟨_, rfl⟩
  have SE := Lib.hid hs
  have SL := Lib.hid (show s.length = 16 by rw [hs]; exact DL.out)
  clear hs
  go_cut [7, 8] (fun u v wx => ∃ A c A' c', u = .slice A 16 c ∧ v = .slice A' 16 c' ∧ RdV wx A (NumV (natL half)) ∧ RdV wx A' (NumV (natL s)) ∧ PtW w key half wx)
  case first =>
    go_wp2_with fail
    go_loopw [7, 8, 10] (fun u v i wr => ∃ j : Nat, j ≤ 16 ∧ i = .int .i64 (j : Int) ∧ OwnV wr w5.heap.size 3 u (NumV (natL (half.take j))) ∧ OwnV wr w5.heap.size 3 v (NumV (natL (s.take j))) ∧ (∀ g, u.ownBlock = some g → v.ownBlock ≠ some g) ∧ PtW w key half wr ∧ w5.heap.size ≤ wr.heap.size) (fun _ _ i _ => 16 - (intOf i).toNat)
    case atStart => exact ⟨0, by omega, rfl, OwnV.nil _ _ _, OwnV.nil _ _ _, by simp [Value.ownBlock], S.out, Nat.le_refl _⟩
    case round =>
      obtain ⟨j, hj, rfl, ho7, ho8, hne, hs, hsz⟩ := hrel
      have J := Lib.hid hj
      have O7 := Lib.hid ho7
      have O8 := Lib.hid ho8
      have NE := Lib.hid hne
      have S2 := Lib.hid hs
      have Z2 := Lib.hid hsz
      have L5 := Lib.hid S.out.lt
      clear hj ho7 ho8 hne hs hsz
      by_cases hlt : j < 16
      · have hD : decide ((j : Int) < 16) = true := by simp; omega
        have J16 := Lib.hid hlt
        obtain ⟨x, hx⟩ : ∃ x, x = half.getD j 0 := ⟨_, rfl⟩
        obtain ⟨y, hy⟩ : ∃ y, y = s.getD j 0 := ⟨_, rfl⟩
        obtain ⟨a, ha⟩ : ∃ a : Nat, a = x.toNat := ⟨_, rfl⟩
        obtain ⟨b, hb⟩ : ∃ b : Nat, b = y.toNat := ⟨_, rfl⟩
        have ea : (x.toNat : Int) = (a : Int) := by rw [ha]
        have eb : (y.toNat : Int) = (b : Int) := by rw [hb]
        have ab : (a : Int) ≤ 255 := by have := x.toNat_lt; omega
        have bb : (b : Int) ≤ 255 := by have := y.toNat_lt; omega
        have TA := Lib.hid (show NumV (natL (half.take (j + 1))) = NumV (natL (half.take j)) ++ [.int .i64 (a : Int)] by rw [natL_snoc half j (by rw [HL2.out]; exact hlt), NumV_append, ← hx, ← ha]; rfl)
        have TB := Lib.hid (show NumV (natL (s.take (j + 1))) = NumV (natL (s.take j)) ++ [.int .i64 (b : Int)] by rw [natL_snoc s j (by rw [SL.out]; exact hlt), NumV_append, ← hy, ← hb]; rfl)
        have a1 := row_cell S2.out.bh.b j (W8_get _ j (by rw [HL2.out]; exact hlt))
        rw [← hx] at a1
        have jb : (j : Int) < 16 := by omega
        have LA := Lib.hid (show (NumV (natL (half.take j))).length ≤ 16 by rw [NumV_length, natL_length, List.length_take]; omega)
        have LBB := Lib.hid (show (NumV (natL (s.take j))).length ≤ 16 by rw [NumV_length, natL_length, List.length_take]; omega)
        have YK := Lib.hid (show key.getD (16 + j) 0 = y by rw [hy, SE.out]; simp [List.getD_eq_getElem?_getD, List.getElem?_drop])
        clear hx hy ha hb hlt
        go_wp2_with (refine appV_list rfl NT.out (.tmp 29) (.tmp 34) rfl w5.heap.size _ (NumV (natL (half.take j))) [.int .i64 (a : Int)] (some ⟨wr.heap.size, 0, none⟩) 1 1 rfl rfl rfl (O7.out.alloc _) (RdV.one (row_cell (fr := (0, 0)) (ha_new wr _ _ rfl) 0 rfl)) (by intro u hu; simp at hu; subst hu; rfl) ?c1 ?c2 ?c3 ?_)
        case c1 => have := Z2.out; rw [ha_size]; omega
        case c2 => have := LA.out; omega
        case c3 => have := LA.out; omega
        intro v7 w6 ho hg hat
        obtain ⟨wa, hwa⟩ : ∃ wa, wa = wr.alloc (.cells #[.int .i64 (a : Int)] 3) := ⟨_, rfl⟩
        rw [← hwa] at hg
        have bA := Lib.hid (show Below wr.heap.size wr wa by rw [hwa]; exact below_new2 _ _)
        have SA := Lib.hid (S2.out.keep bA.out)
        have S3 := Lib.hid (SA.out.own hg (fun g e => by have := (O7.out.lt g e).1; have := L5.out; omega))
        have Z3 := Lib.hid (Nat.le_trans Z2.out (Nat.le_trans bA.out.size hg.size))
        have O8b := Lib.hid ((O8.out.below bA.out).grown hg (by
          rcases hq : u8.ownBlock with _ | g
          · exact .inl rfl
          · exact .inr (fun h => NE.out g h.symm hq)))
        have NE := Lib.hid (show ∀ g, v7.ownBlock = some g → u8.ownBlock ≠ some g by
          intro g hg' he
          rcases hat with h | h
          · exact NE.out g (h ▸ hg') he
          · rw [h] at hg'
            injection hg' with hg'
            have := (O8.out.lt g he).2
            have := bA.out.size
            omega)
        have O7b := Lib.hid (show OwnV w6 w5.heap.size 3 v7 (NumV (natL (half.take (j + 1)))) by rw [TA.out]; exact ho)
        have a2 := row_cell S3.out.bk.b (16 + j) (W8_get _ (16 + j) (by rw [HK.out]; have := J16.out; omega))
        rw [YK.out] at a2
        have e16 : (16 + (j : Int)).toNat = 16 + j := by omega
        have b16 : 16 + (j : Int) < 32 := by omega
        clear ho hg hat hwa a1 ea O7 O8 SA bA hD
        go_wp2_with (refine appV_list rfl NT.out (.tmp 36) (.tmp 42) rfl w5.heap.size _ (NumV (natL (s.take j))) [.int .i64 (b : Int)] (some ⟨w6.heap.size, 0, none⟩) 1 1 rfl rfl rfl (O8b.out.alloc _) (RdV.one (row_cell (fr := (0, 0)) (ha_new w6 _ _ rfl) 0 rfl)) (by intro u hu; simp at hu; subst hu; rfl) ?c1 ?c2 ?c3 ?_)
        case c1 => have := Z3.out; rw [ha_size]; omega
        case c2 => have := LBB.out; omega
        case c3 => have := LBB.out; omega
        intro v8 w7 ho hg hat
        obtain ⟨wa, hwa⟩ : ∃ wa, wa = w6.alloc (.cells #[.int .i64 (b : Int)] 3) := ⟨_, rfl⟩
        rw [← hwa] at hg
        have bA := Lib.hid (show Below w6.heap.size w6 wa by rw [hwa]; exact below_new2 _ _)
        have SA := Lib.hid (S3.out.keep bA.out)
        have S4 := Lib.hid (SA.out.own hg (fun g e => by have := (O8b.out.lt g e).1; have := L5.out; omega))
        have Z4 := Lib.hid (Nat.le_trans Z3.out (Nat.le_trans bA.out.size hg.size))
        have O7c := Lib.hid ((O7b.out.below bA.out).grown hg (by
          rcases hq : v7.ownBlock with _ | g
          · exact .inl rfl
          · exact .inr (fun h => NE.out g hq h.symm)))
        have NE := Lib.hid (show ∀ g, v7.ownBlock = some g → v8.ownBlock ≠ some g by
          intro g hg' he
          rcases hat with h | h
          · exact NE.out g hg' (h ▸ he)
          · rw [h] at he
            injection he with he
            have := (O7b.out.lt g hg').2
            have := bA.out.size
            omega)
        have O8c := Lib.hid (show OwnV w7 w5.heap.size 3 v8 (NumV (natL (s.take (j + 1)))) by rw [TB.out]; exact ho)
        clear ho hg hat hwa a2 eb O7b O8b SA bA e16 b16
        go_wp2_with fail
        go_roundw
        case rel => exact ⟨j + 1, by have := J16.out; omega, by go_num, O7c.out, O8c.out, NE.out, S4.out, Z4.out⟩
        case measure => have := J16.out; simp [intOf]; omega
      · have hD : decide ((j : Int) < 16) = false := by simp; omega
        have J16 := Lib.hid (show j = 16 by have := J.out; omega)
        obtain ⟨A7, c7, hu7, hr7, _, _, _⟩ := O7.out.read
        obtain ⟨A8, c8, hu8, hr8, _, _, _⟩ := O8.out.read
        have T7 := Lib.hid (show half.take j = half from List.take_of_length_le (by rw [HL2.out, J16.out]; omega))
        have T8 := Lib.hid (show s.take j = s from List.take_of_length_le (by rw [SL.out, J16.out]; omega))
        rw [NumV_length, natL_length, T7.out, HL2.out] at hu7
        rw [NumV_length, natL_length, T8.out, SL.out] at hu8
        rw [T7.out] at hr7
        rw [T8.out] at hr8
        have R7 := Lib.hid hr7
        have R8 := Lib.hid hr8
        rw [hu7, hu8]
        clear hu7 hu8 hr7 hr8 hlt
        go_wp2_with fail
        go_meet
        exact ⟨A7, c7, A8, c8, rfl, rfl, R7.out, R8.out, S2.out⟩
  case rest =>
  obtain ⟨A7, c7, A8, c8, rfl, rfl, hr7, hr8, hs⟩ := hcut
  have R7 := Lib.hid hr7
  have R8 := Lib.hid hr8
  have S := Lib.hid hs
  obtain ⟨wm, hwm⟩ : ∃ x : World, x = wc := ⟨_, rfl⟩
  rw [← hwm] at R7 R8 S ⊢
  clear hr7 hr8 hs hwm
  obtain ⟨r0, hr0⟩ : ∃ r, r = leNat half := ⟨_, rfl⟩
  have R0 := Lib.hid hr0
  have PA := Lib.hid (show P = bytesN (tagN (polyA r0 0 l) s) by rw [PE.out, polyL, ← KE.out, ← HE.out, ← SE.out, ← hr0])
  clear hr0
  go_wp2_with fail
  go_loopw [9, 11] (fun u i wr => ∃ (o : List Nat) (p : Nat) (A : Option Addr) (m c : Nat), p ≤ n + 15 ∧ i = .int .i64 (p : Int) ∧ u = .slice A m c ∧ o.length = m ∧ m ≤ 37 ∧ RdV wr A (NumV o) ∧ (∀ d ∈ o, d ≤ 255) ∧ polyA r0 0 l = polyA r0 (valB o) (l.drop p) ∧ valB o < PN ∧ Below wm.heap.size wm wr) (fun _ i _ => 4000 - (intOf i).toNat)
  case atStart => exact ⟨[], 0, none, 0, 0, by omega, rfl, rfl, rfl, by omega, RdV.nil _ _, by simp, rfl, by decide, Below.refl _ _⟩
  case round =>
    obtain ⟨o, p, A, m, c, hp, rfl, rfl, ho, hm, hr, hd, hv, hvP, hb⟩ := hrel
    have PN15 := Lib.hid hp
    have OL := Lib.hid ho
    have M := Lib.hid hm
    have R := Lib.hid hr
    have D := Lib.hid hd
    have V := Lib.hid hv
    have VP := Lib.hid hvP
    have B := Lib.hid hb
    have pb : (p : Int) ≤ 3100 := by have := HM.out; omega
    clear hp ho hm hr hd hv hvP hb
    by_cases hlt : p < n
    · have hD : decide ((p : Int) < (n : Int)) = true := by simp; omega
      have hD2 : decide (p < n) = true := by simp; omega
      have P1 := Lib.hid hlt
      obtain ⟨q, hq⟩ : ∃ q, q = min (p + 16) n := ⟨_, rfl⟩
      have e1 : (if (n : Int) < (p : Int) + 16 then (n : Int) else (p : Int) + 16) = (q : Int) := by split <;> omega
      have Q := Lib.hid hq
      obtain ⟨x, hx⟩ : ∃ x, x = (l.drop p).take (q - p) := ⟨_, rfl⟩
      have XL := Lib.hid (show x.length = q - p by rw [hx, List.length_take, List.length_drop, HN.out]; omega)
      have XE := Lib.hid (show x = (l.drop p).take 16 by
        rw [hx]
        rcases Nat.lt_or_ge (p + 16) n with h | h
        · rw [hq, Nat.min_eq_left (by omega), show p + 16 - p = 16 by omega]
        · rw [hq, Nat.min_eq_right (by omega), List.take_of_length_le (by rw [List.length_drop, HN.out]; omega), List.take_of_length_le (by rw [List.length_drop, HN.out]; omega)])
      have XS := Lib.hid hx.symm
      have SZ2 := SZ.out
      clear hq hx hlt
      go_upto_region 16 with fail
      go_wp2_with (refine wpList_val rfl (run_str_mid 9 (.tmp 51) (.tmp 52) (.tmp 57) rfl Try.underlying9 l p q (by have := Q.out; have := P1.out; omega) (by rw [HN.out]; have := Q.out; omega) rfl .i64 .i64 _ _ rfl rfl rfl rfl _) ?_)
      rw [XS.out]
      clear SZ2 e1
      refine (of_any' x (q - p) XL.out (by have := Q.out; omega) wr).mono ?_
      rintro e w6 ⟨v, rfl, ho, hb⟩
      obtain ⟨A1, c1, rfl, hr1, _, _, _⟩ := ho.read
      have L1 := Lib.hid (show (NumV (natL (x ++ [1]))).length = q - p + 1 by rw [NumV_length, natL_length, List.length_append, XL.out]; rfl)
      rw [L1.out]
      have R1 := Lib.hid hr1
      have RA := Lib.hid (R.out.keep hb)
      have B := Lib.hid (B.out.trans (hb.mono B.out.size))
      clear ho hr1 hb
      go_wp2_with fail
      refine (nsum_any o (natL (x ++ [1])) D.out (natL_le _) A m c OL.out A1 (q - p + 1) c1 (by have := L1.out; rwa [NumV_length] at this) (by have := M.out; omega) (by have := Q.out; omega) w6 RA.out R1.out).mono ?_
      rw [valB_natL]
      obtain ⟨acc, hacc⟩ : ∃ a, a = valB o := ⟨_, rfl⟩
      rw [← hacc]
      have AE := Lib.hid hacc
      have SM := Lib.hid (poly_small acc x half (by rw [hacc]; exact VP.out) (by rw [XL.out]; have := Q.out; omega) (by rw [HL2.out]; omega))
      clear hacc
      rintro e w7 ⟨v, o2, rfl, ho, hdg, hb⟩
      obtain ⟨A2, c2, rfl, hr2, _, _, _⟩ := ho.read
      rw [NumV_length]
      have R2 := Lib.hid hr2
      have D2 := Lib.hid hdg
      have L2 := Lib.hid (show o2.length ≤ 37 by
        have h17 : acc + leNat (x ++ [1]) < 256 ^ 37 := by
          have h1 : acc < PN := by rw [AE.out]; exact VP.out
          have h2 := leNat_lt (x ++ [1])
          rw [List.length_append, XL.out, List.length_singleton] at h2
          have h3 : (256 : Nat) ^ (q - p + 1) ≤ 256 ^ 17 := Nat.pow_le_pow_right (by omega) (by have := Q.out; omega)
          have h4 : PN + 256 ^ 17 < 256 ^ 37 := by decide +kernel
          omega
        have := hdg.few h17
        have := M.out
        have := Q.out
        omega)
      have RH := Lib.hid ((R7.out.keep B.out).keep hb)
      have B := Lib.hid (B.out.trans (hb.mono B.out.size))
      clear ho hr2 hdg hb
      go_wp2_with fail
      refine (ntim_any o2 (natL half) D2.out.d255 (natL_le _) A2 o2.length c2 rfl A7 16 c7 (by rw [natL_length, HL2.out]) (by have := L2.out; omega) (by omega) w7 R2.out RH.out).mono ?_
      rw [D2.out.val, valB_natL]
      rintro e w8 ⟨v, o3, rfl, ho, hdg, hb⟩
      obtain ⟨A3, c3, rfl, hr3, _, _, _⟩ := ho.read
      rw [NumV_length]
      have R3 := Lib.hid hr3
      have D3 := Lib.hid hdg
      have L3 := Lib.hid (show o3.length ≤ 60 by have := hdg.few SM.out; have := L2.out; omega)
      have B := Lib.hid (B.out.trans (hb.mono B.out.size))
      clear ho hr3 hdg hb
      go_wp2_with fail
      refine (mod_any o3 D3.out.d255 (by rw [D3.out.val]; exact SM.out) A3 o3.length c3 rfl L3.out w8 R3.out).mono ?_
      rw [D3.out.val, ← R0.out]
      rintro e w9 ⟨A4, c4, m4, o4, rfl, hl4, hm4, hr4, hd4, hv4, hb⟩
      have L4 := Lib.hid hl4
      have M4 := Lib.hid hm4
      have R4 := Lib.hid hr4
      have D4 := Lib.hid hd4
      have V4 := Lib.hid hv4
      have B := Lib.hid (B.out.trans (hb.mono B.out.size))
      have NX := Lib.hid (show polyA r0 0 l = polyA r0 (valB o4) (l.drop (p + 16)) by
        rw [V.out, polyA_cons r0 _ (l.drop p) (by intro h; have h2 := congrArg List.length h; rw [List.length_drop, HN.out] at h2; simp at h2; have := P1.out; omega), ← XE.out, ← AE.out, V4.out, List.drop_drop])
      clear hl4 hm4 hr4 hd4 hv4 hb hD hD2
      go_wp2_with fail
      go_roundw
      case rel => exact ⟨o4, p + 16, A4, m4, c4, by have := P1.out; omega, by go_num, rfl, L4.out, M4.out, R4.out, D4.out, NX.out, by rw [V4.out]; exact Nat.mod_lt _ (by decide), B.out⟩
      case measure => have := HM.out; have := PN15.out; simp [intOf]; omega
    · have hD : decide ((p : Int) < (n : Int)) = false := by simp; omega
      have hD2 : decide (p < n) = false := by simp; omega
      have VF := Lib.hid (show polyA r0 0 l = valB o by rw [V.out, List.drop_of_length_le (by rw [HN.out]; omega), polyA_nil])
      have SZ2 := SZ.out
      go_upto_region 17 with fail
      clear SZ2 hD hD2 hlt
      go_wp2_with fail
      refine (nsum_any o (natL s) D.out (natL_le _) A m c OL.out A8 16 c8 (by rw [natL_length, SL.out]) (by have := M.out; omega) (by omega) wr R.out (R8.out.keep B.out)).mono ?_
      rw [valB_natL, ← VF.out]
      obtain ⟨T, hT⟩ : ∃ T, T = polyA r0 0 l + leNat s := ⟨_, rfl⟩
      rw [← hT]
      have PT := Lib.hid (show P = bytesN T by rw [PA.out, hT, bytesN_tag])
      rintro e w6 ⟨v, o2, rfl, ho, hdg, hb⟩
      obtain ⟨A2, c2, rfl, hr2, _, _, hbk2⟩ := ho.read
      have R2A := Lib.hid (show ∀ a, A2 = some a → a.block < w6.heap.size from fun a e => (hbk2 a e).2)
      rw [NumV_length]
      obtain ⟨m2, hm2⟩ : ∃ m, m = o2.length := ⟨_, rfl⟩
      rw [← hm2]
      have M2 := Lib.hid hm2.symm
      have R2 := Lib.hid hr2
      have D2 := Lib.hid hdg
      have B := Lib.hid (B.out.trans (hb.mono B.out.size))
      have S2 := Lib.hid (S.out.keep B.out)
      clear ho hr2 hdg hb hT hm2
      go_upto_block 6 with fail
      rw [← Z.out]
      generalize hM : Array.size (World.heap w6) = MM
      generalize hw : World.alloc w6 _ = w7
      have PL := Lib.hid (show P.length = 16 by rw [PT.out, bytesN_length])
      have W7 := Lib.hid (show BW w 29 MM (partB P 0) w7 ∧ PtW w key half w7 by
        have eZ : partB P 0 = Z16 := by rw [partB_zero, PL.out]; rfl
        rw [eZ]
        have h := S2.out.keep (show Below w6.heap.size w6 w7 by rw [← hw]; exact below_new2 _ _)
        exact ⟨⟨by rw [← hw]; exact ha_new _ _ _ hM.symm, by rw [← hM]; have := S2.out.lt; omega, h.bk.bel⟩, h⟩)
      have GM := Lib.hid (show w.heap.size + 1 + 1 < MM by rw [← hM]; exact S2.out.lt)
      have R2 := Lib.hid (show RdV w7 A2 (NumV o2) by rw [← hw]; exact R2.out.keep (below_new2 _ _))
      have A2B := Lib.hid (show ∀ a, A2 = some a → a.block < MM from fun a e => by rw [← hM]; exact (R2A.out a e))
      clear hM hw S2 S
      go_wp2_with fail
      go_loopw [13] (fun i wr => ∃ j : Nat, j ≤ 16 ∧ i = .int .i64 (j : Int) ∧ BW w 29 MM (partB P j) wr ∧ PtW w key half wr ∧ RdV wr A2 (NumV o2)) (fun i _ => 16 - (intOf i).toNat)
      case atStart => exact ⟨0, by omega, rfl, W7.out.1, W7.out.2, R2.out⟩
      case round =>
        obtain ⟨j, hj, rfl, hb, hs, hr⟩ := hrel
        have J := Lib.hid hj
        have BM := Lib.hid hb
        have S := Lib.hid hs
        have R2 := Lib.hid hr
        clear hj hb hs hr
        by_cases hlt : j < 16
        · have hD : decide ((j : Int) < 16) = true := by simp; omega
          have J16 := Lib.hid hlt
          have jb : (j : Int) < 16 := by omega
          obtain ⟨d, hd⟩ : ∃ d, d = o2.getD j 0 := ⟨_, rfl⟩
          have DA := Lib.hid (digit_any o2 A2 m2 c2 M2.out j wr R2.out)
          rw [← hd] at DA
          obtain ⟨y, hy⟩ : ∃ y, y = P.getD j 0 := ⟨_, rfl⟩
          have YE := Lib.hid hy
          have YD := Lib.hid (show (d : Int) % 256 = (y.toNat : Int) by
            have h1 := valB_digit o2 D2.out.d255 j
            rw [D2.out.val, ← hd] at h1
            rw [hy, PT.out, bytesN_get _ _ hlt]
            simp only [UInt8.toNat_ofNat', Nat.reducePow]
            omega)
          have db : (d : Int) ≤ 255 := by have := getD_le D2.out.d255 j; omega
          have a2 := row_cell BM.out.b j (W8_get _ j (by rw [partB_length, PL.out]; exact hlt))
          have f2 := row_free BM.out.b j
          clear hd hy hlt
          go_wp2_with fail
          refine DA.out.mono ?_
          rintro e w8 ⟨rfl, hw⟩
          rw [hw]
          clear hw w8
          have eY := YD.out
          have eW : IntKind.u8.wrap (d : Int) = (y.toNat : Int) := by rw [IntKind.wrap_u8]; exact eY
          clear db
          go_upto_region 21 with fail
          obtain ⟨w8, hw8⟩ : ∃ w8, w8 = wr.setCell ⟨MM, j, none⟩ (.int .u8 (y.toNat : Int)) := ⟨_, rfl⟩
          rw [← hw8]
          have S3 := Lib.hid (show BW w 29 MM (partB P (j + 1)) w8 ∧ PtW w key half w8 ∧ RdV w8 A2 (NumV o2) by
            have hg : wr.grownBy w8 (some MM) := by rw [hw8]; exact grown1 _ _ _ _
            refine ⟨?_, S.out.own hg (by rintro g ⟨⟩; exact GM.out), R2.out.grown hg (fun g e a ea => ?_)⟩
            · rw [hw8, ← partB_set _ _ (by rw [PL.out]; exact J16.out), ← YE.out]
              exact BM.out.set _ _
            · cases e
              have := A2B.out a ea
              omega)
          clear hw8 a2 f2 hD eY eW
          go_wp2_with fail
          go_roundw
          case rel => exact ⟨j + 1, by have := J16.out; omega, by go_num, S3.out.1, S3.out.2.1, S3.out.2.2⟩
          case measure => have := J16.out; simp [intOf]; omega
        · have hD : decide ((j : Int) < 16) = false := by simp; omega
          have J16 := Lib.hid (show j = 16 by have := J.out; omega)
          have BF := Lib.hid (show wr.heap[MM]? = some (.cells (W8 P) 29 (0, 0)) by
            have h := BM.out.b
            rw [J16.out, ← PL.out, partB_full] at h
            exact h)
          clear hlt
          go_wp2_with (first
            | (refine wpList_load_row rfl 29 (.tmp 12) rfl MM rfl 29 (W8 P) (0, 0) _ BF.out Try.underlying29 rfl (info_16 PL.out) ?_)
            | (refine wpList_store_whole rfl rfl 29 (.tmp 4) (.tmp 77) rfl (w.heap.size + 1) (W8 P) rfl rfl 29 _ S.out.bo.b (info_16 PL.out) (by rw [W8_size, W8_size, PL.out]; rfl) (W8_one _) ?_; intro w8 hz8 hg8 _))
          exact bodyPost_ret (results_cell_row rfl _ _ (w.heap.size + 1) 29 (W8 P) (0, 0) _ rfl hz8 Try.underlying29 rfl (info_16 PL.out)) rfl ⟨rfl, S.out.bo.ret hg8⟩
end Go.Proofs.Ytdheopihcohciaa
