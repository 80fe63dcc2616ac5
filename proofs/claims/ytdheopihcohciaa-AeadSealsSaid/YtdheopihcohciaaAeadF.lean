/- The document's sealing: zeros, length. No condition but those each theorem states. -/
import Derived.Test.YtdheopihcohciaaAeadP
import Derived.Test.YtdheopihcohciaaStrMid
import Derived.Test.YtdheopihcohciaaAeadO
import Derived.Test.YtdheopihcohciaaRefPTag
import Derived.Test.YtdheopihcohciaaRefStr
import Derived.Test.YtdheopihcohciaaTree
namespace Go.Proofs.Ytdheopihcohciaa
set_option linter.unusedVariables false
set_option linter.unusedSimpArgs false
open Go.RowKit
attribute [local go_sem ↓] Go.wp_at_zero Go.wp_at_succ

def zerosL (n : Nat) : List UInt8 := List.replicate ((16 - n % 16) % 16) 0
theorem padB_zeros (l : List UInt8) : padB l = l ++ zerosL l.length := rfl
theorem zerosL_length (n : Nat) : (zerosL n).length = (16 - n % 16) % 16 := by simp [zerosL]
def strLen : Value → Nat
  | .string s => s.size
  | _ => 0
set_option maxRecDepth 100000 in
set_option maxHeartbeats 1000000 in
theorem zeros_any (n : Nat) (hn : n ≤ 100000) (w : World) :
    Calls Try.prog 25 #[.int .i64 (n : Int)] w fun e w' => e = .returned (.string (strB (zerosL n))) ∧ w' = w := by
  have nb : (n : Int) ≤ 100000 := by omega
  have N := Lib.hid hn
  clear hn
  obtain ⟨P, hP⟩ : ∃ P, P = (16 - n % 16) % 16 := ⟨_, rfl⟩
  have PE := Lib.hid hP
  have P16 := Lib.hid (show P ≤ 15 by omega)
  clear hP
  go_enter Try.func25, Try.ntmps25
  go_wp2_with fail
  go_loopw [3] (fun u wr => ∃ j : Nat, j ≤ P ∧ u = .string (strB (List.replicate j 0)) ∧ wr = w) (fun u _ => P - strLen u)
  case atStart => exact ⟨0, by omega, rfl, rfl⟩
  case round =>
    obtain ⟨j, hj, rfl, hw⟩ := hrel
    rw [hw]
    clear hw wr
    obtain ⟨q, hq⟩ : ∃ q : List UInt8, q = List.replicate j 0 := ⟨_, rfl⟩
    have SS := strB_size q
    rw [show q.length = j by rw [hq]; simp] at SS
    rw [← hq]
    have QE := Lib.hid hq
    have JP := Lib.hid hj
    have jb : (j : Int) ≤ 15 := by have := P16.out; omega
    clear hq hj
    by_cases h16 : (n + j) % 16 = 0
    · have e1 : ((((n : Int) + (j : Int)) % 16) == 0) = true := by simp; omega
      have e2 : ((((n : Int) + (j : Int)) % 16) != 0) = false := by simp; omega
      have hD : decide (((n : Int) + (j : Int)) % 16 = 0) = true := by simp; omega
      have JE := Lib.hid (show q = zerosL n by rw [QE.out, zerosL]; congr 1; have := PE.out; have := JP.out; omega)
      clear h16
      go_wp2_with fail
      go_ret
      exact ⟨by rw [← JE.out]; rfl, rfl⟩
    · have e1 : ((((n : Int) + (j : Int)) % 16) == 0) = false := by simp; omega
      have e2 : ((((n : Int) + (j : Int)) % 16) != 0) = true := by simp; omega
      have hD : decide (((n : Int) + (j : Int)) % 16 = 0) = false := by simp; omega
      have MP := Lib.hid (show j < P by have := PE.out; have := JP.out; omega)
      have QL := Lib.hid (show q.length = j by rw [QE.out]; simp)
      clear h16
      go_upto_region 3 with fail
      clear SS
      go_wp2_with (refine wpList_val rfl (run_cat 9 _ (.tmp 10) (.const (.string { data := #[0] })) rfl q [0] rfl rfl (by have := QL.out; have := MP.out; have := P16.out; simp; omega) _) ?_)
      go_roundw
      case rel => exact ⟨j + 1, by have := MP.out; omega, by rw [QE.out, List.replicate_succ'], trivial⟩
      case measure =>
        have h1 : strLen (.string (strB (q ++ [0]))) = j + 1 := by show (strB (q ++ [0])).size = _; rw [strB_size, List.length_append, QL.out]; rfl
        have h2 : strLen (.string (strB q)) = j := by show (strB q).size = _; rw [strB_size, QL.out]
        have := MP.out
        show P - strLen (.string (strB (q ++ [0]))) < P - strLen (.string (strB q))
        rw [h1, h2]
        omega
set_option maxRecDepth 100000 in
set_option maxHeartbeats 1000000 in
theorem length_any (n : Nat) (hn : n ≤ 1000000) (w : World) :
    Calls Try.prog 26 #[.int .i64 (n : Int)] w fun e w' => e = .returned (.string (strB (leL 8 n))) ∧ Below w.heap.size w w' := by
  have HN := Lib.hid hn
  have nb : (n : Int) ≤ 1000000 := by omega
  have e0 : IntKind.u64.wrap (n : Int) = (n : Int) := by rw [IntKind.wrap_u64]; omega
  clear hn
  go_enter Try.func26, Try.ntmps26
  go_wp2_with fail
  go_loopw [3, 4] (fun u i wr => ∃ r : Nat, r ≤ 8 ∧ i = .int .i64 (r : Int) ∧ u = .string (strB (leL r n)) ∧ Below w.heap.size w wr) (fun _ i _ => 8 - (intOf i).toNat)
  case atStart => exact ⟨0, by omega, rfl, rfl, Below.refl _ _⟩
  case round =>
    obtain ⟨r, hr, rfl, rfl, hb⟩ := hrel
    have R := Lib.hid hr
    have S := Lib.hid hb
    obtain ⟨q, hq⟩ : ∃ q, q = leL r n := ⟨_, rfl⟩
    rw [← hq]
    have QE := Lib.hid hq
    have QL := Lib.hid (show q.length ≤ 8 by rw [hq, leL_length]; exact hr)
    clear hr hb hq
    by_cases hlt : r < 8
    · have hD : decide ((r : Int) < 8) = true := by simp; omega
      have R8 := Lib.hid hlt
      have rb : (r : Int) ≤ 7 := by omega
      have e2 : 8 * (r : Int) ≤ 64 := by omega
      have e4 : (8 * (r : Int)).toNat = 8 * r := by omega
      have e5 : IntKind.u64.wrap (8 * (r : Int)) = 8 * (r : Int) := by rw [IntKind.wrap_u64]; omega
      obtain ⟨z, hz, e3⟩ := le_byte_ex n r HN.out
      have RZ := Lib.hid (RdB.one (w := wr.alloc (.cells #[.int .u8 (z.toNat : Int)] 5)) (y := z) (row_cell (fr := (0, 0)) (ha_new wr _ _ rfl) 0 rfl))
      clear hlt
      go_wp2_with (first
        | (refine wpList_val rfl (run_str 24 9 (.tmp 17) rfl Try.underlying24 Try.underlying5 Try.underlying9 RZ.out 1 1 rfl rfl) ?_)
        | (refine wpList_val rfl (run_cat 9 _ (.tmp 9) (.tmp 18) rfl q [z] rfl rfl (by have := QL.out; simp; omega) _) ?_))
      have S2 := Lib.hid (show Below w.heap.size w (wr.alloc (.cells #[.int .u8 (z.toNat : Int)] 5)) from S.out.alloc S.out.size _)
      have ZE := Lib.hid (show q ++ [z] = leL (r + 1) n by rw [QE.out, leL_succ, ← hz.out])
      clear hD e2 e3 e4 e5
      go_wp2_with fail
      go_roundw
      case rel => exact ⟨r + 1, by have := R8.out; omega, by go_num, by rw [ZE.out], S2.out⟩
      case measure => have := R8.out; simp [intOf]; omega
    · have hD : decide ((r : Int) < 8) = false := by simp; omega
      have RE := Lib.hid (show q = leL 8 n by rw [QE.out]; congr 1; have := R.out; omega)
      go_wp2_with fail
      go_ret
      exact ⟨by rw [← RE.out]; rfl, S.out⟩

theorem over_cat (l l2 : List UInt8) : ((((l ++ zerosL l.length) ++ l2) ++ zerosL l2.length) ++ leL 8 l.length) ++ leL 8 l2.length = overL l l2 := by
  rw [overL, padB_zeros, padB_zeros, List.append_assoc (l ++ zerosL l.length)]
theorem zero32g : W8 (List.replicate 32 0) = #[.int .u8 0, .int .u8 0, .int .u8 0, .int .u8 0, .int .u8 0, .int .u8 0, .int .u8 0, .int .u8 0, .int .u8 0, .int .u8 0, .int .u8 0, .int .u8 0, .int .u8 0, .int .u8 0, .int .u8 0, .int .u8 0, .int .u8 0, .int .u8 0, .int .u8 0, .int .u8 0, .int .u8 0, .int .u8 0, .int .u8 0, .int .u8 0, .int .u8 0, .int .u8 0, .int .u8 0, .int .u8 0, .int .u8 0, .int .u8 0, .int .u8 0, .int .u8 0] := rfl
/-- Two blocks of the call's own. -/
structure RgW (w : World) (M : Nat) (B : List UInt8) (M2 : Nat) (k : List UInt8) (W : World) : Prop where
  bel : Below w.heap.size w W
  b1 : W.heap[M]? = some (.cells (W8 B) 44 (0, 0))
  b2 : W.heap[M2]? = some (.cells (W8 k) 22 (0, 0))
  h1 : w.heap.size ≤ M
  h2 : M < M2
set_option maxRecDepth 100000 in
set_option maxHeartbeats 8000000 in
theorem rtag_any (k n : List UInt8) (hk : k.length = 32) (hn : n.length = 12) (l l2 : List UInt8) (hl : l.length ≤ 1000) (hl2 : l2.length ≤ 1000) (w : World) :
    Calls Try.prog 12 #[.string (strB k), .string (strB n), .string (strB l), .string (strB l2)] w fun e w' => e = .returned (.string (strB (tagL k n l l2))) ∧ Below w.heap.size w w' := by
  obtain ⟨i0, hi0, hz0, hz1, hz2⟩ := info_parts (show (Try.prog.info? 5).map (fun i => (i.zero, i.size, i.bytes)) = some (some (.int .u8 0), 1, 1) by kernel_rfl)
  have I0 := Lib.hid hi0
  have HK := Lib.hid hk
  have HN := Lib.hid hn
  have HL := Lib.hid hl
  have HL2 := Lib.hid hl2
  have Z := Lib.hid zero16
  have Z32 := Lib.hid zero32g
  obtain ⟨T, hT⟩ : ∃ T, T = tagL k n l l2 := ⟨_, rfl⟩
  rw [← hT]
  have TE := Lib.hid hT
  obtain ⟨B, hB⟩ : ∃ B, B = blockL k n 0 := ⟨_, rfl⟩
  have BE := Lib.hid hB
  have BL := Lib.hid (show B.length = 64 by rw [hB, blockL_length])
  have ZB := Lib.hid (show (Try.prog.info? 44).map (·.size) = some (W8 B).size by rw [W8_size, BL.out]; kernel_rfl)
  obtain ⟨Kh, hKh⟩ : ∃ K, K = B.take 32 := ⟨_, rfl⟩
  have KE := Lib.hid hKh
  have KL := Lib.hid (show Kh.length = 32 by rw [hKh, List.length_take, BL.out]; rfl)
  have ZK := Lib.hid (show (Try.prog.info? 22).map (·.size) = some (W8 Kh).size by rw [W8_size, KL.out]; kernel_rfl)
  have TL := Lib.hid (show T.length = 16 by rw [hT, tagL_length])
  have TP := Lib.hid (show polyL Kh (l ++ (zerosL l.length ++ (l2 ++ (zerosL l2.length ++ (leL 8 l.length ++ leL 8 l2.length))))) = T by rw [show l ++ (zerosL l.length ++ (l2 ++ (zerosL l2.length ++ (leL 8 l.length ++ leL 8 l2.length)))) = overL l l2 by rw [← over_cat]; simp only [List.append_assoc], hT, hKh, hB]; rfl)
  clear hk hn hl hl2 hT hB hKh hi0 hz0 hz1 hz2
  go_enter Try.func12, Try.ntmps12
  go_wp2_with fail
  refine (refBlock_any k n HK.out HN.out 0 w).mono ?_
  rw [← BE.out]
  rintro e w1 ⟨rfl, hb⟩
  have S0 := Lib.hid hb
  clear hb
  go_upto_block 0 with (refine wpList_store_new rfl rfl 44 (.tmp 9) (.tmp 15) rfl (W8 B) rfl rfl ZB.out ?c1 (W8_one _) ?_)
  case c1 => rw [W8_size, BL.out]; rfl
  rw [← Z32.out]
  generalize hM : Array.size (World.heap w1) = M
  generalize hw2 : World.alloc w1 _ = w2
  generalize hM2 : M + 1 = M2
  generalize hw3 : World.alloc w2 _ = w3
  have S := Lib.hid (show RgW w M B M2 (partB Kh 0) w3 by
    have s2 : w2.heap.size = M2 := by rw [← hw2, ha_size, hM, hM2]
    have e0 : partB Kh 0 = List.replicate 32 0 := by rw [partB_zero, KL.out]
    have hb : Below w.heap.size w w3 := by rw [← hw3]; exact (show Below w.heap.size w w2 by rw [← hw2]; exact S0.out.alloc S0.out.size _).alloc (by rw [s2, ← hM2, ← hM]; have := S0.out.size; omega) _
    rw [e0]
    refine ⟨hb, ?_, ?_, by rw [← hM]; exact S0.out.size, by omega⟩
    · rw [← hw3]; exact ha_old _ _ _ (by omega) (by rw [← hw2]; exact ha_new _ _ _ hM.symm)
    · rw [← hw3]; exact ha_new _ _ _ s2.symm)
  clear hM hw2 hM2 hw3 S0
  go_cut [10] (fun v wx => v = .pointer (some ⟨M2, 0, none⟩) ∧ RgW w M B M2 Kh wx)
  case first =>
    go_wp2_with fail
    go_loopw [11] (fun i wr => ∃ j : Nat, j ≤ 32 ∧ i = .int .i64 (j : Int) ∧ RgW w M B M2 (partB Kh j) wr) (fun i _ => 32 - (intOf i).toNat)
    case atStart => exact ⟨0, by omega, rfl, S.out⟩
    case round =>
      obtain ⟨j, hj, rfl, hs⟩ := hrel
      have J := Lib.hid hj
      have S2 := Lib.hid hs
      clear hj hs
      by_cases hlt : j < 32
      · have hD : decide ((j : Int) < 32) = true := by simp; omega
        obtain ⟨x, hx⟩ : ∃ x, x = B.getD j 0 := ⟨_, rfl⟩
        have XE := Lib.hid (show x = Kh.getD j 0 by rw [hx, KE.out]; simp [List.getD_eq_getElem?_getD, List.getElem?_take, hlt])
        have a1 := row_cell S2.out.b1 j (W8_get _ j (by rw [BL.out]; omega))
        rw [← hx] at a1
        have a2 := row_cell S2.out.b2 j (W8_get _ j (by rw [partB_length, KL.out]; omega))
        have f2 := row_free S2.out.b2 j
        have jb : (j : Int) < 32 := by omega
        have J32 := Lib.hid hlt
        clear hx hlt
        go_upto_region 5 with fail
        obtain ⟨w4, hw4⟩ : ∃ w4, w4 = wr.setCell ⟨M2, j, none⟩ (.int .u8 (x.toNat : Int)) := ⟨_, rfl⟩
        rw [← hw4]
        have S3 := Lib.hid (show RgW w M B M2 (partB Kh (j + 1)) w4 by
          have hg : wr.grownBy w4 (some M2) := by rw [hw4]; exact grown1 _ _ _ _
          have h2 := S2.out.h2
          have h1 := S2.out.h1
          refine ⟨S2.out.bel.trans (grown_below hg S2.out.bel.size (by rintro g ⟨⟩; omega)), grown_block hg (by simp; omega) S2.out.b1, ?_, h1, h2⟩
          rw [hw4, ← partB_set _ _ (by rw [KL.out]; exact J32.out), ← XE.out, heap_setCell_same _ _ _ _ _ _ S2.out.b2, W8_set])
        clear hw4 a1 a2 f2 hD
        go_wp2_with fail
        go_roundw
        case rel => exact ⟨j + 1, by have := J32.out; omega, by go_num, S3.out⟩
        case measure => have := J32.out; simp [intOf]; omega
      · have hD : decide ((j : Int) < 32) = false := by simp; omega
        have J32 := Lib.hid (show j = 32 by have := J.out; omega)
        go_wp2_with fail
        go_meet
        refine ⟨rfl, ?_⟩
        have h := S2.out
        rw [J32.out, ← KL.out, partB_full] at h
        exact h
  case rest =>
  obtain ⟨rfl, hs⟩ := hcut
  have S := Lib.hid hs
  clear hs
  obtain ⟨w4, hw4⟩ : ∃ x : World, x = wc := ⟨_, rfl⟩
  rw [← hw4] at S ⊢
  clear hw4
  go_upto_region 7 with fail
  go_cut [12] (fun v wx => ∃ M, v = .pointer (some ⟨M, 0, none⟩) ∧ wx.heap[M]? = some (.cells (W8 T) 29 (0, 0)) ∧ Below w4.heap.size w4 wx)
  case first =>
    have s1 := strB_size l
    have s2 := strB_size l2
    refine wp_region_tree (fun W => Below w4.heap.size w4 W) (.q 0 (.q 1 (.q 2 (.q 3 (.q 6 (.q 8 (.q 9 (.q 12 (.q 13 (.q 16 (.q 17 (.two 4 (.q 5 (.q 7 (.two 10 (.q 11 (.two 14 (.q 15 (.two 18 (.q 19 (.two 20 (.t 21 (.t 22 .done)) 21 (.t 20 (.t 22 .done)))) 21 (.t 18 (.q 19 (.t 20 (.t 22 .done)))))) 21 (.t 14 (.q 15 (.t 18 (.q 19 (.t 20 (.t 22 .done)))))))) 21 (.t 10 (.q 11 (.t 14 (.q 15 (.t 18 (.q 19 (.t 20 (.t 22 .done))))))))))) 21 (.t 4 (.q 5 (.q 7 (.t 10 (.q 11 (.t 14 (.q 15 (.t 18 (.q 19 (.t 20 (.t 22 .done))))))))))))))))))))))) (by kernel_rfl) (by kernel_rfl) (fun _ _ d _ _ h => by cases d <;> exact h) ?_
    have S0 := Lib.hid S.out
    have S := Lib.hid (show Below w4.heap.size w4 w4.drew from (Below.refl _ _).drew)
    generalize World.drew w4 = w5 at *
    refine road_q rfl rfl (S.out) (fun W hW => run_load_row 22 (.tmp 10) rfl M2 rfl 22 (W8 Kh) (0, 0) _ (below_block hW (row_lt S0.out.b2) S0.out.b2) Try.underlying22 rfl ZK.out) ?_
    simp only [Act.put, List.setIfInBounds_toArray, List.set_cons_zero, List.set_cons_succ]
    refine road_q (v := ?_) rfl rfl (S.out) ?_ ?_
    rotate_left
    · intro W hW
      go_simp
      with_reducible rfl
    simp only [Act.put, List.setIfInBounds_toArray, List.set_cons_zero, List.set_cons_succ]
    refine road_q (v := ?_) rfl rfl (S.out) ?_ ?_
    rotate_left
    · intro W hW
      go_simp
      with_reducible rfl
    simp only [Act.put, List.setIfInBounds_toArray, List.set_cons_zero, List.set_cons_succ]
    refine road_q (v := ?_) rfl rfl (S.out) ?_ ?_
    rotate_left
    · intro W hW
      go_simp
      with_reducible rfl
    simp only [Act.put, List.setIfInBounds_toArray, List.set_cons_zero, List.set_cons_succ]
    refine road_q (v := ?_) rfl rfl (S.out) ?_ ?_
    rotate_left
    · intro W hW
      go_simp
      with_reducible rfl
    simp only [Act.put, List.setIfInBounds_toArray, List.set_cons_zero, List.set_cons_succ]
    refine road_q (v := ?_) rfl rfl (S.out) ?_ ?_
    rotate_left
    · intro W hW
      go_simp
      with_reducible rfl
    simp only [Act.put, List.setIfInBounds_toArray, List.set_cons_zero, List.set_cons_succ]
    refine road_q (v := ?_) rfl rfl (S.out) ?_ ?_
    rotate_left
    · intro W hW
      go_simp
      with_reducible rfl
    simp only [Act.put, List.setIfInBounds_toArray, List.set_cons_zero, List.set_cons_succ]
    refine road_q (v := ?_) rfl rfl (S.out) ?_ ?_
    rotate_left
    · intro W hW
      go_simp
      with_reducible rfl
    simp only [Act.put, List.setIfInBounds_toArray, List.set_cons_zero, List.set_cons_succ]
    refine road_q (v := ?_) rfl rfl (S.out) ?_ ?_
    rotate_left
    · intro W hW
      go_simp
      with_reducible rfl
    simp only [Act.put, List.setIfInBounds_toArray, List.set_cons_zero, List.set_cons_succ]
    refine road_q (v := ?_) rfl rfl (S.out) ?_ ?_
    rotate_left
    · intro W hW
      go_simp
      with_reducible rfl
    simp only [Act.put, List.setIfInBounds_toArray, List.set_cons_zero, List.set_cons_succ]
    refine road_q (v := ?_) rfl rfl (S.out) ?_ ?_
    rotate_left
    · intro W hW
      go_simp
      with_reducible rfl
    simp only [Act.put, List.setIfInBounds_toArray, List.set_cons_zero, List.set_cons_succ]
    clear s1 s2
    refine road_two ?_ ?_
    ·
      refine road_t rfl rfl (fun K hK => ?_)
      go_simp
      refine (zeros_any l.length (by have := HL.out; have := HL2.out; omega) _).mono ?_
      rintro e wd ⟨rfl, hw⟩
      rw [hw]
      clear hw wd
      refine hK.out _ _ (S.out) ?_
      clear hK K
      refine road_q rfl rfl (S.out) (fun W hW => run_cat 9 _ (.tmp 26) (.tmp 29) rfl _ _ rfl rfl (by have := HL.out; have := HL2.out; have := zerosL_length l.length; have := zerosL_length l2.length; (try simp only [List.length_append, leL_length]); omega) W) ?_
      simp only [Act.put, List.setIfInBounds_toArray, List.set_cons_zero, List.set_cons_succ]
      refine road_q rfl rfl (S.out) (fun W hW => run_cat 9 _ (.tmp 30) (.tmp 31) rfl _ _ rfl rfl (by have := HL.out; have := HL2.out; have := zerosL_length l.length; have := zerosL_length l2.length; (try simp only [List.length_append, leL_length]); omega) W) ?_
      simp only [Act.put, List.setIfInBounds_toArray, List.set_cons_zero, List.set_cons_succ]
      refine road_two ?_ ?_
      ·
        refine road_t rfl rfl (fun K hK => ?_)
        go_simp
        refine (zeros_any l2.length (by have := HL.out; have := HL2.out; omega) _).mono ?_
        rintro e wd ⟨rfl, hw⟩
        rw [hw]
        clear hw wd
        refine hK.out _ _ (S.out) ?_
        clear hK K
        refine road_q rfl rfl (S.out) (fun W hW => run_cat 9 _ (.tmp 32) (.tmp 35) rfl _ _ rfl rfl (by have := HL.out; have := HL2.out; have := zerosL_length l.length; have := zerosL_length l2.length; (try simp only [List.length_append, leL_length]); omega) W) ?_
        simp only [Act.put, List.setIfInBounds_toArray, List.set_cons_zero, List.set_cons_succ]
        refine road_two ?_ ?_
        ·
          refine road_t rfl rfl (fun K hK => ?_)
          go_simp
          refine (length_any l.length (by have := HL.out; have := HL2.out; omega) _).mono ?_
          rintro e w5 ⟨rfl, hb⟩
          have S := Lib.hid (S.out.trans (hb.mono S.out.size))
          try have R := Lib.hid (below_block hb (row_lt R.out) R.out)
          clear hb
          refine hK.out _ _ (S.out) ?_
          clear hK K
          refine road_q rfl rfl (S.out) (fun W hW => run_cat 9 _ (.tmp 36) (.tmp 39) rfl _ _ rfl rfl (by have := HL.out; have := HL2.out; have := zerosL_length l.length; have := zerosL_length l2.length; (try simp only [List.length_append, leL_length]); omega) W) ?_
          simp only [Act.put, List.setIfInBounds_toArray, List.set_cons_zero, List.set_cons_succ]
          refine road_two ?_ ?_
          ·
            refine road_t rfl rfl (fun K hK => ?_)
            go_simp
            refine (length_any l2.length (by have := HL.out; have := HL2.out; omega) _).mono ?_
            rintro e w5 ⟨rfl, hb⟩
            have S := Lib.hid (S.out.trans (hb.mono S.out.size))
            try have R := Lib.hid (below_block hb (row_lt R.out) R.out)
            clear hb
            refine hK.out _ _ (S.out) ?_
            clear hK K
            refine road_q rfl rfl (S.out) (fun W hW => run_cat 9 _ (.tmp 40) (.tmp 43) rfl _ _ rfl rfl (by have := HL.out; have := HL2.out; have := zerosL_length l.length; have := zerosL_length l2.length; (try simp only [List.length_append, leL_length]); omega) W) ?_
            simp only [Act.put, List.setIfInBounds_toArray, List.set_cons_zero, List.set_cons_succ]
            refine road_two ?_ ?_
            ·
              refine road_t rfl rfl (fun K hK => ?_)
              go_simp
              refine (rpsum_any Kh KL.out _ _ rfl (by have := HL.out; have := HL2.out; have := zerosL_length l.length; have := zerosL_length l2.length; (try simp only [List.length_append, leL_length]); omega) _).mono ?_
              rw [TP.out]
              rintro e w5 ⟨rfl, hb⟩
              have S := Lib.hid (S.out.trans (hb.mono S.out.size))
              try have R := Lib.hid (below_block hb (row_lt R.out) R.out)
              clear hb
              refine hK.out _ _ (S.out) ?_
              clear hK K
              refine road_t rfl rfl (fun K hK => ?_)
              go_simp
              rw [← Z.out]
              generalize hM : Array.size (World.heap w5) = M9
              generalize hw : World.alloc w5 _ = w6
              have MS := Lib.hid (show w4.heap.size ≤ M9 by rw [← hM]; exact S.out.size)
              have R := Lib.hid (show w6.heap[M9]? = some (.cells (W8 Z16) 29 (0, 0)) by rw [← hw]; exact ha_new _ _ _ hM.symm)
              have S := Lib.hid (show Below w4.heap.size w4 w6 by rw [← hw]; exact S.out.alloc S.out.size _)
              clear hM hw
              generalize hww : w6 = w5 at *
              clear hww
              refine hK.out _ _ (S.out) ?_
              clear hK K
              refine road_t rfl rfl (fun K hK => ?_)
              refine storeW_wp 29 (.tmp 12) (.tmp 45) rfl M9 (W8 T) rfl rfl _ _ R.out (info_16 TL.out) (by rw [W8_size, W8_size, TL.out]; rfl) (W8_one _) ?_
              intro w9 hz9 hg9 _
              have R := Lib.hid hz9
              have S := Lib.hid (S.out.trans (grown_below hg9 S.out.size (by rintro g ⟨⟩; exact MS.out)))
              clear hz9 hg9
              refine hK.out _ _ (S.out) ?_
              clear hK K
              refine road_done ?_
              simp only [Act.put]
              go_wp2_with fail
              go_meet
              exact ⟨M9, rfl, R.out, S.out⟩
            ·
              refine road_t rfl rfl (fun K hK => ?_)
              go_simp
              rw [← Z.out]
              generalize hM : Array.size (World.heap w5) = M9
              generalize hw : World.alloc w5 _ = w6
              have MS := Lib.hid (show w4.heap.size ≤ M9 by rw [← hM]; exact S.out.size)
              have R := Lib.hid (show w6.heap[M9]? = some (.cells (W8 Z16) 29 (0, 0)) by rw [← hw]; exact ha_new _ _ _ hM.symm)
              have S := Lib.hid (show Below w4.heap.size w4 w6 by rw [← hw]; exact S.out.alloc S.out.size _)
              clear hM hw
              generalize hww : w6 = w5 at *
              clear hww
              refine hK.out _ _ (S.out) ?_
              clear hK K
              refine road_t rfl rfl (fun K hK => ?_)
              go_simp
              refine (rpsum_any Kh KL.out _ _ rfl (by have := HL.out; have := HL2.out; have := zerosL_length l.length; have := zerosL_length l2.length; (try simp only [List.length_append, leL_length]); omega) _).mono ?_
              rw [TP.out]
              rintro e w5 ⟨rfl, hb⟩
              have S := Lib.hid (S.out.trans (hb.mono S.out.size))
              try have R := Lib.hid (below_block hb (row_lt R.out) R.out)
              clear hb
              refine hK.out _ _ (S.out) ?_
              clear hK K
              refine road_t rfl rfl (fun K hK => ?_)
              refine storeW_wp 29 (.tmp 12) (.tmp 45) rfl M9 (W8 T) rfl rfl _ _ R.out (info_16 TL.out) (by rw [W8_size, W8_size, TL.out]; rfl) (W8_one _) ?_
              intro w9 hz9 hg9 _
              have R := Lib.hid hz9
              have S := Lib.hid (S.out.trans (grown_below hg9 S.out.size (by rintro g ⟨⟩; exact MS.out)))
              clear hz9 hg9
              refine hK.out _ _ (S.out) ?_
              clear hK K
              refine road_done ?_
              simp only [Act.put]
              go_wp2_with fail
              go_meet
              exact ⟨M9, rfl, R.out, S.out⟩
          ·
            refine road_t rfl rfl (fun K hK => ?_)
            go_simp
            rw [← Z.out]
            generalize hM : Array.size (World.heap w5) = M9
            generalize hw : World.alloc w5 _ = w6
            have MS := Lib.hid (show w4.heap.size ≤ M9 by rw [← hM]; exact S.out.size)
            have R := Lib.hid (show w6.heap[M9]? = some (.cells (W8 Z16) 29 (0, 0)) by rw [← hw]; exact ha_new _ _ _ hM.symm)
            have S := Lib.hid (show Below w4.heap.size w4 w6 by rw [← hw]; exact S.out.alloc S.out.size _)
            clear hM hw
            generalize hww : w6 = w5 at *
            clear hww
            refine hK.out _ _ (S.out) ?_
            clear hK K
            refine road_t rfl rfl (fun K hK => ?_)
            go_simp
            refine (length_any l2.length (by have := HL.out; have := HL2.out; omega) _).mono ?_
            rintro e w5 ⟨rfl, hb⟩
            have S := Lib.hid (S.out.trans (hb.mono S.out.size))
            try have R := Lib.hid (below_block hb (row_lt R.out) R.out)
            clear hb
            refine hK.out _ _ (S.out) ?_
            clear hK K
            refine road_q rfl rfl (S.out) (fun W hW => run_cat 9 _ (.tmp 40) (.tmp 43) rfl _ _ rfl rfl (by have := HL.out; have := HL2.out; have := zerosL_length l.length; have := zerosL_length l2.length; (try simp only [List.length_append, leL_length]); omega) W) ?_
            simp only [Act.put, List.setIfInBounds_toArray, List.set_cons_zero, List.set_cons_succ]
            refine road_t rfl rfl (fun K hK => ?_)
            go_simp
            refine (rpsum_any Kh KL.out _ _ rfl (by have := HL.out; have := HL2.out; have := zerosL_length l.length; have := zerosL_length l2.length; (try simp only [List.length_append, leL_length]); omega) _).mono ?_
            rw [TP.out]
            rintro e w5 ⟨rfl, hb⟩
            have S := Lib.hid (S.out.trans (hb.mono S.out.size))
            try have R := Lib.hid (below_block hb (row_lt R.out) R.out)
            clear hb
            refine hK.out _ _ (S.out) ?_
            clear hK K
            refine road_t rfl rfl (fun K hK => ?_)
            refine storeW_wp 29 (.tmp 12) (.tmp 45) rfl M9 (W8 T) rfl rfl _ _ R.out (info_16 TL.out) (by rw [W8_size, W8_size, TL.out]; rfl) (W8_one _) ?_
            intro w9 hz9 hg9 _
            have R := Lib.hid hz9
            have S := Lib.hid (S.out.trans (grown_below hg9 S.out.size (by rintro g ⟨⟩; exact MS.out)))
            clear hz9 hg9
            refine hK.out _ _ (S.out) ?_
            clear hK K
            refine road_done ?_
            simp only [Act.put]
            go_wp2_with fail
            go_meet
            exact ⟨M9, rfl, R.out, S.out⟩
        ·
          refine road_t rfl rfl (fun K hK => ?_)
          go_simp
          rw [← Z.out]
          generalize hM : Array.size (World.heap w5) = M9
          generalize hw : World.alloc w5 _ = w6
          have MS := Lib.hid (show w4.heap.size ≤ M9 by rw [← hM]; exact S.out.size)
          have R := Lib.hid (show w6.heap[M9]? = some (.cells (W8 Z16) 29 (0, 0)) by rw [← hw]; exact ha_new _ _ _ hM.symm)
          have S := Lib.hid (show Below w4.heap.size w4 w6 by rw [← hw]; exact S.out.alloc S.out.size _)
          clear hM hw
          generalize hww : w6 = w5 at *
          clear hww
          refine hK.out _ _ (S.out) ?_
          clear hK K
          refine road_t rfl rfl (fun K hK => ?_)
          go_simp
          refine (length_any l.length (by have := HL.out; have := HL2.out; omega) _).mono ?_
          rintro e w5 ⟨rfl, hb⟩
          have S := Lib.hid (S.out.trans (hb.mono S.out.size))
          try have R := Lib.hid (below_block hb (row_lt R.out) R.out)
          clear hb
          refine hK.out _ _ (S.out) ?_
          clear hK K
          refine road_q rfl rfl (S.out) (fun W hW => run_cat 9 _ (.tmp 36) (.tmp 39) rfl _ _ rfl rfl (by have := HL.out; have := HL2.out; have := zerosL_length l.length; have := zerosL_length l2.length; (try simp only [List.length_append, leL_length]); omega) W) ?_
          simp only [Act.put, List.setIfInBounds_toArray, List.set_cons_zero, List.set_cons_succ]
          refine road_t rfl rfl (fun K hK => ?_)
          go_simp
          refine (length_any l2.length (by have := HL.out; have := HL2.out; omega) _).mono ?_
          rintro e w5 ⟨rfl, hb⟩
          have S := Lib.hid (S.out.trans (hb.mono S.out.size))
          try have R := Lib.hid (below_block hb (row_lt R.out) R.out)
          clear hb
          refine hK.out _ _ (S.out) ?_
          clear hK K
          refine road_q rfl rfl (S.out) (fun W hW => run_cat 9 _ (.tmp 40) (.tmp 43) rfl _ _ rfl rfl (by have := HL.out; have := HL2.out; have := zerosL_length l.length; have := zerosL_length l2.length; (try simp only [List.length_append, leL_length]); omega) W) ?_
          simp only [Act.put, List.setIfInBounds_toArray, List.set_cons_zero, List.set_cons_succ]
          refine road_t rfl rfl (fun K hK => ?_)
          go_simp
          refine (rpsum_any Kh KL.out _ _ rfl (by have := HL.out; have := HL2.out; have := zerosL_length l.length; have := zerosL_length l2.length; (try simp only [List.length_append, leL_length]); omega) _).mono ?_
          rw [TP.out]
          rintro e w5 ⟨rfl, hb⟩
          have S := Lib.hid (S.out.trans (hb.mono S.out.size))
          try have R := Lib.hid (below_block hb (row_lt R.out) R.out)
          clear hb
          refine hK.out _ _ (S.out) ?_
          clear hK K
          refine road_t rfl rfl (fun K hK => ?_)
          refine storeW_wp 29 (.tmp 12) (.tmp 45) rfl M9 (W8 T) rfl rfl _ _ R.out (info_16 TL.out) (by rw [W8_size, W8_size, TL.out]; rfl) (W8_one _) ?_
          intro w9 hz9 hg9 _
          have R := Lib.hid hz9
          have S := Lib.hid (S.out.trans (grown_below hg9 S.out.size (by rintro g ⟨⟩; exact MS.out)))
          clear hz9 hg9
          refine hK.out _ _ (S.out) ?_
          clear hK K
          refine road_done ?_
          simp only [Act.put]
          go_wp2_with fail
          go_meet
          exact ⟨M9, rfl, R.out, S.out⟩
      ·
        refine road_t rfl rfl (fun K hK => ?_)
        go_simp
        rw [← Z.out]
        generalize hM : Array.size (World.heap w5) = M9
        generalize hw : World.alloc w5 _ = w6
        have MS := Lib.hid (show w4.heap.size ≤ M9 by rw [← hM]; exact S.out.size)
        have R := Lib.hid (show w6.heap[M9]? = some (.cells (W8 Z16) 29 (0, 0)) by rw [← hw]; exact ha_new _ _ _ hM.symm)
        have S := Lib.hid (show Below w4.heap.size w4 w6 by rw [← hw]; exact S.out.alloc S.out.size _)
        clear hM hw
        generalize hww : w6 = w5 at *
        clear hww
        refine hK.out _ _ (S.out) ?_
        clear hK K
        refine road_t rfl rfl (fun K hK => ?_)
        go_simp
        refine (zeros_any l2.length (by have := HL.out; have := HL2.out; omega) _).mono ?_
        rintro e wd ⟨rfl, hw⟩
        rw [hw]
        clear hw wd
        refine hK.out _ _ (S.out) ?_
        clear hK K
        refine road_q rfl rfl (S.out) (fun W hW => run_cat 9 _ (.tmp 32) (.tmp 35) rfl _ _ rfl rfl (by have := HL.out; have := HL2.out; have := zerosL_length l.length; have := zerosL_length l2.length; (try simp only [List.length_append, leL_length]); omega) W) ?_
        simp only [Act.put, List.setIfInBounds_toArray, List.set_cons_zero, List.set_cons_succ]
        refine road_t rfl rfl (fun K hK => ?_)
        go_simp
        refine (length_any l.length (by have := HL.out; have := HL2.out; omega) _).mono ?_
        rintro e w5 ⟨rfl, hb⟩
        have S := Lib.hid (S.out.trans (hb.mono S.out.size))
        try have R := Lib.hid (below_block hb (row_lt R.out) R.out)
        clear hb
        refine hK.out _ _ (S.out) ?_
        clear hK K
        refine road_q rfl rfl (S.out) (fun W hW => run_cat 9 _ (.tmp 36) (.tmp 39) rfl _ _ rfl rfl (by have := HL.out; have := HL2.out; have := zerosL_length l.length; have := zerosL_length l2.length; (try simp only [List.length_append, leL_length]); omega) W) ?_
        simp only [Act.put, List.setIfInBounds_toArray, List.set_cons_zero, List.set_cons_succ]
        refine road_t rfl rfl (fun K hK => ?_)
        go_simp
        refine (length_any l2.length (by have := HL.out; have := HL2.out; omega) _).mono ?_
        rintro e w5 ⟨rfl, hb⟩
        have S := Lib.hid (S.out.trans (hb.mono S.out.size))
        try have R := Lib.hid (below_block hb (row_lt R.out) R.out)
        clear hb
        refine hK.out _ _ (S.out) ?_
        clear hK K
        refine road_q rfl rfl (S.out) (fun W hW => run_cat 9 _ (.tmp 40) (.tmp 43) rfl _ _ rfl rfl (by have := HL.out; have := HL2.out; have := zerosL_length l.length; have := zerosL_length l2.length; (try simp only [List.length_append, leL_length]); omega) W) ?_
        simp only [Act.put, List.setIfInBounds_toArray, List.set_cons_zero, List.set_cons_succ]
        refine road_t rfl rfl (fun K hK => ?_)
        go_simp
        refine (rpsum_any Kh KL.out _ _ rfl (by have := HL.out; have := HL2.out; have := zerosL_length l.length; have := zerosL_length l2.length; (try simp only [List.length_append, leL_length]); omega) _).mono ?_
        rw [TP.out]
        rintro e w5 ⟨rfl, hb⟩
        have S := Lib.hid (S.out.trans (hb.mono S.out.size))
        try have R := Lib.hid (below_block hb (row_lt R.out) R.out)
        clear hb
        refine hK.out _ _ (S.out) ?_
        clear hK K
        refine road_t rfl rfl (fun K hK => ?_)
        refine storeW_wp 29 (.tmp 12) (.tmp 45) rfl M9 (W8 T) rfl rfl _ _ R.out (info_16 TL.out) (by rw [W8_size, W8_size, TL.out]; rfl) (W8_one _) ?_
        intro w9 hz9 hg9 _
        have R := Lib.hid hz9
        have S := Lib.hid (S.out.trans (grown_below hg9 S.out.size (by rintro g ⟨⟩; exact MS.out)))
        clear hz9 hg9
        refine hK.out _ _ (S.out) ?_
        clear hK K
        refine road_done ?_
        simp only [Act.put]
        go_wp2_with fail
        go_meet
        exact ⟨M9, rfl, R.out, S.out⟩
    ·
      refine road_t rfl rfl (fun K hK => ?_)
      go_simp
      rw [← Z.out]
      generalize hM : Array.size (World.heap w5) = M9
      generalize hw : World.alloc w5 _ = w6
      have MS := Lib.hid (show w4.heap.size ≤ M9 by rw [← hM]; exact S.out.size)
      have R := Lib.hid (show w6.heap[M9]? = some (.cells (W8 Z16) 29 (0, 0)) by rw [← hw]; exact ha_new _ _ _ hM.symm)
      have S := Lib.hid (show Below w4.heap.size w4 w6 by rw [← hw]; exact S.out.alloc S.out.size _)
      clear hM hw
      generalize hww : w6 = w5 at *
      clear hww
      refine hK.out _ _ (S.out) ?_
      clear hK K
      refine road_t rfl rfl (fun K hK => ?_)
      go_simp
      refine (zeros_any l.length (by have := HL.out; have := HL2.out; omega) _).mono ?_
      rintro e wd ⟨rfl, hw⟩
      rw [hw]
      clear hw wd
      refine hK.out _ _ (S.out) ?_
      clear hK K
      refine road_q rfl rfl (S.out) (fun W hW => run_cat 9 _ (.tmp 26) (.tmp 29) rfl _ _ rfl rfl (by have := HL.out; have := HL2.out; have := zerosL_length l.length; have := zerosL_length l2.length; (try simp only [List.length_append, leL_length]); omega) W) ?_
      simp only [Act.put, List.setIfInBounds_toArray, List.set_cons_zero, List.set_cons_succ]
      refine road_q rfl rfl (S.out) (fun W hW => run_cat 9 _ (.tmp 30) (.tmp 31) rfl _ _ rfl rfl (by have := HL.out; have := HL2.out; have := zerosL_length l.length; have := zerosL_length l2.length; (try simp only [List.length_append, leL_length]); omega) W) ?_
      simp only [Act.put, List.setIfInBounds_toArray, List.set_cons_zero, List.set_cons_succ]
      refine road_t rfl rfl (fun K hK => ?_)
      go_simp
      refine (zeros_any l2.length (by have := HL.out; have := HL2.out; omega) _).mono ?_
      rintro e wd ⟨rfl, hw⟩
      rw [hw]
      clear hw wd
      refine hK.out _ _ (S.out) ?_
      clear hK K
      refine road_q rfl rfl (S.out) (fun W hW => run_cat 9 _ (.tmp 32) (.tmp 35) rfl _ _ rfl rfl (by have := HL.out; have := HL2.out; have := zerosL_length l.length; have := zerosL_length l2.length; (try simp only [List.length_append, leL_length]); omega) W) ?_
      simp only [Act.put, List.setIfInBounds_toArray, List.set_cons_zero, List.set_cons_succ]
      refine road_t rfl rfl (fun K hK => ?_)
      go_simp
      refine (length_any l.length (by have := HL.out; have := HL2.out; omega) _).mono ?_
      rintro e w5 ⟨rfl, hb⟩
      have S := Lib.hid (S.out.trans (hb.mono S.out.size))
      try have R := Lib.hid (below_block hb (row_lt R.out) R.out)
      clear hb
      refine hK.out _ _ (S.out) ?_
      clear hK K
      refine road_q rfl rfl (S.out) (fun W hW => run_cat 9 _ (.tmp 36) (.tmp 39) rfl _ _ rfl rfl (by have := HL.out; have := HL2.out; have := zerosL_length l.length; have := zerosL_length l2.length; (try simp only [List.length_append, leL_length]); omega) W) ?_
      simp only [Act.put, List.setIfInBounds_toArray, List.set_cons_zero, List.set_cons_succ]
      refine road_t rfl rfl (fun K hK => ?_)
      go_simp
      refine (length_any l2.length (by have := HL.out; have := HL2.out; omega) _).mono ?_
      rintro e w5 ⟨rfl, hb⟩
      have S := Lib.hid (S.out.trans (hb.mono S.out.size))
      try have R := Lib.hid (below_block hb (row_lt R.out) R.out)
      clear hb
      refine hK.out _ _ (S.out) ?_
      clear hK K
      refine road_q rfl rfl (S.out) (fun W hW => run_cat 9 _ (.tmp 40) (.tmp 43) rfl _ _ rfl rfl (by have := HL.out; have := HL2.out; have := zerosL_length l.length; have := zerosL_length l2.length; (try simp only [List.length_append, leL_length]); omega) W) ?_
      simp only [Act.put, List.setIfInBounds_toArray, List.set_cons_zero, List.set_cons_succ]
      refine road_t rfl rfl (fun K hK => ?_)
      go_simp
      refine (rpsum_any Kh KL.out _ _ rfl (by have := HL.out; have := HL2.out; have := zerosL_length l.length; have := zerosL_length l2.length; (try simp only [List.length_append, leL_length]); omega) _).mono ?_
      rw [TP.out]
      rintro e w5 ⟨rfl, hb⟩
      have S := Lib.hid (S.out.trans (hb.mono S.out.size))
      try have R := Lib.hid (below_block hb (row_lt R.out) R.out)
      clear hb
      refine hK.out _ _ (S.out) ?_
      clear hK K
      refine road_t rfl rfl (fun K hK => ?_)
      refine storeW_wp 29 (.tmp 12) (.tmp 45) rfl M9 (W8 T) rfl rfl _ _ R.out (info_16 TL.out) (by rw [W8_size, W8_size, TL.out]; rfl) (W8_one _) ?_
      intro w9 hz9 hg9 _
      have R := Lib.hid hz9
      have S := Lib.hid (S.out.trans (grown_below hg9 S.out.size (by rintro g ⟨⟩; exact MS.out)))
      clear hz9 hg9
      refine hK.out _ _ (S.out) ?_
      clear hK K
      refine road_done ?_
      simp only [Act.put]
      go_wp2_with fail
      go_meet
      exact ⟨M9, rfl, R.out, S.out⟩
  case rest =>
  obtain ⟨M9, rfl, hr, hb⟩ := hcut
  have R := Lib.hid (RdB.row hr)
  have BF := Lib.hid (S.out.bel.trans (hb.mono S.out.bel.size))
  clear hr hb
  go_wp2_with (first
    | (refine wpList_val rfl (run_arr_all 29 (.tmp 12) rfl 16 5 Try.underlying29 I0.out M9 rfl _) ?_)
    | (refine wpList_val rfl (run_str 24 9 (.tmp 46) rfl Try.underlying24 Try.underlying5 Try.underlying9 R.out 16 16 TL.out rfl) ?_))
  go_ret
  exact ⟨rfl, BF.out⟩

set_option maxRecDepth 100000 in
set_option maxHeartbeats 2000000 in
theorem rseal_any (k n : List UInt8) (hk : k.length = 32) (hn : n.length = 12) (l l2 : List UInt8) (hl : l.length ≤ 1000) (hl2 : l2.length ≤ 1000) (w : World) :
    Calls Try.prog 11 #[.string (strB k), .string (strB n), .string (strB l), .string (strB l2)] w fun e w' => e = .returned (.string (strB (sealL k n l l2))) ∧ Below w.heap.size w w' := by
  have HK := Lib.hid hk
  have HN := Lib.hid hn
  have HL := Lib.hid hl
  have HL2 := Lib.hid hl2
  obtain ⟨X, hX⟩ : ∃ X, X = streamL k n 1 l2 := ⟨_, rfl⟩
  obtain ⟨T, hT⟩ : ∃ T, T = tagL k n l X := ⟨_, rfl⟩
  have XE := Lib.hid hX
  have TE := Lib.hid hT
  have XL := Lib.hid (show X.length ≤ 1000 by rw [hX, streamL_length]; exact hl2)
  have TL := Lib.hid (show T.length = 16 by rw [hT, tagL_length])
  have SE := Lib.hid (show X ++ T = sealL k n l l2 by rw [hT, hX]; rfl)
  rw [← SE.out]
  clear hk hn hl hl2 hX hT
  go_enter Try.func11, Try.ntmps11
  go_wp2_with fail
  refine (refStream_any k n HK.out HN.out 1 l2 HL2.out w).mono ?_
  rw [← XE.out]
  rintro e w1 ⟨rfl, hb⟩
  have S := Lib.hid hb
  clear hb
  go_wp2_with fail
  refine (rtag_any k n HK.out HN.out l X HL.out XL.out w1).mono ?_
  rw [← TE.out]
  rintro e w2 ⟨rfl, hb⟩
  have S := Lib.hid (S.out.trans (hb.mono S.out.size))
  clear hb
  go_wp2_with (refine wpList_val rfl (run_cat 9 _ (.tmp 14) (.tmp 19) rfl X T rfl rfl (by have := XL.out; have := TL.out; omega) _) ?_)
  go_ret
  exact ⟨rfl, S.out⟩
theorem run_neqstr_true {P : Program} {o : Oper} {a : Act} (t t2 : TypeId) (x y : Operand) (ho : o.op = .binOp .neq t x y t2) (l l' : List UInt8) (h : l ≠ l') (hx : a.eval x = .string (strB l)) (hy : a.eval y = .string (strB l')) (W : World) : (execOp a.eval o).run P W = .ok (.value (.bool true)) W := by
  have e : ((strB l).toList == (strB l').toList) = false := by rw [strB_beq]; simpa using h
  unfold execOp
  simp only [ho, hx, hy, Sem.run_bind, Sem.run_pure]
  go_simp
def ROpenP (w : World) (r : Option (List UInt8)) (e : Ending) (w' : World) : Prop := e = .returned (.tuple #[.string (strB (r.getD [])), .bool r.isSome]) ∧ Below w.heap.size w w'
set_option maxRecDepth 100000 in
set_option maxHeartbeats 4000000 in
theorem ropen_any (k n : List UInt8) (hk : k.length = 32) (hn : n.length = 12) (l l2 : List UInt8) (q : Nat) (hq : l2.length = q) (hl : l.length ≤ 1000) (hl2 : q ≤ 1000) (w : World) :
    Calls Try.prog 10 #[.string (strB k), .string (strB n), .string (strB l), .string (strB l2)] w (ROpenP w (openL k n l l2)) := by
  have HK := Lib.hid hk
  have HN := Lib.hid hn
  have HL := Lib.hid hl
  have HQ := Lib.hid hq
  have HQ2 := Lib.hid hl2
  have SZ := strB_size l2
  rw [hq] at SZ
  have qb : (q : Int) ≤ 1000 := by omega
  clear hk hn hl hq hl2
  by_cases h16 : q < 16
  · have OE := Lib.hid (show openL k n l l2 = none by rw [openL, if_pos (by rw [HQ.out]; exact h16)])
    have hD : decide ((q : Int) - 16 < 0) = true := by simp; omega
    rw [OE.out]
    go_enter Try.func10, Try.ntmps10
    go_upto_region 2 with fail
    clear SZ
    have B := Lib.hid (show Below w.heap.size w w.drew from (Below.refl _ _).drew)
    refine wp_region_road (fun W => Below w.heap.size w W) [(true, 0), (true, 1), (true, 2), (true, 3), (true, 4), (true, 5), (true, 6), (true, 7), (true, 8), (true, 10), (true, 11), (true, 12), (false, 9), (true, 13), (true, 14)] (by kernel_rfl) (by kernel_rfl) (fun _ _ d _ _ h => by cases d <;> exact h) ?_
    simp only [List.filterMap_cons, List.filterMap_nil, List.getElem?_toArray, List.getElem?_cons_zero, List.getElem?_cons_succ, Option.map_some]
    refine planG_q (v := ?_) (by rfl) (B.out) ?_ ?_
    rotate_left
    · intro W hW
      go_simp
      with_reducible rfl
    simp only [Act.put, List.setIfInBounds_toArray, List.set_cons_zero, List.set_cons_succ]
    refine planG_q (v := ?_) (by rfl) (B.out) ?_ ?_
    rotate_left
    · intro W hW
      go_simp
      with_reducible rfl
    simp only [Act.put, List.setIfInBounds_toArray, List.set_cons_zero, List.set_cons_succ]
    refine planG_q (v := ?_) (by rfl) (B.out) ?_ ?_
    rotate_left
    · intro W hW
      go_simp
      with_reducible rfl
    simp only [Act.put, List.setIfInBounds_toArray, List.set_cons_zero, List.set_cons_succ]
    refine planG_qs (by rfl) (B.out) ?_
    simp only [Act.put, List.setIfInBounds_toArray, List.set_cons_zero, List.set_cons_succ]
    refine planG_qs (by rfl) (B.out) ?_
    simp only [Act.put, List.setIfInBounds_toArray, List.set_cons_zero, List.set_cons_succ]
    refine planG_qs (by rfl) (B.out) ?_
    simp only [Act.put, List.setIfInBounds_toArray, List.set_cons_zero, List.set_cons_succ]
    refine planG_qs (by rfl) (B.out) ?_
    simp only [Act.put, List.setIfInBounds_toArray, List.set_cons_zero, List.set_cons_succ]
    refine planG_qs (by rfl) (B.out) ?_
    simp only [Act.put, List.setIfInBounds_toArray, List.set_cons_zero, List.set_cons_succ]
    refine planG_qs (by rfl) (B.out) ?_
    simp only [Act.put, List.setIfInBounds_toArray, List.set_cons_zero, List.set_cons_succ]
    refine planG_qs (by rfl) (B.out) ?_
    simp only [Act.put, List.setIfInBounds_toArray, List.set_cons_zero, List.set_cons_succ]
    refine planG_qs (by rfl) (B.out) ?_
    simp only [Act.put, List.setIfInBounds_toArray, List.set_cons_zero, List.set_cons_succ]
    refine planG_qs (by rfl) (B.out) ?_
    simp only [Act.put, List.setIfInBounds_toArray, List.set_cons_zero, List.set_cons_succ]
    refine planG_ts (by rfl) (B.out) ?_
    simp only [Act.put, List.setIfInBounds_toArray, List.set_cons_zero, List.set_cons_succ]
    refine planG_qs (by rfl) (B.out) ?_
    simp only [Act.put, List.setIfInBounds_toArray, List.set_cons_zero, List.set_cons_succ]
    refine planG_q (v := ?_) (by rfl) (B.out) ?_ ?_
    rotate_left
    · intro W hW
      go_simp
      with_reducible rfl
    simp only [Act.put, List.setIfInBounds_toArray, List.set_cons_zero, List.set_cons_succ]
    refine planG_nil ?_
    go_wp2_with fail
    go_ret2
    exact ⟨rfl, B.out⟩
  · obtain ⟨at_, hat⟩ : ∃ a, q = a + 16 := ⟨q - 16, by omega⟩
    have e1 : (q : Int) - 16 = (at_ : Int) := by omega
    have hD : decide ((at_ : Int) < 0) = false := by simp
    have AE := Lib.hid hat
    obtain ⟨X, hX⟩ : ∃ X, X = l2.take at_ := ⟨_, rfl⟩
    obtain ⟨T, hT⟩ : ∃ T, T = tagL k n l X := ⟨_, rfl⟩
    obtain ⟨Y, hY⟩ : ∃ Y, Y = l2.drop at_ := ⟨_, rfl⟩
    have TE := Lib.hid hT
    have XE := Lib.hid hX.symm
    have YE := Lib.hid hY.symm
    have XL := Lib.hid (show X.length ≤ 1000 by rw [hX, List.length_take, HQ.out]; have := HQ2.out; omega)
    have RE := Lib.hid (show openL k n l l2 = if T = Y then some (streamL k n 1 X) else none by
      rw [openL, if_neg (by rw [HQ.out, AE.out]; omega), hT, hY, hX, show l2.length - 16 = at_ by rw [HQ.out, AE.out]; omega])
    rw [RE.out]
    clear hat h16 hX hT hY
    go_enter Try.func10, Try.ntmps10
    go_upto_region 2 with fail
    clear SZ e1
    have B := Lib.hid (show Below w.heap.size w w.drew from (Below.refl _ _).drew)
    by_cases hTY : T = Y
    · rw [if_pos hTY]
      have TY := Lib.hid hTY
      clear hTY
      refine wp_region_road (fun W => Below w.heap.size w W) [(true, 0), (true, 1), (true, 2), (true, 3), (true, 4), (true, 5), (true, 6), (true, 7), (true, 8), (true, 10), (true, 11), (true, 12), (false, 9), (true, 13), (true, 14)] (by kernel_rfl) (by kernel_rfl) (fun _ _ d _ _ h => by cases d <;> exact h) ?_
      simp only [List.filterMap_cons, List.filterMap_nil, List.getElem?_toArray, List.getElem?_cons_zero, List.getElem?_cons_succ, Option.map_some]
      refine planG_q (v := ?_) (by rfl) (B.out) ?_ ?_
      rotate_left
      · intro W hW
        go_simp
        with_reducible rfl
      simp only [Act.put, List.setIfInBounds_toArray, List.set_cons_zero, List.set_cons_succ]
      refine planG_q (v := ?_) (by rfl) (B.out) ?_ ?_
      rotate_left
      · intro W hW
        go_simp
        with_reducible rfl
      simp only [Act.put, List.setIfInBounds_toArray, List.set_cons_zero, List.set_cons_succ]
      refine planG_q (v := ?_) (by rfl) (B.out) ?_ ?_
      rotate_left
      · intro W hW
        go_simp
        with_reducible rfl
      simp only [Act.put, List.setIfInBounds_toArray, List.set_cons_zero, List.set_cons_succ]
      refine planG_q (v := ?_) (by rfl) (B.out) ?_ ?_
      rotate_left
      · intro W hW
        go_simp
        with_reducible rfl
      simp only [Act.put, List.setIfInBounds_toArray, List.set_cons_zero, List.set_cons_succ]
      refine planG_q (v := ?_) (by rfl) (B.out) ?_ ?_
      rotate_left
      · intro W hW
        go_simp
        with_reducible rfl
      simp only [Act.put, List.setIfInBounds_toArray, List.set_cons_zero, List.set_cons_succ]
      refine planG_q (v := ?_) (by rfl) (B.out) ?_ ?_
      rotate_left
      · intro W hW
        go_simp
        with_reducible rfl
      simp only [Act.put, List.setIfInBounds_toArray, List.set_cons_zero, List.set_cons_succ]
      refine planG_q (v := ?_) (by rfl) (B.out) ?_ ?_
      rotate_left
      · intro W hW
        go_simp
        with_reducible rfl
      simp only [Act.put, List.setIfInBounds_toArray, List.set_cons_zero, List.set_cons_succ]
      refine planG_q (v := ?_) (by rfl) (B.out) ?_ ?_
      rotate_left
      · intro W hW
        go_simp
        with_reducible rfl
      simp only [Act.put, List.setIfInBounds_toArray, List.set_cons_zero, List.set_cons_succ]
      refine planG_q (by rfl) (B.out) (fun W hW => run_str_to 9 (.tmp 20) (.tmp 21) rfl Try.underlying9 l2 at_ (by rw [HQ.out, AE.out]; omega) rfl rfl W) ?_
      simp only [Act.put, List.setIfInBounds_toArray, List.set_cons_zero, List.set_cons_succ]
      rw [XE.out]
      refine planG_q (v := ?_) (by rfl) (B.out) ?_ ?_
      rotate_left
      · intro W hW
        go_simp
        with_reducible rfl
      simp only [Act.put, List.setIfInBounds_toArray, List.set_cons_zero, List.set_cons_succ]
      refine planG_q (v := ?_) (by rfl) (B.out) ?_ ?_
      rotate_left
      · intro W hW
        go_simp
        with_reducible rfl
      simp only [Act.put, List.setIfInBounds_toArray, List.set_cons_zero, List.set_cons_succ]
      refine planG_q (by rfl) (B.out) (fun W hW => run_str_from 9 (.tmp 24) (.tmp 25) rfl Try.underlying9 l2 at_ (by rw [HQ.out, AE.out]; omega) rfl rfl W) ?_
      simp only [Act.put, List.setIfInBounds_toArray, List.set_cons_zero, List.set_cons_succ]
      rw [YE.out]
      refine planG_t (by rfl) (fun K hK => ?_)
      go_simp
      refine (rtag_any k n HK.out HN.out l X HL.out XL.out _).mono ?_
      rw [← TE.out]
      rintro e w1 ⟨rfl, hb⟩
      have B := Lib.hid (B.out.trans (hb.mono B.out.size))
      clear hb
      refine hK.out _ _ (B.out) ?_
      clear hK K
      refine planG_q (by rfl) (B.out) (fun W hW => run_neqstr_false 9 9 (.tmp 23) (.tmp 26) rfl T Y TY.out rfl rfl W) ?_
      simp only [Act.put, List.setIfInBounds_toArray, List.set_cons_zero, List.set_cons_succ]
      refine planG_q (v := ?_) (by rfl) (B.out) ?_ ?_
      rotate_left
      · intro W hW
        go_simp
        with_reducible rfl
      simp only [Act.put, List.setIfInBounds_toArray, List.set_cons_zero, List.set_cons_succ]
      refine planG_nil ?_
      go_wp2_with (refine wpList_val rfl (run_str_to 9 (.tmp 31) (.tmp 32) rfl Try.underlying9 l2 at_ (by rw [HQ.out, AE.out]; omega) rfl rfl _) ?_)
      rw [XE.out]
      refine (refStream_any k n HK.out HN.out 1 X XL.out w1).mono ?_
      rintro e w2 ⟨rfl, hb⟩
      have B := Lib.hid (B.out.trans (hb.mono B.out.size))
      clear hb
      go_wp2_with fail
      go_ret2
      exact ⟨rfl, B.out⟩
    · rw [if_neg hTY]
      have TY := Lib.hid hTY
      clear hTY
      refine wp_region_road (fun W => Below w.heap.size w W) [(true, 0), (true, 1), (true, 2), (true, 3), (true, 4), (true, 5), (true, 6), (true, 7), (true, 8), (true, 10), (true, 11), (true, 12), (false, 9), (true, 13), (true, 14)] (by kernel_rfl) (by kernel_rfl) (fun _ _ d _ _ h => by cases d <;> exact h) ?_
      simp only [List.filterMap_cons, List.filterMap_nil, List.getElem?_toArray, List.getElem?_cons_zero, List.getElem?_cons_succ, Option.map_some]
      refine planG_q (v := ?_) (by rfl) (B.out) ?_ ?_
      rotate_left
      · intro W hW
        go_simp
        with_reducible rfl
      simp only [Act.put, List.setIfInBounds_toArray, List.set_cons_zero, List.set_cons_succ]
      refine planG_q (v := ?_) (by rfl) (B.out) ?_ ?_
      rotate_left
      · intro W hW
        go_simp
        with_reducible rfl
      simp only [Act.put, List.setIfInBounds_toArray, List.set_cons_zero, List.set_cons_succ]
      refine planG_q (v := ?_) (by rfl) (B.out) ?_ ?_
      rotate_left
      · intro W hW
        go_simp
        with_reducible rfl
      simp only [Act.put, List.setIfInBounds_toArray, List.set_cons_zero, List.set_cons_succ]
      refine planG_q (v := ?_) (by rfl) (B.out) ?_ ?_
      rotate_left
      · intro W hW
        go_simp
        with_reducible rfl
      simp only [Act.put, List.setIfInBounds_toArray, List.set_cons_zero, List.set_cons_succ]
      refine planG_q (v := ?_) (by rfl) (B.out) ?_ ?_
      rotate_left
      · intro W hW
        go_simp
        with_reducible rfl
      simp only [Act.put, List.setIfInBounds_toArray, List.set_cons_zero, List.set_cons_succ]
      refine planG_q (v := ?_) (by rfl) (B.out) ?_ ?_
      rotate_left
      · intro W hW
        go_simp
        with_reducible rfl
      simp only [Act.put, List.setIfInBounds_toArray, List.set_cons_zero, List.set_cons_succ]
      refine planG_q (v := ?_) (by rfl) (B.out) ?_ ?_
      rotate_left
      · intro W hW
        go_simp
        with_reducible rfl
      simp only [Act.put, List.setIfInBounds_toArray, List.set_cons_zero, List.set_cons_succ]
      refine planG_q (v := ?_) (by rfl) (B.out) ?_ ?_
      rotate_left
      · intro W hW
        go_simp
        with_reducible rfl
      simp only [Act.put, List.setIfInBounds_toArray, List.set_cons_zero, List.set_cons_succ]
      refine planG_q (by rfl) (B.out) (fun W hW => run_str_to 9 (.tmp 20) (.tmp 21) rfl Try.underlying9 l2 at_ (by rw [HQ.out, AE.out]; omega) rfl rfl W) ?_
      simp only [Act.put, List.setIfInBounds_toArray, List.set_cons_zero, List.set_cons_succ]
      rw [XE.out]
      refine planG_q (v := ?_) (by rfl) (B.out) ?_ ?_
      rotate_left
      · intro W hW
        go_simp
        with_reducible rfl
      simp only [Act.put, List.setIfInBounds_toArray, List.set_cons_zero, List.set_cons_succ]
      refine planG_q (v := ?_) (by rfl) (B.out) ?_ ?_
      rotate_left
      · intro W hW
        go_simp
        with_reducible rfl
      simp only [Act.put, List.setIfInBounds_toArray, List.set_cons_zero, List.set_cons_succ]
      refine planG_q (by rfl) (B.out) (fun W hW => run_str_from 9 (.tmp 24) (.tmp 25) rfl Try.underlying9 l2 at_ (by rw [HQ.out, AE.out]; omega) rfl rfl W) ?_
      simp only [Act.put, List.setIfInBounds_toArray, List.set_cons_zero, List.set_cons_succ]
      rw [YE.out]
      refine planG_t (by rfl) (fun K hK => ?_)
      go_simp
      refine (rtag_any k n HK.out HN.out l X HL.out XL.out _).mono ?_
      rw [← TE.out]
      rintro e w1 ⟨rfl, hb⟩
      have B := Lib.hid (B.out.trans (hb.mono B.out.size))
      clear hb
      refine hK.out _ _ (B.out) ?_
      clear hK K
      refine planG_q (by rfl) (B.out) (fun W hW => run_neqstr_true 9 9 (.tmp 23) (.tmp 26) rfl T Y TY.out rfl rfl W) ?_
      simp only [Act.put, List.setIfInBounds_toArray, List.set_cons_zero, List.set_cons_succ]
      refine planG_q (v := ?_) (by rfl) (B.out) ?_ ?_
      rotate_left
      · intro W hW
        go_simp
        with_reducible rfl
      simp only [Act.put, List.setIfInBounds_toArray, List.set_cons_zero, List.set_cons_succ]
      refine planG_nil ?_
      go_wp2_with fail
      go_ret2
      exact ⟨rfl, B.out⟩
end Go.Proofs.Ytdheopihcohciaa
