/- The document's tag: of, Clamp. No condition but those each theorem states. -/
import Derived.Test.YtdheopihcohciaaRefModW
import Derived.Test.YtdheopihcohciaaPolySum
import Derived.Test.YtdheopihcohciaaEqArr
namespace Go.Proofs.Ytdheopihcohciaa
set_option linter.unusedVariables false
set_option linter.unusedSimpArgs false
open Go.RowKit
attribute [local go_sem ↓] Go.wp_at_zero Go.wp_at_succ

def natL (l : List UInt8) : List Nat := l.map (·.toNat)
theorem natL_length (l : List UInt8) : (natL l).length = l.length := by simp [natL]
theorem natL_snoc (l : List UInt8) (i : Nat) (h : i < l.length) : natL (l.take (i + 1)) = natL (l.take i) ++ [(l.getD i 0).toNat] := by
  rw [List.take_add_one, List.getElem?_eq_getElem h, natL, natL, List.map_append]
  simp [List.getD_eq_getElem?_getD, h]
theorem natL_le (l : List UInt8) : ∀ d ∈ natL l, d ≤ 255 := by
  intro d hd
  simp only [natL, List.mem_map] at hd
  obtain ⟨x, _, rfl⟩ := hd
  have := x.toNat_lt
  omega
theorem valB_natL (l : List UInt8) : valB (natL l) = leNat l := valB_bytes l
set_option maxRecDepth 100000 in
set_option maxHeartbeats 1000000 in
theorem of_any' (l : List UInt8) (n : Nat) (hn : l.length = n) (hm : n ≤ 1000) (w : World) :
    Calls Try.prog 40 #[.string (strB l)] w fun e w' => ∃ v, e = .returned v ∧ OwnV w' w.heap.size 3 v (NumV (natL (l ++ [1]))) ∧ Below w.heap.size w w' := by
  have SZ := strB_size l
  rw [hn] at SZ
  have HN := Lib.hid hn
  have NT := Lib.hid numT
  have nb : (n : Int) ≤ 1000 := by omega
  have HM := Lib.hid hm
  clear hn hm
  go_enter Try.func40, Try.ntmps40
  go_wp2_with fail
  go_loopw [3, 4] (fun u i wr => ∃ j : Nat, j ≤ n ∧ i = .int .i64 (j : Int) ∧ OwnV wr w.heap.size 3 u (NumV (natL (l.take j))) ∧ Below w.heap.size w wr) (fun _ i _ => n - (intOf i).toNat)
  case atStart => exact ⟨0, by omega, rfl, OwnV.nil _ _ _, Below.refl _ _⟩
  case round =>
    obtain ⟨j, hj, rfl, ho, hb⟩ := hrel
    have J := Lib.hid hj
    have O := Lib.hid ho
    have S := Lib.hid hb
    clear hj ho hb
    have LN := Lib.hid (show (NumV (natL (l.take j))).length ≤ 1000 by rw [NumV_length, natL_length, List.length_take]; have := HN.out; have := HM.out; omega)
    by_cases hlt : j < n
    · have hD : decide ((j : Int) < (n : Int)) = true := by simp; omega
      have hD2 : decide (j < n) = true := by simp; omega
      have jb : (j : Int) < (n : Int) := by omega
      obtain ⟨y, hy⟩ : ∃ y, y = l.getD j 0 := ⟨_, rfl⟩
      have YE := Lib.hid hy
      obtain ⟨q, hq⟩ : ∃ q : Nat, q = y.toNat := ⟨_, rfl⟩
      have eq : (y.toNat : Int) = (q : Int) := by rw [hq]
      have qb : (q : Int) ≤ 255 := by have := y.toNat_lt; omega
      have TE := Lib.hid (show NumV (natL (l.take (j + 1))) = NumV (natL (l.take j)) ++ [.int .i64 (q : Int)] by rw [natL_snoc l j (by rw [HN.out]; exact hlt), NumV_append, ← hy, ← hq]; rfl)
      clear hy hq
      go_upto_region 5 with fail
      clear SZ
      go_wp2_with (first
        | (refine wpList_val rfl (run_idx_str 9 (.tmp 12) (.tmp 13) rfl Try.underlying9 l j y YE.out (by rw [HN.out]; exact hlt) .i64 _ rfl rfl rfl _) ?_)
        | (refine appV_list rfl NT.out (.tmp 11) (.tmp 16) rfl w.heap.size _ (NumV (natL (l.take j))) [.int .i64 (q : Int)] (some ⟨wr.heap.size, 0, none⟩) 1 1 rfl rfl rfl (O.out.alloc _) (RdV.one (row_cell (fr := (0, 0)) (ha_new wr _ _ rfl) 0 rfl)) (by intro u hu; simp at hu; subst hu; rfl) ?c1 ?c2 ?c3 ?_))
      case c1 => have := S.out.size; rw [ha_size]; omega
      case c2 => have := LN.out; omega
      case c3 => have := LN.out; omega
      intro v2 w2 ho hg _
      have B2 : Below w.heap.size w (wr.alloc (.cells #[.int .i64 (q : Int)] 3)) := S.out.alloc S.out.size _
      have S3 := Lib.hid (B2.trans (grown_below hg (by rw [ha_size]; have := S.out.size; omega) (fun q e => (O.out.lt q e).1)))
      have O2 := Lib.hid (show OwnV w2 w.heap.size 3 v2 (NumV (natL (l.take (j + 1)))) by rw [TE.out]; exact ho)
      clear ho hg B2 hD hD2 eq
      go_wp2_with fail
      go_roundw
      case rel => exact ⟨j + 1, by omega, by go_num, O2.out, S3.out⟩
      case measure => simp [intOf]; omega
    · have hD : decide ((j : Int) < (n : Int)) = false := by simp; omega
      have hD2 : decide (j < n) = false := by simp; omega
      have TE := Lib.hid (show l.take j = l from List.take_of_length_le (by rw [HN.out]; omega))
      clear hlt
      go_wp2_with (refine appV_list rfl NT.out (.tmp 18) (.tmp 19) rfl w.heap.size _ (NumV (natL (l.take j))) [.int .i64 1] (some ⟨wr.heap.size, 0, none⟩) 1 1 rfl rfl rfl (O.out.alloc _) (RdV.one (row_cell (fr := (0, 0)) (ha_new wr _ _ rfl) 0 rfl)) (by intro u hu; simp at hu; subst hu; rfl) ?c1 ?c2 ?c3 ?_)
      case c1 => have := S.out.size; rw [ha_size]; omega
      case c2 => have := LN.out; omega
      case c3 => have := LN.out; omega
      intro v2 w2 ho hg _
      have B2 : Below w.heap.size w (wr.alloc (.cells #[.int .i64 1] 3)) := S.out.alloc S.out.size _
      have S3 := Lib.hid (B2.trans (grown_below hg (by rw [ha_size]; have := S.out.size; omega) (fun q e => (O.out.lt q e).1)))
      have O2 := Lib.hid (show OwnV w2 w.heap.size 3 v2 (NumV (natL (l ++ [1]))) by
        have h := ho
        rw [TE.out] at h
        have e : natL (l ++ [1]) = natL l ++ [1] := by simp [natL]
        rw [e, NumV_append]
        exact h)
      clear ho hg B2 SZ
      go_wp2_with fail
      go_ret
      exact ⟨_, rfl, O2.out, S3.out⟩
/-! ### the key's first half -/
def mod16K (b : List UInt8) : Nat → List UInt8
  | 0 => b
  | j + 1 => (mod16K b j).set (3 + 4 * j) ((mod16K b j).getD (3 + 4 * j) 0 &&& 15)
def div4K (b : List UInt8) : Nat → List UInt8
  | 0 => b
  | j + 1 => (div4K b j).set (4 + 4 * j) ((div4K b j).getD (4 + 4 * j) 0 &&& 252)
theorem mod16K_length (b : List UInt8) : ∀ j, (mod16K b j).length = b.length
  | 0 => rfl
  | j + 1 => by rw [mod16K, List.length_set, mod16K_length b j]
theorem div4K_length (b : List UInt8) : ∀ j, (div4K b j).length = b.length
  | 0 => rfl
  | j + 1 => by rw [div4K, List.length_set, div4K_length b j]
theorem clamp_parts (b : List UInt8) (h : b.length = 16) : div4K (mod16K b 4) 3 = clampL b := by
  obtain ⟨a, b, c, d, e, f, g, h, i, j, k, l, m, n, o, p, rfl⟩ := list16 b h
  rw [clampL_form]
  rfl
theorem and15_ex (c : UInt8) : ∃ z : UInt8, Hid (z = c &&& 15) ∧ ((c.toNat : Int) % 16) = (z.toNat : Int) := by
  refine ⟨_, rfl, ?_⟩
  rw [UInt8.toNat_and, show (15 : UInt8).toNat = 2 ^ 4 - 1 from rfl, Nat.and_two_pow_sub_one_eq_mod]
  omega
theorem and252 : ∀ x : Fin 256, (x.val / 4 * 4) = x.val &&& 252 := by decide +kernel
theorem and252_ex (c : UInt8) : ∃ z : UInt8, Hid (z = c &&& 252) ∧ ((c.toNat : Int) / 4 * 4) = (z.toNat : Int) := by
  refine ⟨_, rfl, ?_⟩
  rw [UInt8.toNat_and, show (252 : UInt8).toNat = 252 from rfl, ← and252 ⟨c.toNat, c.toNat_lt⟩]
  show (c.toNat : Int) / 4 * 4 = ((c.toNat / 4 * 4 : Nat) : Int)
  omega
set_option maxRecDepth 100000 in
set_option maxHeartbeats 2000000 in
theorem clampR_any (b : List UInt8) (hb : b.length = 16) (w : World) :
    Calls Try.prog 36 #[.agg (W8 b)] w fun e w' => e = .returned (.agg (W8 (clampL b))) ∧ Below w.heap.size w w' := by
  have HB := Lib.hid hb
  have Z := Lib.hid zero16
  clear hb
  go_enter Try.func36, Try.ntmps36
  go_wp2_with fail
  rw [← Z.out]
  obtain ⟨w1, hw1⟩ : ∃ w1, w1 = (w.alloc (.cells (W8 b) 29)).alloc (.cells (W8 Z16) 29) := ⟨_, rfl⟩
  have S1 := Lib.hid (show BW w 29 w.heap.size (mod16K b 0) w1 ∧ BW w 29 (w.heap.size + 1) Z16 w1 by
    have hb : Below w.heap.size w w1 := by rw [hw1]; exact ((Below.refl _ _).alloc (Nat.le_refl _) _).alloc (by simp) _
    rw [hw1] at hb ⊢
    exact ⟨⟨ha_old _ _ _ (by simp) (ha_new _ _ _ rfl), by omega, hb⟩, ⟨ha_new _ _ _ (by simp), by omega, hb⟩⟩)
  rw [← hw1]
  clear hw1
  go_loopw [3] (fun u wr => ∃ t : Nat, t ≤ 4 ∧ u = .int .i64 (3 + 4 * (t : Int)) ∧ BW w 29 w.heap.size (mod16K b t) wr ∧ BW w 29 (w.heap.size + 1) Z16 wr) (fun u _ => 20 - (intOf u).toNat)
  case atStart => exact ⟨0, by omega, rfl, S1.out⟩
  case round =>
    obtain ⟨t, ht, rfl, hs⟩ := hrel
    have T := Lib.hid ht
    have S2 := Lib.hid hs
    clear ht hs S1
    obtain ⟨q, hq⟩ : ∃ q, q = mod16K b t := ⟨_, rfl⟩
    rw [← hq] at S2
    have QL := Lib.hid (show q.length = 16 by rw [hq]; simp only [mod16K_length, div4K_length]; exact HB.out)
    have Q := Lib.hid hq
    clear hq
    have t4 : (t : Int) ≤ 4 := by have := T.out; omega
    have b0 : (0 : Int) ≤ 3 + 4 * (t : Int) := by omega
    by_cases hlt : t < 4
    · have hD : decide (3 + 4 * (t : Int) < 16) = true := by simp; omega
      obtain ⟨x, hx⟩ : ∃ x, x = q.getD (3 + 4 * t) 0 := ⟨_, rfl⟩
      have a1 := row_cell S2.out.1.b (3 + 4 * t) (W8_get _ (3 + 4 * t) (by rw [QL.out]; omega))
      have f1 := row_free S2.out.1.b (3 + 4 * t)
      rw [← hx] at a1
      have X := Lib.hid hx
      obtain ⟨y, hy, e1⟩ := and15_ex x
      have e2 : (3 + 4 * (t : Int)).toNat = 3 + 4 * t := by omega
      have b1 : 3 + 4 * (t : Int) < 16 := by omega
      have xb := u8_lt x
      clear hx
      go_upto_region 3 with fail
      rw [show World.setCell wr ⟨w.heap.size, 3 + 4 * t, none⟩ _ = World.setCell wr ⟨w.heap.size, 3 + 4 * t, none⟩ (.int .u8 (y.toNat : Int)) from rfl]
      obtain ⟨w3, hw3⟩ : ∃ w3, w3 = World.setCell wr ⟨w.heap.size, 3 + 4 * t, none⟩ (.int .u8 (y.toNat : Int)) := ⟨_, rfl⟩
      rw [← hw3]
      have S3 := Lib.hid (show BW w 29 w.heap.size (mod16K b (t + 1)) w3 ∧ BW w 29 (w.heap.size + 1) Z16 w3 by
        have e : mod16K b (t + 1) = q.set (3 + 4 * t) y := by rw [hy.out, X.out, Q.out]; rfl
        rw [e, hw3]
        exact ⟨S2.out.1.set _ _, S2.out.2.away (by omega) (by omega) (grown1 _ _ _ _)⟩)
      clear hw3 e1 e2 a1 f1 hD
      go_wp2_with fail
      go_roundw
      case rel => exact ⟨t + 1, by omega, by go_num, S3.out⟩
      case measure => simp [intOf]; omega
    · have hD : decide (3 + 4 * (t : Int) < 16) = false := by simp; omega
      have TE := Lib.hid (show t = 4 by have := T.out; omega)
      clear hlt
      obtain ⟨c, hc⟩ : ∃ c, c = mod16K b 4 := ⟨_, rfl⟩
      have CE := Lib.hid hc
      have CL := Lib.hid (show c.length = 16 by rw [hc, mod16K_length]; exact HB.out)
      have S1 := Lib.hid (show BW w 29 w.heap.size (div4K c 0) wr ∧ BW w 29 (w.heap.size + 1) Z16 wr by
        have h := S2.out
        rw [Q.out, TE.out, ← hc] at h
        exact h)
      clear hc
      go_wp2_with fail
      clear hD T t4 b0 TE Q QL S2
      go_loopw [4] (fun u wr => ∃ t : Nat, t ≤ 3 ∧ u = .int .i64 (4 + 4 * (t : Int)) ∧ BW w 29 w.heap.size (div4K c t) wr ∧ BW w 29 (w.heap.size + 1) Z16 wr) (fun u _ => 20 - (intOf u).toNat)
      case atStart => exact ⟨0, by omega, rfl, S1.out⟩
      case round =>
        obtain ⟨t, ht, rfl, hs⟩ := hrel
        have T := Lib.hid ht
        have S2 := Lib.hid hs
        clear ht hs S1
        obtain ⟨q, hq⟩ : ∃ q, q = div4K c t := ⟨_, rfl⟩
        rw [← hq] at S2
        have QL := Lib.hid (show q.length = 16 by rw [hq]; rw [div4K_length]; exact CL.out)
        have Q := Lib.hid hq
        clear hq
        have t4 : (t : Int) ≤ 3 := by have := T.out; omega
        have b0 : (0 : Int) ≤ 4 + 4 * (t : Int) := by omega
        by_cases hlt : t < 3
        · have hD : decide (4 + 4 * (t : Int) < 16) = true := by simp; omega
          obtain ⟨x, hx⟩ : ∃ x, x = q.getD (4 + 4 * t) 0 := ⟨_, rfl⟩
          have a1 := row_cell S2.out.1.b (4 + 4 * t) (W8_get _ (4 + 4 * t) (by rw [QL.out]; omega))
          have f1 := row_free S2.out.1.b (4 + 4 * t)
          rw [← hx] at a1
          have X := Lib.hid hx
          obtain ⟨y, hy, e1⟩ := and252_ex x
          have e2 : (4 + 4 * (t : Int)).toNat = 4 + 4 * t := by omega
          have b1 : 4 + 4 * (t : Int) < 16 := by omega
          have xb := u8_lt x
          clear hx
          go_upto_region 7 with fail
          rw [show World.setCell wr ⟨w.heap.size, 4 + 4 * t, none⟩ _ = World.setCell wr ⟨w.heap.size, 4 + 4 * t, none⟩ (.int .u8 (y.toNat : Int)) from rfl]
          obtain ⟨w3, hw3⟩ : ∃ w3, w3 = World.setCell wr ⟨w.heap.size, 4 + 4 * t, none⟩ (.int .u8 (y.toNat : Int)) := ⟨_, rfl⟩
          rw [← hw3]
          have S3 := Lib.hid (show BW w 29 w.heap.size (div4K c (t + 1)) w3 ∧ BW w 29 (w.heap.size + 1) Z16 w3 by
            have e : div4K c (t + 1) = q.set (4 + 4 * t) y := by rw [hy.out, X.out, Q.out]; rfl
            rw [e, hw3]
            exact ⟨S2.out.1.set _ _, S2.out.2.away (by omega) (by omega) (grown1 _ _ _ _)⟩)
          clear hw3 e1 e2 a1 f1 hD
          go_wp2_with fail
          go_roundw
          case rel => exact ⟨t + 1, by omega, by go_num, S3.out⟩
          case measure => simp [intOf]; omega
        · have hD : decide (4 + 4 * (t : Int) < 16) = false := by simp; omega
          have TE := Lib.hid (show t = 3 by have := T.out; omega)
          clear hlt
          have QE := Lib.hid (show q = clampL b by rw [Q.out, TE.out, CE.out]; exact clamp_parts b HB.out)
          go_wp2_with (first
            | (refine wpList_load_row rfl 29 (.tmp 1) rfl w.heap.size rfl 29 (W8 q) (0, 0) _ S2.out.1.b Try.underlying29 rfl (info_16 QL.out) ?_)
            | (refine wpList_store_whole rfl rfl 29 (.tmp 2) (.tmp 26) rfl (w.heap.size + 1) (W8 q) rfl rfl 29 _ S2.out.2.b (info_16 QL.out) (by rw [W8_size, W8_size, QL.out]; rfl) (W8_one _) ?_; intro w8 hz8 hg8 _))
          exact bodyPost_ret (results_cell_row rfl _ _ (w.heap.size + 1) 29 (W8 q) (0, 0) _ rfl hz8 Try.underlying29 rfl (info_16 QL.out)) rfl ⟨by rw [QE.out], S2.out.2.ret hg8⟩
end Go.Proofs.Ytdheopihcohciaa
