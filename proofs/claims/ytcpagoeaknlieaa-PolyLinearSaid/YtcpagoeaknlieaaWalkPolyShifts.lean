/- The law PolyShifts, walked. -/
import Derived.Test.YtcpagoeaknlieaaWalkPolyKeys
import Derived.Test.YtcpagoeaknlieaaPolyD
import Derived.Test.YtcpagoeaknlieaaGrp
namespace Go.Proofs.Ytcpagoeaknlieaa
set_option linter.unusedVariables false
set_option linter.unusedSimpArgs false
open Go.RowKit
attribute [local go_sem ↓] Go.wp_at_zero Go.wp_at_succ

theorem Bls.grown {w W W' : World} {bs : List (TypeId × Nat × List UInt8)} {g : Nat} (h : Bls w bs W) (hgr : W.grownBy W' (some g)) (hg : w.heap.size ≤ g) (hne : ∀ x ∈ bs, x.2.1 ≠ g) : Bls w bs W' :=
  ⟨fun x hx => grown_block hgr (by intro e; injection e with e; exact hne x hx e) (h.has x hx), h.hg, h.srt, h.bel.trans (grown_below hgr h.bel.size (by rintro k ⟨⟩; exact hg))⟩
theorem mixS (key s : List UInt8) (j : Nat) (hk : key.length = 32) (hs : s.length = 16) (hj : j < 16) : (key.take 16 ++ mixB (key.drop 16) s j).set (16 + j) (s.getD j 0) = key.take 16 ++ mixB (key.drop 16) s (j + 1) := by
  have e : (key.take 16).length = 16 := by simp [hk]
  rw [List.set_append_right _ _ (by omega), e, show 16 + j - 16 = j by omega, mixB_set _ _ _ (by simp [hk, hs]) (by omega)]
theorem sum3_ex (c : Nat) (x y : UInt8) (hc : c ≤ 1) : ∃ z : Nat, Hid (z = c + x.toNat + y.toNat) ∧ IntKind.i64.wrap (IntKind.i64.wrap ((c : Int) + IntKind.i64.wrap (x.toNat : Int)) + IntKind.i64.wrap (y.toNat : Int)) = (z : Int) := by
  have := x.toNat_lt
  have := y.toNat_lt
  refine ⟨_, rfl, ?_⟩
  simp only [IntKind.wrap_i64]
  omega
theorem and255 (z : Nat) (hz : z ≤ 4611686018427387903) : bits .and .i64 (z : Int) 255 = ((z % 256 : Nat) : Int) := by
  show IntKind.i64.wrap ((BitVec.ofInt 64 (z : Int) &&& BitVec.ofInt 64 ((255 : Nat) : Int)).toNat : Int) = _
  rw [BitVec.toNat_and, BitVec.ofInt_natCast, BitVec.ofInt_natCast, BitVec.toNat_ofNat, BitVec.toNat_ofNat, Nat.mod_eq_of_lt (show z < 2 ^ 64 by omega), show (255 : Nat) % 2 ^ 64 = 2 ^ 8 - 1 from rfl, Nat.and_two_pow_sub_one_eq_mod, IntKind.wrap_i64]
  omega
theorem cells_keep {W W' : World} {g : Nat} {o : Obj} (h : W.heap[g]? = some o) (hb : Below W.heap.size W W') : W'.heap[g]? = some o := below_block hb (row_lt h) h
set_option maxRecDepth 100000 in
set_option maxHeartbeats 4000000 in
theorem polyShifts_walk (w : World) (key : List UInt8) (hk : key.length = 32) (s : List UInt8) (hs : s.length = 16) (A : Option Addr) (c : Nat) (bs : List UInt8) (hR : RdB w A bs) (hlc : bs.length ≤ c) (hcm : c ≤ 9223372036854775807) (hlt : ∀ a, A = some a → a.block < w.heap.size) (hz : bs.length ≤ 140737488351232) :
    Calls Try.prog 6 #[.agg (W8 key), .agg (W8 s), .slice A bs.length c] w fun e w' => e = .returned (.bool true) ∧ Below w.heap.size w w' := by
  have HR := Lib.hid hR
  have HK := Lib.hid hk
  have HS := Lib.hid hs
  obtain ⟨i0, hi, hz0, hz1, hz2⟩ := info_parts (show (Try.prog.info? 5).map (fun i => (i.zero, i.size, i.bytes)) = some (some (.int .u8 0), 1, 1) by kernel_rfl)
  have I0 := Lib.hid hi
  have I2 := Lib.hid hz1
  have Z1 := Lib.hid zero16
  clear hi hz0 hz1 hz2 hR hlt hk hs
  go_enter Try.func6, Try.ntmps6
  go_upto_region 1 with fail
  obtain ⟨B0, hB0⟩ : ∃ B, B = w.heap.size := ⟨_, rfl⟩
  obtain ⟨w1, hw1⟩ : ∃ w1, w1 = w.alloc (.cells (W8 key) 22) := ⟨_, rfl⟩
  have S1 := Lib.hid (show Bls w [(22, B0, key)] w1 by rw [hw1]; exact (Bls.start w).new _ _ hB0)
  obtain ⟨B1, hB1⟩ : ∃ B, B = w1.heap.size := ⟨_, rfl⟩
  obtain ⟨w2, hw2⟩ : ∃ w2, w2 = w1.alloc (.cells (W8 s) 24) := ⟨_, rfl⟩
  have S2 := Lib.hid (show Bls w [(24, B1, s), (22, B0, key)] w2 by rw [hw2]; exact S1.out.new _ _ hB1)
  have e1 : w.heap.size + 1 = B1 := by rw [hB1, hw1, ha_size]
  rw [← hw1, ← hw2, e1, ← hB0]
  clear hw1 hB0 hB1 hw2 e1 S1
  go_upto_if 16 with fail
  go_cut [2] (fun b wx => ∃ l : List UInt8, b = .slice A l.length c ∧ RdB w A l ∧ l.length ≤ 1000 ∧ l.length ≤ c ∧ wx = w2)
  case first =>
    by_cases h2 : 1000 < bs.length
    · have hD : decide ((1000 : Int) < (bs.length : Int)) = true := by simp; omega
      have hcut := cut_to (P := Try.prog) 23 5 Try.underlying23 I0.out I2.out A bs.length c 1000 (by omega)
      go_wp2_with fail
      go_meet
      exact ⟨bs.take 1000, by rw [show (bs.take 1000).length = 1000 by rw [List.length_take]; omega], HR.out.take _, by rw [List.length_take]; omega, by rw [List.length_take]; omega, rfl⟩
    · have hD : decide ((1000 : Int) < (bs.length : Int)) = false := by simp; omega
      go_wp2_with fail
      go_meet
      exact ⟨bs, rfl, HR.out, by omega, hlc, rfl⟩
  case rest =>
  clear hlc HR hz
  obtain ⟨l, rfl, hr, hl2, hlc, hwx⟩ := hcut
  rw [hwx]
  clear hwx
  obtain ⟨N, hN⟩ : ∃ N, N = l.length := ⟨_, rfl⟩
  rw [← hN] at hl2 hlc ⊢
  have NL := Lib.hid hN.symm
  have RR := Lib.hid hr
  have LC := Lib.hid hlc
  have L2 := Lib.hid hl2
  clear hr hlc hN hl2
  go_upto_region 4 with (first
    | (refine wpList_load_row rfl 22 (.tmp 3) rfl B0 rfl 22 (W8 key) (0, 0) _ (S2.out.blk (by simp)) Try.underlying22 rfl (info_32 HK.out) ?_)
    | (refine wpList_store_new rfl rfl 22 (.tmp 7) (.tmp 19) rfl (W8 key) rfl rfl (info_32 HK.out) ?c1 (W8_one _) ?_))
  case c1 => rw [W8_size, HK.out]; rfl
  obtain ⟨B7, hB7⟩ : ∃ M, M = w2.heap.size := ⟨_, rfl⟩
  rw [← hB7]
  have S3 := Lib.hid (S2.out.new 22 key hB7)
  obtain ⟨w3, hw3⟩ : ∃ w3, w3 = w2.alloc (.cells (W8 key) 22) := ⟨_, rfl⟩
  rw [← hw3] at S3 ⊢
  clear hw3 hB7 S2
  go_wp2_with fail
  go_loopw [8] (fun u wr => ∃ j : Nat, j ≤ 16 ∧ u = .int .i64 (j : Int) ∧ Bls w [(22, B7, key.take 16 ++ mixB (key.drop 16) s j), (24, B1, s), (22, B0, key)] wr) (fun u _ => 16 - (intOf u).toNat)
  case atStart => exact ⟨0, by omega, rfl, by rw [mixB_zero, List.take_append_drop]; exact S3.out⟩
  case round =>
    obtain ⟨j, hj, rfl, hs⟩ := hrel
    have S4 := Lib.hid hs
    have ML := Lib.hid (show (key.take 16 ++ mixB (key.drop 16) s j).length = 32 by have := HK.out; have := HS.out; rw [List.length_append, mixB_length _ _ _ (by simp; omega) (by omega)]; simp; omega)
    clear hs S3
    by_cases hlt : j < 16
    · have hD : decide ((j : Int) < 16) = true := by simp; omega
      obtain ⟨x, hx⟩ : ∃ x, x = s.getD j 0 := ⟨_, rfl⟩
      have a1 := S4.out.cell (t := 24) (g := B1) (l := s) (by simp) j (by rw [HS.out]; omega)
      have a2 := S4.out.cell (t := 22) (g := B7) (List.mem_cons_self ..) (16 + j) (by rw [ML.out]; omega)
      have f2 := S4.out.free (t := 22) (g := B7) (List.mem_cons_self ..) (16 + j)
      rw [← hx] at a1
      have b1 : (j : Int) < 16 := by omega
      have e1 : (16 + (j : Int)).toNat = 16 + j := by omega
      have X := Lib.hid hx
      clear hx
      go_wp2_with fail
      go_roundw
      case rel =>
        refine ⟨j + 1, by omega, by go_num, ?_⟩
        have := S4.out.set (16 + j) x
        rw [X.out, mixS key s j HK.out HS.out hlt] at this
        rw [X.out]
        exact this
      case measure => simp [intOf]; omega
    · have hj16 : Hid (j = 16) := show j = 16 by omega
      have hD : decide ((j : Int) < 16) = false := by simp; omega
      obtain ⟨ot, hot⟩ : ∃ ot, ot = key.take 16 ++ s := ⟨_, rfl⟩
      have S5 := Lib.hid (show Bls w [(22, B7, ot), (24, B1, s), (22, B0, key)] wr by
        have := S4.out
        rw [hj16.out, ← HS.out, mixB_full _ _ (by have := HS.out; have := HK.out; simp; omega), HS.out, ← hot] at this
        exact this)
      have OL := Lib.hid (show ot.length = 32 by rw [hot]; have := HS.out; have := HK.out; simp; omega)
      have O1 := Lib.hid (show ot.take 16 = key.take 16 by rw [hot, List.take_append_of_le_length (by have := HK.out; simp; omega), List.take_of_length_le (by simp; omega)])
      have O2 := Lib.hid (show ot.drop 16 = s by rw [hot, List.drop_append_of_le_length (by have := HK.out; simp; omega), List.drop_of_length_le (by simp; omega), List.nil_append])
      clear hot S4 ML hlt hj
      go_upto_region 8 with fail
      obtain ⟨L, hL⟩ : ∃ L, L = [(22, B7, ot), (24, B1, s), (22, B0, key)] := ⟨_, rfl⟩
      rw [← hL] at S5
      have LE := Lib.hid hL
      clear hL
      have S6 := Lib.hid S5.out.drew
      obtain ⟨X, hX⟩ : ∃ X, X = polyL key l := ⟨_, rfl⟩
      obtain ⟨Y, hY⟩ : ∃ Y, Y = polyL ot l := ⟨_, rfl⟩
      have XE := Lib.hid hX
      have YE := Lib.hid hY
      have XL := Lib.hid (show X.length = 16 by rw [hX]; exact polyL_length _ _)
      have YL := Lib.hid (show Y.length = 16 by rw [hY]; exact polyL_length _ _)
      have E0 := Lib.hid (show ∀ x ∈ L, x.2.1 < wr.drew.heap.size from fun x hx => row_lt (S6.out.has x hx))
      clear hX hY
      refine wp_region_grp (Bls w L) [0, 1, 3, 4] [2, 5, 6, 7] [(false, 8), (false, 9)] (by kernel_rfl) (by kernel_rfl) (fun _ _ d _ _ h => by cases d <;> exact h) S6.out ?_
      simp only [List.filterMap_cons, List.filterMap_nil, List.getElem?_toArray, List.getElem?_cons_zero, List.getElem?_cons_succ]
      refine planQ_cons (by rfl) (fun W hW => run_load_row 22 (.tmp 3) rfl B0 rfl 22 (W8 key) (0, 0) _ (hW.blk (by rw [LE.out]; simp)) Try.underlying22 rfl (info_32 HK.out)) ?_
      simp only [Act.put, List.setIfInBounds_toArray, List.set_cons_zero, List.set_cons_succ]
      refine planQ_cons (v := ?_) (by rfl) ?_ ?_
      rotate_left
      · intro W hW
        go_simp
        with_reducible rfl
      simp only [Act.put, List.setIfInBounds_toArray, List.set_cons_zero, List.set_cons_succ]
      refine planQ_cons (by rfl) (fun W hW => run_load_row 22 (.tmp 7) rfl B7 rfl 22 (W8 ot) (0, 0) _ (hW.blk (by rw [LE.out]; simp)) Try.underlying22 rfl (info_32 OL.out)) ?_
      simp only [Act.put, List.setIfInBounds_toArray, List.set_cons_zero, List.set_cons_succ]
      refine planQ_cons (v := ?_) (by rfl) ?_ ?_
      rotate_left
      · intro W hW
        go_simp
        with_reducible rfl
      simp only [Act.put, List.setIfInBounds_toArray, List.set_cons_zero, List.set_cons_succ]
      refine planQ_nil ?_
      refine ⟨GInv (Bls w L) wr.drew.heap.size [2, 5, 6, 7] (fun _ => none) (fun i v W => (i = 2 → v = .agg (W8 X)) ∧ (i = 5 → v = .agg (W8 Y)) ∧ (i = 6 ∨ i = 7 → ∃ g, v = .pointer (some ⟨g, 0, none⟩) ∧ W.heap[g]? = some (.cells (W8 Z16) 24 (0, 0)))), ?_, ?_, ?_, ?_⟩
      · exact fun vals => ⟨S6.out, Nat.le_refl _, fun i hi hn => absurd hi hn, fun i hi hn => absurd hi hn, fun i hi _ _ _ hn => absurd hi hn⟩
      · exact fun _ _ _ h => h.base
      · refine ⟨?_, ?_, ?_, ?_, trivial⟩
        ·
          intro o ho R vals W hi hnd hpre hinv K hK
          simp only [List.getElem?_toArray, List.getElem?_cons_zero, List.getElem?_cons_succ, Option.some.injEq] at ho
          subst ho
          simp only [putAll, dstOf, List.getElem?_toArray, List.getElem?_cons_zero, List.getElem?_cons_succ] at hK ⊢
          simp only [Act.put, List.setIfInBounds_toArray, List.set_cons_zero, List.set_cons_succ] at hK ⊢
          have HI := Lib.hid hinv
          have HKK := Lib.hid hK
          have HP := Lib.hid hpre
          clear hinv hK hpre
          go_simp
          refine (polySum_any key HK.out _ A N c l NL.out LC.out (RR.out.keep HI.out.base.bel) (by have := L2.out; omega)).mono ?_
          rw [← XE.out]
          rintro e w' ⟨rfl, hb⟩
          refine HKK.out _ _ (HI.out.step 2 _ hb (HI.out.base.keep hb) ⟨fun _ => rfl, by omega, by omega⟩ ?_ (fun g e => by cases e))
          exact fun j v h => ⟨h.1, h.2.1, fun e => by obtain ⟨g, h1, h2⟩ := h.2.2 e; exact ⟨g, h1, below_block hb (row_lt h2) h2⟩⟩
        ·
          intro o ho R vals W hi hnd hpre hinv K hK
          simp only [List.getElem?_toArray, List.getElem?_cons_zero, List.getElem?_cons_succ, Option.some.injEq] at ho
          subst ho
          simp only [putAll, dstOf, List.getElem?_toArray, List.getElem?_cons_zero, List.getElem?_cons_succ] at hK ⊢
          simp only [Act.put, List.setIfInBounds_toArray, List.set_cons_zero, List.set_cons_succ] at hK ⊢
          have HI := Lib.hid hinv
          have HKK := Lib.hid hK
          have HP := Lib.hid hpre
          clear hinv hK hpre
          go_simp
          refine (polySum_any ot OL.out _ A N c l NL.out LC.out (RR.out.keep HI.out.base.bel) (by have := L2.out; omega)).mono ?_
          rw [← YE.out]
          rintro e w' ⟨rfl, hb⟩
          refine HKK.out _ _ (HI.out.step 5 _ hb (HI.out.base.keep hb) ⟨by omega, fun _ => rfl, by omega⟩ ?_ (fun g e => by cases e))
          exact fun j v h => ⟨h.1, h.2.1, fun e => by obtain ⟨g, h1, h2⟩ := h.2.2 e; exact ⟨g, h1, below_block hb (row_lt h2) h2⟩⟩
        ·
          intro o ho R vals W hi hnd hpre hinv K hK
          simp only [List.getElem?_toArray, List.getElem?_cons_zero, List.getElem?_cons_succ, Option.some.injEq] at ho
          subst ho
          simp only [putAll, dstOf, List.getElem?_toArray, List.getElem?_cons_zero, List.getElem?_cons_succ] at hK ⊢
          simp only [Act.put, List.setIfInBounds_toArray, List.set_cons_zero, List.set_cons_succ] at hK ⊢
          have HI := Lib.hid hinv
          have HKK := Lib.hid hK
          have HP := Lib.hid hpre
          clear hinv hK hpre
          go_simp
          have hb : Below W.heap.size W (W.alloc (.cells (W8 Z16) 24)) := (Below.refl _ _).alloc (Nat.le_refl _) _
          refine HKK.out (.pointer (some ⟨W.heap.size, 0, none⟩)) _ (HI.out.step 6 _ hb (HI.out.base.keep hb) ⟨by omega, by omega, fun _ => ⟨_, rfl, ha_new _ _ _ rfl⟩⟩ ?_ (fun g e => by cases e; simp))
          exact fun j v h => ⟨h.1, h.2.1, fun e => by obtain ⟨g, h1, h2⟩ := h.2.2 e; exact ⟨g, h1, below_block hb (row_lt h2) h2⟩⟩
        ·
          intro o ho R vals W hi hnd hpre hinv K hK
          simp only [List.getElem?_toArray, List.getElem?_cons_zero, List.getElem?_cons_succ, Option.some.injEq] at ho
          subst ho
          simp only [putAll, dstOf, List.getElem?_toArray, List.getElem?_cons_zero, List.getElem?_cons_succ] at hK ⊢
          simp only [Act.put, List.setIfInBounds_toArray, List.set_cons_zero, List.set_cons_succ] at hK ⊢
          have HI := Lib.hid hinv
          have HKK := Lib.hid hK
          have HP := Lib.hid hpre
          clear hinv hK hpre
          go_simp
          have hb : Below W.heap.size W (W.alloc (.cells (W8 Z16) 24)) := (Below.refl _ _).alloc (Nat.le_refl _) _
          refine HKK.out (.pointer (some ⟨W.heap.size, 0, none⟩)) _ (HI.out.step 7 _ hb (HI.out.base.keep hb) ⟨by omega, by omega, fun _ => ⟨_, rfl, ha_new _ _ _ rfl⟩⟩ ?_ (fun g e => by cases e; simp))
          exact fun j v h => ⟨h.1, h.2.1, fun e => by obtain ⟨g, h1, h2⟩ := h.2.2 e; exact ⟨g, h1, below_block hb (row_lt h2) h2⟩⟩
      ·
        intro vals W hinv
        simp only [putAll, dstOf, List.getElem?_toArray, List.getElem?_cons_zero, List.getElem?_cons_succ]
        simp only [Act.put, List.setIfInBounds_toArray, List.set_cons_zero, List.set_cons_succ, List.filterMap_cons, List.filterMap_nil, List.getElem?_toArray, List.getElem?_cons_zero, List.getElem?_cons_succ, Option.map_some]
        have v2 : vals 2 = .agg (W8 X) := (hinv.post 2 (by simp) (by simp) (by simp)).1 rfl
        have v5 : vals 5 = .agg (W8 Y) := (hinv.post 5 (by simp) (by simp) (by simp)).2.1 rfl
        obtain ⟨g6, v6, c6⟩ := (hinv.post 6 (by simp) (by simp) (by simp)).2.2 (by simp)
        obtain ⟨g7, v7, c7⟩ := (hinv.post 7 (by simp) (by simp) (by simp)).2.2 (by simp)
        have o6 := hinv.own 6 (by simp) (by simp) (by simp) g6 (by rw [v6]; rfl)
        have o7 := hinv.own 7 (by simp) (by simp) (by simp) g7 (by rw [v7]; rfl)
        have n67 : g6 ≠ g7 := fun e => hinv.ne 6 (by simp) 7 (by simp) (by omega) (by simp) (by simp) (by simp) (by simp) g6 (by rw [v6]; rfl) (by rw [v7, e]; rfl)
        have S7 := Lib.hid hinv.base
        have C6 := Lib.hid c6
        have C7 := Lib.hid c7
        have O6 := Lib.hid (show (w.heap.size ≤ g6 ∧ ∀ x ∈ L, x.2.1 ≠ g6) from ⟨by have := S6.out.bel.size; omega, fun x hx => by have := E0.out x hx; omega⟩)
        have O7 := Lib.hid (show (w.heap.size ≤ g7 ∧ ∀ x ∈ L, x.2.1 ≠ g7) from ⟨by have := S6.out.bel.size; omega, fun x hx => by have := E0.out x hx; omega⟩)
        have N67 := Lib.hid n67
        rw [v2, v5, v6, v7]
        clear hinv v2 v5 v6 v7 c6 c7 o6 o7 n67
        refine planG_t (by rfl) (fun K hK => ?_)
        refine storeW_wp 24 (.tmp 9) (.tmp 32) rfl g6 (W8 X) rfl rfl _ _ C6.out (info_16 XL.out) (by rw [W8_size, W8_size, XL.out]; rfl) (W8_one _) ?_
        intro w5 hz5 hg5 hs5
        have S8 := Lib.hid (S7.out.grown hg5 O6.out.1 O6.out.2)
        have D6 := Lib.hid hz5
        have D7 := Lib.hid (grown_block hg5 (by intro e; injection e with e; exact N67.out e.symm) C7.out)
        clear hz5 hg5 hs5 C6 C7 S7
        refine hK.out _ _ (S8.out) ?_
        clear hK K
        refine planG_t (by rfl) (fun K hK => ?_)
        refine storeW_wp 24 (.tmp 10) (.tmp 35) rfl g7 (W8 Y) rfl rfl _ _ D7.out (info_16 YL.out) (by rw [W8_size, W8_size, YL.out]; rfl) (W8_one _) ?_
        intro w6 hz6 hg6 hs6
        have S9 := Lib.hid (S8.out.grown hg6 O7.out.1 O7.out.2)
        have F7 := Lib.hid hz6
        have F6 := Lib.hid (grown_block hg6 (by intro e; injection e with e; exact N67.out e) D6.out)
        clear hz6 hg6 hs6 D6 D7 S8
        refine hK.out _ _ (S9.out) ?_
        clear hK K
        refine planG_nil ?_
        clear E0 S6 S5 O6 O7 N67
        go_wp2_with fail
        obtain ⟨k2, hk2⟩ : ∃ k, k = key.drop 16 := ⟨_, rfl⟩
        have K2 := Lib.hid (show k2.length = 16 by rw [hk2]; have := HK.out; simp; omega)
        have DG := Lib.hid (show ∀ i, i < 16 → (cN X s i + (X.getD i 0).toNat + (s.getD i 0).toNat) % 256 = (cN Y k2 i + (Y.getD i 0).toNat + (k2.getD i 0).toNat) % 256 from fun i hi => by
          have := tags_digit key ot l HK.out OL.out O1.out i hi
          rwa [← XE.out, ← YE.out, O2.out, ← hk2] at this)
        have KG := Lib.hid (show ∀ i, key.getD (16 + i) 0 = k2.getD i 0 from fun i => by rw [hk2, List.getD_eq_getElem?_getD, List.getD_eq_getElem?_getD, List.getElem?_drop])
        have OG := Lib.hid (show ∀ i, ot.getD (16 + i) 0 = s.getD i 0 from fun i => by rw [← O2.out, List.getD_eq_getElem?_getD, List.getD_eq_getElem?_getD, List.getElem?_drop])
        clear hk2
        go_loopw [11, 12, 13] (fun a b i wr => ∃ r : Nat, r ≤ 16 ∧ a = .int .i64 (cN X s r : Int) ∧ b = .int .i64 (cN Y k2 r : Int) ∧ i = .int .i64 (r : Int) ∧ Bls w L wr ∧ wr.heap[g6]? = some (.cells (W8 X) 24 (0, 0)) ∧ wr.heap[g7]? = some (.cells (W8 Y) 24 (0, 0))) (fun _ _ i _ => 16 - (intOf i).toNat)
        case atStart => exact ⟨0, by omega, rfl, rfl, rfl, S9.out, F6.out, F7.out⟩
        case round =>
          obtain ⟨r, hr, rfl, rfl, rfl, sr, f6, f7⟩ := hrel
          have T1 := Lib.hid sr
          have T6 := Lib.hid f6
          have T7 := Lib.hid f7
          clear sr f6 f7 S9 F6 F7
          by_cases hlt : r < 16
          · have hD : decide ((r : Int) < 16) = true := by simp; omega
            have R16 := Lib.hid hlt
            obtain ⟨x, hx⟩ : ∃ x, x = X.getD r 0 := ⟨_, rfl⟩
            obtain ⟨y, hy⟩ : ∃ x, x = Y.getD r 0 := ⟨_, rfl⟩
            obtain ⟨u, hu⟩ : ∃ x, x = s.getD r 0 := ⟨_, rfl⟩
            obtain ⟨v, hv⟩ : ∃ x, x = k2.getD r 0 := ⟨_, rfl⟩
            have DR := DG.out r hlt
            obtain ⟨a, ha⟩ : ∃ a, a = cN X s r := ⟨_, rfl⟩
            obtain ⟨b, hb⟩ : ∃ a, a = cN Y k2 r := ⟨_, rfl⟩
            have AN := Lib.hid (show cN X s (r + 1) = (a + x.toNat + u.toNat) / 256 by rw [cN, ha, hx, hu])
            have BN := Lib.hid (show cN Y k2 (r + 1) = (b + y.toNat + v.toNat) / 256 by rw [cN, hb, hy, hv])
            have A1 := Lib.hid (show a ≤ 1 by rw [ha]; exact cN_le _ _ _)
            have B1' := Lib.hid (show b ≤ 1 by rw [hb]; exact cN_le _ _ _)
            rw [← hx, ← hy, ← hu, ← hv, ← ha, ← hb] at DR
            have DD := Lib.hid DR
            have CX := Lib.hid (fun (W : World) (h6 : W.heap[g6]? = some (.cells (W8 X) 24 (0, 0))) => (show W.cell? ⟨g6, r, none⟩ = some (.int .u8 (x.toNat : Int)) by rw [hx]; exact row_cell h6 r (W8_get X r (by rw [XL.out]; exact hlt))))
            have CY := Lib.hid (fun (W : World) (h6 : W.heap[g7]? = some (.cells (W8 Y) 24 (0, 0))) => (show W.cell? ⟨g7, r, none⟩ = some (.int .u8 (y.toNat : Int)) by rw [hy]; exact row_cell h6 r (W8_get Y r (by rw [YL.out]; exact hlt))))
            have CU := Lib.hid (fun (W : World) (h : Bls w L W) => (show W.cell? ⟨B7, 16 + r, none⟩ = some (.int .u8 (u.toNat : Int)) by rw [hu, ← OG.out]; exact h.cell (t := 22) (by rw [LE.out]; simp) (16 + r) (by rw [OL.out]; omega)))
            have CV := Lib.hid (fun (W : World) (h : Bls w L W) => (show W.cell? ⟨B0, 16 + r, none⟩ = some (.int .u8 (v.toNat : Int)) by rw [hv, ← KG.out]; exact h.cell (t := 22) (by rw [LE.out]; simp) (16 + r) (by rw [HK.out]; omega)))
            have ei : Hid (IntKind.i64.wrap (16 + (r : Int)) = ((16 + r : Nat) : Int)) := by show _ = _; rw [IntKind.wrap_i64]; omega
            rw [← ha, ← hb]
            clear hx hy hu hv ha hb DR hr
            have rb : (r : Int) < 16 := by have := R16.out; omega
            go_upto_region 13 with fail
            obtain ⟨z1, hz1, e1⟩ := sum3_ex a x u A1.out
            refine wp_region_plan (fun W => Bls w L W ∧ W.heap[g6]? = some (.cells (W8 X) 24 (0, 0)) ∧ W.heap[g7]? = some (.cells (W8 Y) 24 (0, 0))) [0, 1, 2, 3, 4, 5, 6, 7, 8, 9, 10, 11, 12] [] (by kernel_rfl) (by kernel_rfl) (fun _ _ d _ _ h => by cases d <;> exact h) (⟨T1.out.drew, T6.out, T7.out⟩) ?_
            simp only [List.filterMap_cons, List.filterMap_nil, List.getElem?_toArray, List.getElem?_cons_zero, List.getElem?_cons_succ]
            refine planQ_cons (v := ?_) (by rfl) ?_ ?_
            rotate_left
            · intro W hW
              go_simp
              with_reducible rfl
            simp only [Act.put, List.setIfInBounds_toArray, List.set_cons_zero, List.set_cons_succ]
            refine planQ_cons (v := ?_) (by rfl) ?_ ?_
            rotate_left
            · intro W hW
              go_simp
              with_reducible rfl
            simp only [Act.put, List.setIfInBounds_toArray, List.set_cons_zero, List.set_cons_succ]
            refine planQ_cons (v := ?_) (by rfl) ?_ ?_
            rotate_left
            · intro W hW
              go_simp
              with_reducible rfl
            simp only [Act.put, List.setIfInBounds_toArray, List.set_cons_zero, List.set_cons_succ]
            refine planQ_cons (by rfl) (fun W hW => run_cell 5 (.tmp 42) rfl _ Try.underlying5 rfl rfl (CX.out W hW.2.1)) ?_
            simp only [Act.put, List.setIfInBounds_toArray, List.set_cons_zero, List.set_cons_succ]
            refine planQ_cons (v := ?_) (by rfl) ?_ ?_
            rotate_left
            · intro W hW
              go_simp
              with_reducible rfl
            simp only [Act.put, List.setIfInBounds_toArray, List.set_cons_zero, List.set_cons_succ]
            refine planQ_cons (v := ?_) (by rfl) ?_ ?_
            rotate_left
            · intro W hW
              go_simp
              with_reducible rfl
            simp only [Act.put, List.setIfInBounds_toArray, List.set_cons_zero, List.set_cons_succ]
            refine planQ_cons (v := ?_) (by rfl) ?_ ?_
            rotate_left
            · intro W hW
              go_simp
              with_reducible rfl
            simp only [Act.put, List.setIfInBounds_toArray, List.set_cons_zero, List.set_cons_succ]
            refine planQ_cons (v := ?_) (by rfl) ?_ ?_
            rotate_left
            · intro W hW
              go_simp
              with_reducible rfl
            simp only [Act.put, List.setIfInBounds_toArray, List.set_cons_zero, List.set_cons_succ]
            refine planQ_cons (by rfl) (fun W hW => run_iaddr_arr 22 (.tmp 7) (.tmp 47) rfl 32 5 Try.underlying22 I0.out I2.out B7 (16 + r) (by have := R16.out; omega) .i64 _ ei.out rfl rfl W) ?_
            simp only [Act.put, List.setIfInBounds_toArray, List.set_cons_zero, List.set_cons_succ]
            refine planQ_cons (by rfl) (fun W hW => run_cell 5 (.tmp 48) rfl _ Try.underlying5 rfl rfl (CU.out W hW.1)) ?_
            simp only [Act.put, List.setIfInBounds_toArray, List.set_cons_zero, List.set_cons_succ]
            refine planQ_cons (v := ?_) (by rfl) ?_ ?_
            rotate_left
            · intro W hW
              go_simp
              with_reducible rfl
            simp only [Act.put, List.setIfInBounds_toArray, List.set_cons_zero, List.set_cons_succ]
            refine planQ_cons (v := ?_) (by rfl) ?_ ?_
            rotate_left
            · intro W hW
              go_simp
              with_reducible rfl
            simp only [Act.put, List.setIfInBounds_toArray, List.set_cons_zero, List.set_cons_succ]
            refine planQ_cons (v := ?_) (by rfl) ?_ ?_
            rotate_left
            · intro W hW
              go_simp
              with_reducible rfl
            simp only [Act.put, List.setIfInBounds_toArray, List.set_cons_zero, List.set_cons_succ]
            refine planQ_nil ?_
            refine planT_nil ?_
            clear e1
            obtain ⟨z2, hz2, e2⟩ := sum3_ex b y v B1'.out
            go_upto_region 14 with fail
            refine wp_region_plan (fun W => Bls w L W ∧ W.heap[g6]? = some (.cells (W8 X) 24 (0, 0)) ∧ W.heap[g7]? = some (.cells (W8 Y) 24 (0, 0))) [0, 1, 2, 3, 4, 5, 6, 7, 8, 9, 10, 11, 12] [] (by kernel_rfl) (by kernel_rfl) (fun _ _ d _ _ h => by cases d <;> exact h) (⟨T1.out.drew.drew, T6.out, T7.out⟩) ?_
            simp only [List.filterMap_cons, List.filterMap_nil, List.getElem?_toArray, List.getElem?_cons_zero, List.getElem?_cons_succ]
            refine planQ_cons (v := ?_) (by rfl) ?_ ?_
            rotate_left
            · intro W hW
              go_simp
              with_reducible rfl
            simp only [Act.put, List.setIfInBounds_toArray, List.set_cons_zero, List.set_cons_succ]
            refine planQ_cons (v := ?_) (by rfl) ?_ ?_
            rotate_left
            · intro W hW
              go_simp
              with_reducible rfl
            simp only [Act.put, List.setIfInBounds_toArray, List.set_cons_zero, List.set_cons_succ]
            refine planQ_cons (v := ?_) (by rfl) ?_ ?_
            rotate_left
            · intro W hW
              go_simp
              with_reducible rfl
            simp only [Act.put, List.setIfInBounds_toArray, List.set_cons_zero, List.set_cons_succ]
            refine planQ_cons (by rfl) (fun W hW => run_cell 5 (.tmp 54) rfl _ Try.underlying5 rfl rfl (CY.out W hW.2.2)) ?_
            simp only [Act.put, List.setIfInBounds_toArray, List.set_cons_zero, List.set_cons_succ]
            refine planQ_cons (v := ?_) (by rfl) ?_ ?_
            rotate_left
            · intro W hW
              go_simp
              with_reducible rfl
            simp only [Act.put, List.setIfInBounds_toArray, List.set_cons_zero, List.set_cons_succ]
            refine planQ_cons (v := ?_) (by rfl) ?_ ?_
            rotate_left
            · intro W hW
              go_simp
              with_reducible rfl
            simp only [Act.put, List.setIfInBounds_toArray, List.set_cons_zero, List.set_cons_succ]
            refine planQ_cons (v := ?_) (by rfl) ?_ ?_
            rotate_left
            · intro W hW
              go_simp
              with_reducible rfl
            simp only [Act.put, List.setIfInBounds_toArray, List.set_cons_zero, List.set_cons_succ]
            refine planQ_cons (v := ?_) (by rfl) ?_ ?_
            rotate_left
            · intro W hW
              go_simp
              with_reducible rfl
            simp only [Act.put, List.setIfInBounds_toArray, List.set_cons_zero, List.set_cons_succ]
            refine planQ_cons (by rfl) (fun W hW => run_iaddr_arr 22 (.tmp 3) (.tmp 59) rfl 32 5 Try.underlying22 I0.out I2.out B0 (16 + r) (by have := R16.out; omega) .i64 _ ei.out rfl rfl W) ?_
            simp only [Act.put, List.setIfInBounds_toArray, List.set_cons_zero, List.set_cons_succ]
            refine planQ_cons (by rfl) (fun W hW => run_cell 5 (.tmp 60) rfl _ Try.underlying5 rfl rfl (CV.out W hW.1)) ?_
            simp only [Act.put, List.setIfInBounds_toArray, List.set_cons_zero, List.set_cons_succ]
            refine planQ_cons (v := ?_) (by rfl) ?_ ?_
            rotate_left
            · intro W hW
              go_simp
              with_reducible rfl
            simp only [Act.put, List.setIfInBounds_toArray, List.set_cons_zero, List.set_cons_succ]
            refine planQ_cons (v := ?_) (by rfl) ?_ ?_
            rotate_left
            · intro W hW
              go_simp
              with_reducible rfl
            simp only [Act.put, List.setIfInBounds_toArray, List.set_cons_zero, List.set_cons_succ]
            refine planQ_cons (v := ?_) (by rfl) ?_ ?_
            rotate_left
            · intro W hW
              go_simp
              with_reducible rfl
            simp only [Act.put, List.setIfInBounds_toArray, List.set_cons_zero, List.set_cons_succ]
            refine planQ_nil ?_
            refine planT_nil ?_
            clear e2
            obtain ⟨m, hm⟩ : ∃ m, m = z1 % 256 := ⟨_, rfl⟩
            have e3 := and255 z1 (by have := hz1.out; have := A1.out; have := x.toNat_lt; have := u.toNat_lt; omega)
            have e4 := and255 z2 (by have := hz2.out; have := B1'.out; have := y.toNat_lt; have := v.toNat_lt; omega)
            rw [← hm] at e3
            rw [show z2 % 256 = m by rw [hm, hz1.out, hz2.out]; exact DD.out.symm] at e4
            have M1 := Lib.hid hm
            clear hm
            obtain ⟨p1, hp1⟩ : ∃ p, p = z1 / 256 := ⟨_, rfl⟩
            obtain ⟨p2, hp2⟩ : ∃ p, p = z2 / 256 := ⟨_, rfl⟩
            have e5 : (z1 : Int) / 256 = (p1 : Int) := by omega
            have e6 : (z2 : Int) / 256 = (p2 : Int) := by omega
            have P1 := Lib.hid hp1
            have P2 := Lib.hid hp2
            clear hp1 hp2
            go_wp2_with fail
            go_roundw
            case rel => exact ⟨r + 1, by have := R16.out; omega, by rw [AN.out, ← hz1.out, ← P1.out], by rw [BN.out, ← hz2.out, ← P2.out], by go_num, T1.out.drew.drew, T6.out, T7.out⟩
            case measure => have := R16.out; simp [intOf]; omega
          · have hr16 : Hid (r = 16) := show r = 16 by omega
            have hD : decide ((r : Int) < 16) = false := by simp; omega
            clear hlt hr
            go_wp2_with fail
            refine (polyOne_true _).mono ?_
            rintro e w4 ⟨rfl, hb4⟩
            go_wp2_with fail
            go_ret
            exact ⟨rfl, (T1.out.keep hb4).bel⟩
end Go.Proofs.Ytcpagoeaknlieaa
