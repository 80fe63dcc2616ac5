/- The sum of what was taken in. No condition but those each theorem states. -/
import Derived.Test.YtphpcegifdiofaaShaHash
namespace Go.Proofs.Ytphpcegifdiofaa
set_option linter.unusedVariables false
set_option linter.unusedSimpArgs false
open Go.RowKit
attribute [local go_sem ↓] Go.wp_at_zero Go.wp_at_succ

/-- What stands while the sum is told. -/
structure SmW (w : World) (out : List UInt8) (E : Nat) (q : HSt) (W : World) : Prop where
  bo : W.heap[w.heap.size]? = some (.cells (W8 out) 29 (0, 0))
  be : W.heap[E]? = some (.cells (HBx true q) 70 (0, 0))
  hE : w.heap.size < E
  bel : Below w.heap.size w W
theorem SmW.step {w W W' : World} {out : List UInt8} {E : Nat} {q q' : HSt} (h : SmW w out E q W) (hb : W'.heap[E]? = some (.cells (HBx true q') 70 (0, 0))) (hg : W.grownBy W' (some E)) : SmW w out E q' W' where
  bo := grown_block hg (by have := h.hE; simp; omega) h.bo
  be := hb
  hE := h.hE
  bel := h.bel.trans (grown_below hg h.bel.size (by intro g e; cases e; have := h.hE; omega))
theorem SmW.keep {w W W' : World} {out : List UInt8} {E : Nat} {q : HSt} (h : SmW w out E q W) (hb : Below W.heap.size W W') : SmW w out E q W' where
  bo := below_block hb (row_lt h.bo) h.bo
  be := below_block hb (row_lt h.be) h.be
  hE := h.hE
  bel := h.bel.trans (hb.mono h.bel.size)
theorem zero32 : W8 (List.replicate 32 0) = #[.int .u8 0, .int .u8 0, .int .u8 0, .int .u8 0, .int .u8 0, .int .u8 0, .int .u8 0, .int .u8 0, .int .u8 0, .int .u8 0, .int .u8 0, .int .u8 0, .int .u8 0, .int .u8 0, .int .u8 0, .int .u8 0, .int .u8 0, .int .u8 0, .int .u8 0, .int .u8 0, .int .u8 0, .int .u8 0, .int .u8 0, .int .u8 0, .int .u8 0, .int .u8 0, .int .u8 0, .int .u8 0, .int .u8 0, .int .u8 0, .int .u8 0, .int .u8 0] := rfl
theorem HB_one (made : Bool) (s : List UInt32) (rest : List UInt8) (n : Nat) : (HB made s rest n).all (·.oneCell') = true := all_oneCell_toArray (by
  intro v hv
  simp only [HBl, List.mem_cons, List.mem_append, List.mem_map] at hv
  rcases hv with rfl | ⟨x, _, rfl⟩ | ⟨x, _, rfl⟩ | rfl | hv
  · rfl
  · rfl
  · rfl
  · rfl
  · cases hv)
/-- How many zeros are still to come. -/
def toCome (v : Option Value) : Nat := match v with | some (.int _ z) => (56 + 64 - z.toNat % 64) % 64 | _ => 0
theorem be_byte_ex (c : Nat) (r : Nat) (h : c < 18446744073709551616) : ∃ z : UInt8, Hid (z = UInt8.ofNat (c / 2 ^ (8 * r))) ∧ IntKind.u8.wrap ((c : Int) / 2 ^ (8 * r)) = (z.toNat : Int) := by
  refine ⟨_, rfl, ?_⟩
  rw [IntKind.wrap_u8]
  have : ((c : Int) / 2 ^ (8 * r)) = ((c / 2 ^ (8 * r) : Nat) : Int) := by
    rw [Int.natCast_ediv, Int.natCast_pow]; rfl
  rw [this]
  simp
theorem shr_out (x : UInt32) (k : Nat) (hk : k < 32) : ((x.toNat : Int) / 2 ^ k) % 256 = ((x >>> (UInt32.ofNat k)).toUInt8.toNat : Int) := by
  have e1 : (UInt32.ofNat k).toNat = k := by simp; omega
  rw [UInt32.toNat_toUInt8, UInt32.toNat_shiftRight, e1, Nat.mod_eq_of_lt hk, Nat.shiftRight_eq_div_pow, Int.natCast_emod, Int.natCast_ediv, Int.natCast_pow]
  rfl

set_option maxRecDepth 100000 in
set_option maxHeartbeats 2000000 in
theorem hsum_core (rv : Value) (made : Bool) (g : Nat) (h0 : HSt) (k0 : h0.ok) (w : World) (hb : h0.n ≤ 140737488355000)
    (hrv : (rv = .pointer none ∧ made = false) ∨ (rv = .pointer (some ⟨g, 0, none⟩) ∧ w.heap[g]? = some (.cells (HBx made h0) 70 (0, 0)))) :
    Calls Try.prog 30 #[rv] w fun e w' => e = .returned (.agg (W8 (sumH (if made then h0 else startH)))) ∧ Below w.heap.size w w' := by
  have K0 := Lib.hid k0
  obtain ⟨h, hh⟩ : ∃ h, h = (if made then h0 else startH) := ⟨_, rfl⟩
  rw [← hh]
  have HH := Lib.hid hh
  have K := Lib.hid (show h.ok by rw [hh]; cases made; exact startH_ok; exact k0)
  have HN := Lib.hid (show h.n ≤ 140737488355000 by rw [hh]; cases made; exact Nat.zero_le _; exact hb)
  have RV := Lib.hid hrv
  have Z32 := Lib.hid zero32
  clear hh k0 hb hrv
  go_enter Try.func30, Try.ntmps30
  go_wp2_with fail
  rw [← Z32.out]
  refine (shaNew_any _).mono ?_
  rintro e w1 ⟨E, rfl, hE, hgE, hb1⟩
  have S1 := Lib.hid (show SmW w (List.replicate 32 0) E startH w1 from ⟨below_block hb1 (by simp) (ha_new _ _ _ rfl), hgE, by simp at hE; omega, ((Below.refl _ _).alloc (Nat.le_refl _) _).trans (hb1.mono (by simp))⟩)
  clear hE hgE hb1
  go_upto_region 2 with fail
  go_cut [16] (fun v wx => v = .bool made ∧ wx = w1)
  case first =>
    rcases RV.out with ⟨rfl, rfl⟩ | ⟨rfl, hg⟩
    · go_wp2_with fail
      go_meet
      exact ⟨rfl, rfl⟩
    · have c0 := row_cell (below_block S1.out.bel (row_lt hg) hg) 0 (HB_made made h0.s h0.rest h0.n)
      clear hg
      go_wp2_with fail
      go_meet
      exact ⟨rfl, rfl⟩
  case rest =>
  obtain ⟨rfl, rfl⟩ := hcut
  go_upto_if 16 with fail
  go_cut [3] (fun e wx => e = .pointer (some ⟨E, 0, none⟩) ∧ SmW w (List.replicate 32 0) E h wx)
  case first =>
    rcases made with _ | _
    · go_wp2_with fail
      go_meet
      exact ⟨rfl, by rw [HH.out]; exact S1.out⟩
    · obtain ⟨rfl, hg⟩ := RV.out.resolve_left (fun h => by cases h.2)
      have G1 := Lib.hid (below_block S1.out.bel (row_lt hg) hg)
      have ZH := Lib.hid (show (Try.prog.info? 70).map (·.size) = some (HBx true h0).size by rw [HBx, HB_size _ _ _ _ K0.out.hs K0.out.hr]; kernel_rfl)
      clear hg
      go_wp2_with (first
        | (refine wpList_load_row rfl 70 (.tmp 19) rfl g rfl 70 (HBx true h0) (0, 0) _ G1.out Try.underlying70 rfl ZH.out ?_)
        | (refine wpList_store_whole rfl rfl 70 (.tmp 21) (.tmp 20) rfl E (HBx true h0) rfl rfl 70 (HBx true startH) S1.out.be ZH.out (by rw [HBx, HBx, HB_size _ _ _ _ K0.out.hs K0.out.hr, HB_size _ _ _ _ startH_ok.hs startH_ok.hr]) (HB_one _ _ _ _) ?_; intro w2 hg2 hgr2 hs2))
      go_meet
      exact ⟨rfl, by rw [HH.out]; exact S1.out.step hg2 hgr2⟩
  case rest =>
  obtain ⟨rfl, hs⟩ := hcut
  have S2 := Lib.hid hs
  clear hs S1 HH K0 RV
  have c73 := row_cell S2.out.be 73 (HB_n true h.s h.rest h.n K.out.hs K.out.hr)
  have b1 : (h.n : Int) ≤ 140737488355000 := by have := HN.out; omega
  go_wp2_with fail
  clear c73
  obtain ⟨C, hC⟩ : ∃ C, C = h.n * 8 := ⟨_, rfl⟩
  have HC := Lib.hid hC
  rw [show (h.n : Int) * 8 = (C : Int) by omega]
  clear hC
  have S3 := Lib.hid (S2.out.keep ((Below.refl wc.heap.size _).alloc (Nat.le_refl _) (.cells #[.int .u8 128] 5)))
  refine (write_any true E h K.out _ (some ⟨wc.heap.size, 0, none⟩) 1 1 [0x80] rfl (Nat.le_refl _) (RdB.one (row_cell (fr := (0, 0)) (ha_new wc _ _ rfl) 0 rfl)) (by intro _ a e; cases e; have := row_lt S2.out.be; simp; omega) (by have := HN.out; omega) S3.out.be).mono ?_
  rintro e w2 ⟨rfl, hg2, hgr2⟩
  have S4 := Lib.hid (show SmW w (List.replicate 32 0) E (putsB h (0x80 :: List.replicate 0 0)) w2 from S3.out.step hg2 hgr2)
  clear hg2 hgr2 S2 S3
  go_wp2_with fail
  go_loopw [] (fun wr => ∃ j : Nat, j ≤ zerosN h.n ∧ SmW w (List.replicate 32 0) E (putsB h (0x80 :: List.replicate j 0)) wr) (fun wr => toCome (wr.cell? ⟨E, 73, none⟩))
  case atStart => exact ⟨0, Nat.zero_le _, S4.out⟩
  case round =>
    obtain ⟨j, hj, hs⟩ := hrel
    have J := Lib.hid hj
    have S5 := Lib.hid hs
    obtain ⟨q, hq⟩ : ∃ q, q = putsB h (0x80 :: List.replicate j 0) := ⟨_, rfl⟩
    rw [← hq] at S5
    have QQ := Lib.hid hq
    have KQ := Lib.hid (show q.ok by rw [hq]; exact putsB_ok K.out _)
    have NQ := Lib.hid (show q.n = h.n + (j + 1) by rw [hq, putsB_n]; simp)
    clear hj hs hq S4
    have c73 := row_cell S5.out.be 73 (HB_n true q.s q.rest q.n KQ.out.hs KQ.out.hr)
    by_cases he : q.n % 64 = 56
    · have hE : (((q.n : Nat) : Int) % 64 == 56) = true := by simp; omega
      have hE2 : (((q.n : Nat) : Int) % 64 != 56) = false := by simp; omega
      have HZ := Lib.hid (show j = zerosN h.n by have := J.out; have := NQ.out; unfold zerosN at *; omega)
      go_wp2_with fail
      clear c73 hE hE2
      go_loopw [5] (fun i wr => ∃ (r : Nat) (pre : List UInt8), r ≤ 8 ∧ (i = .int .i64 ((r : Int) - 1)) ∧ pre ++ beLs r C = beLs 8 C ∧ SmW w (List.replicate 32 0) E (putsB q pre) wr) (fun i _ => (intOf i + 1).toNat)
      case atStart => exact ⟨8, [], Nat.le_refl _, rfl, rfl, S5.out⟩
      case round =>
        obtain ⟨r, pre, hr, rfl, hpre, hs⟩ := hrel
        have R8 := Lib.hid hr
        have PRE := Lib.hid hpre
        have S6 := Lib.hid hs
        have PL := Lib.hid (show pre.length + r = 8 by have := congrArg List.length hpre; rw [List.length_append, beLs_length, beLs_length] at this; exact this)
        have KP := Lib.hid (putsB_ok KQ.out pre)
        have NP := Lib.hid (putsB_n q pre)
        clear hr hpre hs S5
        rcases r with _ | r
        · have hD : decide ((0 : Int) ≤ (((0 : Nat) : Int) - 1)) = false := by decide
          have e0 : (((0 : Nat) : Int) - 1) = -1 := by decide
          go_wp2_with fail
          rw [← Z32.out]
          obtain ⟨t, ht⟩ : ∃ t, t = putsB q pre := ⟨_, rfl⟩
          rw [← ht] at S6 KP
          have TT := Lib.hid (show t = putsB h (tailL h.n) by
            have := PRE.out
            rw [beLs, List.append_nil] at this
            rw [ht, this, QQ.out, ← putsB_append, tailL, HZ.out]
            congr 2
            rw [List.cons_append]
            congr 2
            have h1 := HN.out
            have h2 := HC.out
            rw [h2]
            congr 1
            omega)
          clear ht
          obtain ⟨L, hL⟩ : ∃ L, L = outL t.s := ⟨_, rfl⟩
          have LL := Lib.hid (show L.length = 32 by rw [hL, outL_length])
          have LE := Lib.hid hL
          obtain ⟨M, hM⟩ : ∃ M, M = wr.heap.size := ⟨_, rfl⟩
          have S7 := Lib.hid (show SmW w (List.replicate 32 0) E t (wr.alloc (.cells (W8 (List.replicate 32 0)) 29)) ∧ (wr.alloc (.cells (W8 (List.replicate 32 0)) 29)).heap[M]? = some (.cells (W8 (partB L 0)) 29 (0, 0)) ∧ E < M from
            ⟨S6.out.keep ((Below.refl _ _).alloc (Nat.le_refl _) _), by rw [partB_zero, LL.out]; exact ha_new _ _ _ hM, by rw [hM]; exact row_lt S6.out.be⟩)
          rw [← hM]
          clear hL hM
          have EM := Lib.hid S7.out.2.2
          go_loopw [51] (fun i wr => ∃ j : Nat, j ≤ 32 ∧ i = .int .i64 (j : Int) ∧ SmW w (List.replicate 32 0) E t wr ∧ wr.heap[M]? = some (.cells (W8 (partB L j)) 29 (0, 0))) (fun i _ => 32 - (intOf i).toNat)
          case atStart => exact ⟨0, Nat.zero_le _, rfl, S7.out.1, S7.out.2.1⟩
          case round =>
            obtain ⟨j, hj, rfl, hs, hm⟩ := hrel
            have S8 := Lib.hid hs
            have M8 := Lib.hid hm
            have J := Lib.hid hj
            clear hj hs hm S7
            by_cases hlt : j < 32
            · have hD : decide ((j : Int) < 32) = true := by simp; omega
              obtain ⟨x, hx⟩ : ∃ x, x = t.s.getD (j / 4) 0 := ⟨_, rfl⟩
              have c1 := row_cell S8.out.be (1 + j / 4) (HB_s true t.s t.rest t.n (j / 4) (by rw [KP.out.hs]; omega))
              rw [← hx] at c1
              have X := Lib.hid hx
              clear hx
              have c2 := row_cell M8.out j (W8_get _ j (by rw [partB_length, LL.out]; exact hlt))
              have f2 := row_free M8.out j
              have b1 : (j : Int) < 32 := by omega
              have b2 : (0 : Int) ≤ 3 - (j : Int) % 4 := by omega
              have b3 : 3 - (j : Int) % 4 ≤ 3 := by omega
              have b4 : ((j : Int) / 4) < 8 := by omega
              have e1 : ((j : Int) / 4).toNat = j / 4 := by omega
              have e2 : (8 * (3 - (j : Int) % 4)).toNat = 8 * (3 - j % 4) := by omega
              go_wp2_with fail
              rw [shr_out x (8 * (3 - j % 4)) (by omega)]
              obtain ⟨w3, hw3⟩ : ∃ w3, w3 = wr.setCell ⟨M, j, none⟩ (.int .u8 ((x >>> UInt32.ofNat (8 * (3 - j % 4))).toUInt8.toNat : Int)) := ⟨_, rfl⟩
              rw [← hw3]
              have hx2 : (x >>> UInt32.ofNat (8 * (3 - j % 4))).toUInt8 = L.getD j 0 := by
                rw [LE.out, outL, List.getD_eq_getElem?_getD, List.getElem?_map, List.getElem?_range hlt, X.out]
                rfl
              have M9 : w3.heap[M]? = some (.cells (W8 (partB L (j + 1))) 29 (0, 0)) := by
                rw [hw3, heap_setCell_same _ _ _ _ _ _ M8.out, W8_set, hx2, partB_set _ _ (by rw [LL.out]; exact hlt)]
              have S9 : SmW w (List.replicate 32 0) E t w3 := by
                have hgr : wr.grownBy w3 (some M) := by rw [hw3]; exact grown_set (World.grownBy.refl _ _) _ _
                have h1 := EM.out
                have h2 := S8.out.hE
                exact ⟨grown_block hgr (by simp; omega) S8.out.bo, grown_block hgr (by simp; omega) S8.out.be, h2, S8.out.bel.trans (grown_below hgr S8.out.bel.size (by intro g e; cases e; omega))⟩
              exact ⟨⟨j + 1, by omega, by go_num, S9, M9⟩, by simp [intOf]; omega⟩
            · have hj : Hid (j = 32) := show j = 32 by have := J.out; omega
              have hD : decide ((j : Int) < 32) = false := by simp; omega
              have M9 := Lib.hid (show wr.heap[M]? = some (.cells (W8 L) 29 (0, 0)) by have := M8.out; rw [hj.out, ← LL.out, partB_full] at this; exact this)
              have Z := Lib.hid (show (Try.prog.info? 29).map (·.size) = some (W8 L).size by rw [W8_size, LL.out]; kernel_rfl)
              go_wp2_with (first
                | (refine wpList_load_row rfl 29 (.tmp 6) rfl M rfl 29 (W8 L) (0, 0) _ M9.out Try.underlying29 rfl Z.out ?_)
                | (refine wpList_store_whole rfl rfl 29 (.tmp 2) (.tmp 70) rfl w.heap.size (W8 L) rfl rfl 29 _ S8.out.bo Z.out (by rw [W8_size, W8_size, LL.out]; simp) (W8_one _) ?_; intro w8 hz8 hg8 _))
              refine bodyPost_ret (results_cell_row rfl _ _ w.heap.size 29 (W8 L) (0, 0) _ rfl hz8 Try.underlying29 rfl Z.out) rfl ⟨?_, ?_⟩
              · rw [LE.out, TT.out, sumH]
              · exact S8.out.bel.trans (grown_below hg8 (Nat.le_of_lt (row_lt S8.out.bo)) (by rintro g ⟨⟩; omega))
        · have hD : decide ((0 : Int) ≤ (((r + 1 : Nat) : Int) - 1)) = true := by simp
          have e0 : (((r + 1 : Nat) : Int) - 1) = (r : Int) := by omega
          have e2 : 8 * (r : Int) ≤ 64 := by have := R8.out; omega
          have e4 : (8 * (r : Int)).toNat = 8 * r := by omega
          obtain ⟨z, hz, e3⟩ := be_byte_ex C r (by have := HC.out; have := HN.out; omega)
          go_wp2_with fail
          have S7 := Lib.hid (S6.out.keep ((Below.refl wr.heap.size _).alloc (Nat.le_refl _) (.cells #[.int .u8 (z.toNat : Int)] 5)))
          refine (write_any true E (putsB q pre) KP.out _ (some ⟨wr.heap.size, 0, none⟩) 1 1 [z] rfl (Nat.le_refl _) (RdB.one (row_cell (fr := (0, 0)) (ha_new wr _ _ rfl) 0 rfl)) (by intro _ a e; cases e; have := row_lt S6.out.be; simp; omega) (by have := HN.out; have := NQ.out; have := NP.out; have := PL.out; have := J.out; unfold zerosN at this; omega) S7.out.be).mono ?_
          rintro e w2 ⟨rfl, hg2, hgr2⟩
          have S8 := Lib.hid (S7.out.step hg2 hgr2)
          clear hg2 hgr2 e3 e4
          go_wp2_with fail
          go_roundw
          case rel =>
            refine ⟨r, pre ++ [z], by have := R8.out; omega, by go_num, ?_, ?_⟩
            · rw [← PRE.out, beLs, ← hz.out, List.append_assoc]
              rfl
            · rw [putsB_append]
              exact S8.out
          case measure => simp [intOf] <;> omega
    · have hE : (((q.n : Nat) : Int) % 64 == 56) = false := by simp; omega
      have hE2 : (((q.n : Nat) : Int) % 64 != 56) = true := by simp; omega
      have HJ := Lib.hid (show j < zerosN h.n by
        have := J.out
        have := NQ.out
        rcases Nat.lt_or_ge j (zerosN h.n) with h1 | h1
        · exact h1
        · exfalso; unfold zerosN at *; omega)
      go_wp2_with fail
      have S6 := Lib.hid (S5.out.keep ((Below.refl wr.heap.size _).alloc (Nat.le_refl _) (.cells #[.int .u8 0] 5)))
      refine (write_any true E q KQ.out _ (some ⟨wr.heap.size, 0, none⟩) 1 1 [0] rfl (Nat.le_refl _) (RdB.one (row_cell (fr := (0, 0)) (ha_new wr _ _ rfl) 0 rfl)) (by intro _ a e; cases e; have := row_lt S5.out.be; simp; omega) (by have := HN.out; have := NQ.out; have := HJ.out; unfold zerosN at this; omega) S6.out.be).mono ?_
      rintro e w2 ⟨rfl, hg2, hgr2⟩
      have S7 := Lib.hid (S6.out.step hg2 hgr2)
      clear hg2 hgr2
      go_wp2_with fail
      go_roundw
      case rel =>
        refine ⟨j + 1, HJ.out, ?_⟩
        have := S7.out
        rw [show putsB (stOf true q) [0] = putsB h (0x80 :: List.replicate (j + 1) 0) by
          rw [List.replicate_succ', ← List.cons_append, putsB_append, ← QQ.out]; rfl] at this
        exact this
      case measure =>
        have d1 := row_cell S7.out.be 73 (HB_n true _ _ _ (putsB_ok KQ.out [0]).hs (putsB_ok KQ.out [0]).hr)
        rw [d1, c73, show (putsB (stOf true q) [0]).n = q.n + 1 from putsB_n q [0]]
        simp only [toCome]
        omega
theorem hsum_any (made : Bool) (g : Nat) (h0 : HSt) (k0 : h0.ok) (w : World) (hb : h0.n ≤ 140737488355000) (hg : w.heap[g]? = some (.cells (HBx made h0) 70 (0, 0))) :
    Calls Try.prog 30 #[.pointer (some ⟨g, 0, none⟩)] w fun e w' => e = .returned (.agg (W8 (sumH (if made then h0 else startH)))) ∧ Below w.heap.size w w' :=
  hsum_core _ made g h0 k0 w hb (.inr ⟨rfl, hg⟩)
theorem hsum_nil (w : World) : Calls Try.prog 30 #[.pointer none] w fun e w' => e = .returned (.agg (W8 (sumH startH))) ∧ Below w.heap.size w w' :=
  hsum_core _ false 0 startH startH_ok w (Nat.zero_le _) (.inl ⟨rfl, rfl⟩)
end Go.Proofs.Ytphpcegifdiofaa
