/- kdf.Mac: the HMAC of texts, one behind the other, by a key. No condition but those each theorem states. -/
import Derived.Test.YtimdlnamicgdnaaKdfPad
namespace Go.Proofs.Ytimdlnamicgdnaa
set_option linter.unusedVariables false
set_option linter.unusedSimpArgs false
open Go.RowKit
attribute [local go_sem ↓] Go.wp_at_zero Go.wp_at_succ

set_option maxRecDepth 100000 in
set_option maxHeartbeats 2000000 in
theorem eachw_any (w0 w : World) (hw : Below w0.heap.size w0 w) (E : Nat) (hE : w0.heap.size ≤ E) (h : HSt) (k : h.ok) (A : Option Addr) (n c : Nat) (vs : List Value) (ls : List (List UInt8)) (hn : vs.length = n) (hR : RdV w0 A vs) (hall : All2 (SlB w0) vs ls)
    (hb : h.n + ls.flatten.length ≤ 140737488355000) (hnb : n ≤ 140737488355000) (hg : w.heap[E]? = some (.cells (HBx true h) 60 (0, 0))) :
    Calls Try.prog 22 #[.slice A n c, .func (.func 20) #[.pointer (some ⟨E, 0, none⟩)] #[]] w fun e w' => e = .returned (.tuple #[]) ∧ w'.heap[E]? = some (.cells (HBx true (putsB h ls.flatten)) 60 (0, 0)) ∧ w.grownBy w' (some E) := by
  have HW := Lib.hid hw
  have HE := Lib.hid hE
  have K := Lib.hid k
  have HN := Lib.hid hn
  have HR := Lib.hid hR
  have HA := Lib.hid hall
  have HB := Lib.hid hb
  have G0 := Lib.hid hg
  have NL := Lib.hid (show ls.length = n by rw [← hall.length, hn])
  have b0 : (n : Int) ≤ 140737488355000 := by omega
  clear hw hE k hn hR hall hb hnb hg
  go_enter Try.func22, Try.ntmps22
  go_wp2_with fail
  go_loopw [8] (fun i wr => ∃ j : Nat, j ≤ n ∧ i = .int .i64 (j : Int) ∧ wr.heap[E]? = some (.cells (HBx true (putsB h (ls.take j).flatten)) 60 (0, 0)) ∧ w.grownBy wr (some E)) (fun i _ => n - (intOf i).toNat)
  case atStart => exact ⟨0, Nat.zero_le _, rfl, G0.out, World.grownBy.refl _ _⟩
  case round =>
    obtain ⟨j, hj, rfl, hg, hgr⟩ := hrel
    have J := Lib.hid hj
    have G1 := Lib.hid hg
    have GR := Lib.hid hgr
    have BL := Lib.hid (show Below w0.heap.size w0 wr from HW.out.trans (grown_below hgr HW.out.size (by rintro k ⟨⟩; exact HE.out)))
    clear hj hg hgr G0
    by_cases hlt : j < n
    · have hD : decide ((j : Int) < (n : Int)) = true := by simp; omega
      obtain ⟨l, hl⟩ : ∃ l, ls[j]? = some l := ⟨_, List.getElem?_eq_getElem (by rw [NL.out]; exact hlt)⟩
      obtain ⟨v, hv, A', c', rfl, hc', hR'⟩ := HA.out.get j l hl
      obtain ⟨b, o, rfl, hcell⟩ := (HR.out.keep BL.out) j _ hv
      have L1 := Lib.hid hl
      have R1 := Lib.hid (hR'.keep BL.out)
      have L2 := Lib.hid (fun h0 => hR'.lt h0)
      have C1 := Lib.hid hc'
      have FL := Lib.hid (show (ls.take (j + 1)).flatten = (ls.take j).flatten ++ l by rw [List.take_add_one, hl]; simp)
      have BB := Lib.hid (show h.n + (ls.take j).flatten.length + l.length ≤ 140737488355000 by
        have h1 := congrArg List.length FL.out
        rw [List.length_append] at h1
        have h2 : (ls.take (j + 1)).flatten.length ≤ ls.flatten.length := by
          rw [show ls.flatten = (ls.take (j + 1)).flatten ++ (ls.drop (j + 1)).flatten by rw [← List.flatten_append, List.take_append_drop], List.length_append]
          omega
        have := HB.out
        omega)
      obtain ⟨m, hm⟩ : ∃ m, m = l.length := ⟨_, rfl⟩
      rw [← hm] at hcell
      have M := Lib.hid hm
      obtain ⟨q, hq⟩ : ∃ q, q = putsB h (ls.take j).flatten := ⟨_, rfl⟩
      rw [← hq] at G1
      have QQ := Lib.hid hq
      have KQ := Lib.hid (show q.ok by rw [hq]; exact putsB_ok K.out _)
      have NQ := Lib.hid (show q.n = h.n + (ls.take j).flatten.length by rw [hq, putsB_n])
      clear hl hv hc' hR' hm hq
      go_wp2_with fail
      refine (write_any true E q KQ.out _ A' m c' l M.out.symm (by rw [M.out]; exact C1.out) R1.out (fun h0 a ea => by have := L2.out h0 a ea; have := HE.out; omega) (by rw [NQ.out, M.out]; have := BB.out; omega) G1.out).mono ?_
      rintro e w2 ⟨rfl, hg2, hgr2⟩
      have G2 := Lib.hid hg2
      have GR2 := Lib.hid (World.grownBy.trans GR.out hgr2)
      clear hg2 hgr2 hcell
      go_wp2_with fail
      go_roundw
      case rel =>
        refine ⟨j + 1, by omega, by go_num, ?_, GR2.out⟩
        rw [FL.out, putsB_append, ← QQ.out]
        exact G2.out
      case measure => simp [intOf]; omega
    · have hjn : Hid (j = n) := show j = n by have := J.out; omega
      have hD : decide ((j : Int) < (n : Int)) = false := by simp; omega
      go_wp2_with fail
      go_end0
      refine ⟨rfl, ?_, GR.out⟩
      have := G1.out
      rwa [hjn.out, ← NL.out, List.take_length] at this
/-- The key that counts. -/
def keyK (key : List UInt8) : List UInt8 := if 64 < key.length then hashL key else key
theorem keyK_le (key : List UInt8) : (keyK key).length ≤ 64 := by
  unfold keyK
  split
  · rw [hashL_length]; omega
  · omega
/-- The HMAC. -/
def macL (key l : List UInt8) : List UInt8 := hashL (xorL 0x5c (padK (keyK key)) ++ hashL (xorL 0x36 (padK (keyK key)) ++ l))
theorem macL_length (key l : List UInt8) : (macL key l).length = 32 := hashL_length _
/-- What stands while it is made. -/
structure McW (w w1 : World) (E : Nat) (q : HSt) (W : World) : Prop where
  bo : W.heap[w.heap.size]? = some (.cells (W8 (List.replicate 32 0)) 24 (0, 0))
  be : W.heap[E]? = some (.cells (HBx true q) 60 (0, 0))
  hE : w1.heap.size ≤ E
  h1 : w.heap.size < w1.heap.size
  bel : Below w.heap.size w W
  bel1 : Below w1.heap.size w1 W
theorem McW.step {w w1 W W' : World} {E : Nat} {q q' : HSt} (h : McW w w1 E q W) (hb : W'.heap[E]? = some (.cells (HBx true q') 60 (0, 0))) (hg : W.grownBy W' (some E)) : McW w w1 E q' W' where
  bo := grown_block hg (by have := h.hE; have := h.h1; simp; omega) h.bo
  be := hb
  hE := h.hE
  h1 := h.h1
  bel := h.bel.trans (grown_below hg h.bel.size (by intro g e; cases e; have := h.hE; have := h.h1; omega))
  bel1 := h.bel1.trans (grown_below hg h.bel1.size (by intro g e; cases e; exact h.hE))
theorem McW.keep {w w1 W W' : World} {E : Nat} {q : HSt} (h : McW w w1 E q W) (hb : Below W.heap.size W W') : McW w w1 E q W' where
  bo := below_block hb (row_lt h.bo) h.bo
  be := below_block hb (row_lt h.be) h.be
  hE := h.hE
  h1 := h.h1
  bel := h.bel.trans (hb.mono h.bel.size)
  bel1 := h.bel1.trans (hb.mono h.bel1.size)
set_option maxRecDepth 100000 in
set_option maxHeartbeats 4000000 in
theorem mac_any (w : World) (A : Option Addr) (n c : Nat) (key : List UInt8) (hn : key.length = n) (hc : n ≤ c) (hR : RdB w A key) (hkb : n ≤ 140737488350000) (Av : Option Addr) (nv cv : Nat) (vs : List Value) (ls : List (List UInt8)) (hnv : vs.length = nv) (hRv : RdV w Av vs) (hall : All2 (SlB w) vs ls)
    (hb : ls.flatten.length ≤ 140737488350000) (hnb : nv ≤ 140737488350000) :
    Calls Try.prog 9 #[.slice A n c, .slice Av nv cv] w fun e w' => e = .returned (.agg (W8 (macL key ls.flatten))) ∧ Below w.heap.size w w' := by
  have HN := Lib.hid hn
  have HC := Lib.hid hc
  have HR := Lib.hid hR
  have HKB := Lib.hid hkb
  have HNV := Lib.hid hnv
  have HRV := Lib.hid hRv
  have HA := Lib.hid hall
  have HB := Lib.hid hb
  have HNB := Lib.hid hnb
  have Z32 := Lib.hid zero32
  obtain ⟨i0, hi, hz0, hz1, hz2⟩ := info_parts (show (Try.prog.info? 5).map (fun i => (i.zero, i.size, i.bytes)) = some (some (.int .u8 0), 1, 1) by kernel_rfl)
  have I0 := Lib.hid hi
  clear hn hc hR hnv hRv hall hb hnb hkb hi hz0 hz1 hz2
  obtain ⟨k, hk⟩ : ∃ k, k = keyK key := ⟨_, rfl⟩
  have KE := Lib.hid hk
  have KL := Lib.hid (show k.length ≤ 64 by rw [hk]; exact keyK_le _)
  clear hk
  go_enter Try.func9, Try.ntmps9
  go_upto_region 1 with fail
  rw [← Z32.out]
  obtain ⟨w0, hw0⟩ : ∃ w0, w0 = w.alloc (.cells (W8 (List.replicate 32 0)) 24) := ⟨_, rfl⟩
  have G0 := Lib.hid (show w0.heap[w.heap.size]? = some (.cells (W8 (List.replicate 32 0)) 24 (0, 0)) by rw [hw0]; exact ha_new _ _ _ rfl)
  have B0 := Lib.hid (show Below w.heap.size w w0 by rw [hw0]; exact (Below.refl _ _).alloc (Nat.le_refl _) _)
  rw [← hw0]
  clear hw0
  go_upto_if 10 with fail
  go_cut [0] (fun u wx => ∃ A' c', u = .slice A' k.length c' ∧ k.length ≤ c' ∧ RdB wx A' k ∧ Below w0.heap.size w0 wx)
  case first =>
    by_cases h64 : 64 < n
    · have hD : decide ((64 : Int) < (n : Int)) = true := by simp; omega
      have KH := Lib.hid (show k = hashL key by rw [KE.out, keyK, if_pos (by rw [HN.out]; exact h64)])
      go_wp2_with fail
      refine (shaSum_any _ A n c key HN.out HC.out (HR.out.keep B0.out) (by have := HKB.out; omega)).mono ?_
      rw [← KH.out]
      rintro e w2 ⟨rfl, hb2⟩
      have B2 := Lib.hid hb2
      have KL2 := Lib.hid (show k.length = 32 by rw [KH.out, hashL_length])
      have ZB := Lib.hid (show (Try.prog.info? 24).map (·.size) = some (W8 k).size by rw [W8_size, KL2.out]; kernel_rfl)
      clear hb2
      go_upto_region 3 with (refine wpList_store_new rfl rfl 24 (.tmp 5) (.tmp 12) rfl (W8 k) rfl rfl ZB.out ?c1 (W8_one _) ?_)
      case c1 => rw [W8_size, KL2.out]; rfl
      obtain ⟨M, hM⟩ : ∃ M, M = w2.heap.size := ⟨_, rfl⟩
      obtain ⟨w3, hw3⟩ : ∃ w3, w3 = w2.alloc (.cells (W8 k) 24) := ⟨_, rfl⟩
      have G3 := Lib.hid (show w3.heap[M]? = some (.cells (W8 k) 24 (0, 0)) by rw [hw3]; exact ha_new _ _ _ hM)
      have B3 := Lib.hid (show Below w0.heap.size w0 w3 by rw [hw3]; exact B2.out.alloc B2.out.size _)
      rw [← hw3, ← hM]
      clear hw3 hM
      go_wp2_with (refine wpList_val rfl (run_arr_all 24 (.tmp 5) rfl 32 5 Try.underlying24 I0.out M rfl _) ?_)
      go_meet
      exact ⟨_, 32, by rw [KL2.out], by rw [KL2.out]; omega, RdB.row G3.out, B3.out⟩
    · have hD : decide ((64 : Int) < (n : Int)) = false := by simp; omega
      go_wp2_with fail
      go_meet
      have e : k = key := by rw [KE.out, keyK, if_neg (by rw [HN.out]; exact h64)]
      exact ⟨A, c, by rw [e, HN.out], by rw [e, HN.out]; exact HC.out, by rw [e]; exact HR.out.keep B0.out, Below.refl _ _⟩
  case rest =>
  obtain ⟨A', c', rfl, hc', hR', hb'⟩ := hcut
  obtain ⟨m, hm⟩ : ∃ m, m = k.length := ⟨_, rfl⟩
  rw [← hm] at hc' ⊢
  have ME := Lib.hid hm.symm
  have M64 := Lib.hid (show m ≤ 64 by have := KL.out; omega)
  have KR := Lib.hid hR'
  have KC := Lib.hid hc'
  obtain ⟨w1, hw1⟩ : ∃ w1 : World, w1 = wc := ⟨_, rfl⟩
  have HB1 := Lib.hid (show Below w0.heap.size w0 w1 by rw [hw1]; exact hb')
  rw [← hw1] at KR ⊢
  clear hm hc' hR' hb' hw1 wc HR
  go_wp2_with fail
  refine (shaNew_any _).mono ?_
  rintro e w2 ⟨E, rfl, hE, hgE, hb2⟩
  have S1 := Lib.hid (show McW w w1 E startH w2 from ⟨below_block hb2 (row_lt (below_block HB1.out (row_lt G0.out) G0.out)) (below_block HB1.out (row_lt G0.out) G0.out), hgE, hE, row_lt (below_block HB1.out (row_lt G0.out) G0.out), (B0.out.trans (HB1.out.mono B0.out.size)).trans (hb2.mono (B0.out.trans (HB1.out.mono B0.out.size)).size), hb2⟩)
  clear hE hgE hb2
  go_wp2_with fail
  refine (pad_any _ A' m c' k ME.out M64.out (KR.out.keep S1.out.bel1) 0x36).mono ?_
  rintro e w3 ⟨g1, rfl, hg1, hgb1, hb3⟩
  obtain ⟨P, hP⟩ : ∃ P, P = xorL 0x36 (padK k) := ⟨_, rfl⟩
  rw [← hP] at hgb1
  have PE := Lib.hid hP
  have PL := Lib.hid (show P.length = 64 by rw [hP, xorL_length, padK_length _ KL.out])
  have S2 := Lib.hid (S1.out.keep hb3)
  have GB1 := Lib.hid hgb1
  have NE1 := Lib.hid (show g1 ≠ E by have := row_lt S1.out.be; omega)
  clear hg1 hgb1 hb3 S1 hP
  go_wp2_with fail
  refine (write_any true E startH startH_ok _ (some ⟨g1, 0, none⟩) 64 64 P PL.out (Nat.le_refl _) (RdB.row GB1.out) (fun _ a ea => by cases ea; exact NE1.out) (by simp [startH]) S2.out.be).mono ?_
  rintro e w4 ⟨rfl, hg4, hgr4⟩
  have S3 := Lib.hid (show McW w w1 E (putsB startH P) w4 from S2.out.step hg4 hgr4)
  have KQ := Lib.hid (putsB_ok startH_ok P)
  have NQ := Lib.hid (show (putsB startH P).n = 64 by rw [putsB_n, PL.out]; rfl)
  clear hg4 hgr4 S2 GB1
  go_wp2_with fail
  refine (eachw_any w _ S3.out.bel E (by have := S3.out.hE; have := S3.out.h1; omega) _ KQ.out Av nv cv vs ls HNV.out HRV.out HA.out (by rw [NQ.out]; have := HB.out; omega) (by have := HNB.out; omega) S3.out.be).mono ?_
  rintro e w5 ⟨rfl, hg5, hgr5⟩
  have S4 := Lib.hid (S3.out.step hg5 hgr5)
  obtain ⟨q, hq⟩ : ∃ q, q = putsB (putsB startH P) ls.flatten := ⟨_, rfl⟩
  rw [← hq] at S4
  have QK := Lib.hid (show q.ok by rw [hq]; exact putsB_ok KQ.out _)
  have QN := Lib.hid (show q.n = 64 + ls.flatten.length by rw [hq, putsB_n, NQ.out])
  have QE := Lib.hid (show q = putsB startH (P ++ ls.flatten) by rw [hq, putsB_append])
  clear hg5 hgr5 S3 hq
  go_wp2_with fail
  refine (hsum_any true E q QK.out _ (by rw [QN.out]; have := HB.out; omega) S4.out.be).mono ?_
  rintro e w6 ⟨rfl, hb6⟩
  have S5 := Lib.hid (S4.out.keep hb6)
  obtain ⟨X, hX⟩ : ∃ X, X = sumH (if true = true then q else startH) := ⟨_, rfl⟩
  rw [← hX]
  have XE := Lib.hid (show X = hashL (P ++ ls.flatten) by rw [hX, if_pos rfl, QE.out]; rfl)
  have XL := Lib.hid (show X.length = 32 by rw [hX, sumH_length])
  have ZB := Lib.hid (show (Try.prog.info? 24).map (·.size) = some (W8 X).size by rw [W8_size, XL.out]; kernel_rfl)
  clear hb6 hX S4
  go_upto_region 8 with (refine wpList_store_new rfl rfl 24 (.tmp 7) (.tmp 24) rfl (W8 X) rfl rfl ZB.out ?c2 (W8_one _) ?_)
  case c2 => rw [W8_size, XL.out]; rfl
  obtain ⟨M, hM⟩ : ∃ M, M = w6.heap.size := ⟨_, rfl⟩
  obtain ⟨w7, hw7⟩ : ∃ w7, w7 = w6.alloc (.cells (W8 X) 24) := ⟨_, rfl⟩
  have S6 := Lib.hid (show McW w w1 E q w7 ∧ w7.heap[M]? = some (.cells (W8 X) 24 (0, 0)) by rw [hw7]; exact ⟨S5.out.keep ((Below.refl _ _).alloc (Nat.le_refl _) _), ha_new _ _ _ hM⟩)
  rw [← hw7, ← hM]
  clear hw7 hM S5
  have S7 := Lib.hid (show McW w w1 E q w7.drew ∧ w7.drew.heap[M]? = some (.cells (W8 X) 24 (0, 0)) from ⟨S6.out.1.keep (Below.refl _ _).drew, S6.out.2⟩)
  clear S6
  refine wp_region_road (fun _ => True) [(true, 0), (true, 2), (false, 1), (false, 3), (false, 4), (false, 5)] (by kernel_rfl) (by kernel_rfl) (fun _ _ d _ _ h => by cases d <;> exact h) ?_
  simp only [List.filterMap_cons, List.filterMap_nil, List.getElem?_toArray, List.getElem?_cons_zero, List.getElem?_cons_succ, Option.map_some]
  refine planG_q (v := ?_) (by rfl) (trivial) ?_ ?_
  rotate_left
  · intro W hW
    go_simp
    with_reducible rfl
  simp only [Act.put, List.setIfInBounds_toArray, List.set_cons_zero, List.set_cons_succ]
  refine planG_q (by rfl) (trivial) (fun W hW => run_arr_all 24 (.tmp 7) rfl 32 5 Try.underlying24 I0.out M rfl _) ?_
  simp only [Act.put, List.setIfInBounds_toArray, List.set_cons_zero, List.set_cons_succ]
  refine planG_t (by rfl) (fun K hK => ?_)
  go_simp
  refine (pad_any _ A' m c' k ME.out M64.out (KR.out.keep S7.out.1.bel1) 0x5c).mono ?_
  rintro e w8 ⟨g2, rfl, hg2, hgb2, hb8⟩
  obtain ⟨O, hO⟩ : ∃ O, O = xorL 0x5c (padK k) := ⟨_, rfl⟩
  rw [← hO] at hgb2
  have OE := Lib.hid hO
  have OL := Lib.hid (show O.length = 64 by rw [hO, xorL_length, padK_length _ KL.out])
  have S8 := Lib.hid (show McW w w1 E q w8 ∧ w8.heap[M]? = some (.cells (W8 X) 24 (0, 0)) from ⟨S7.out.1.keep hb8, below_block hb8 (row_lt S7.out.2) S7.out.2⟩)
  have GB2 := Lib.hid hgb2
  clear hg2 hgb2 hb8 S7 hO
  refine hK.out _ _ (trivial) ?_
  clear hK K
  refine planG_t (by rfl) (fun K hK => ?_)
  go_simp
  obtain ⟨B, hB⟩ : ∃ B, B = w8.heap.size := ⟨_, rfl⟩
  rw [← hB]
  obtain ⟨w9, hw9⟩ : ∃ w9, w9 = w8.alloc (.cells #[.slice (some ⟨g2, 0, none⟩) 64 64, .slice (some ⟨M, 0, none⟩) 32 32] 22) := ⟨_, rfl⟩
  have hb9 : Below w8.heap.size w8 w9 := by rw [hw9]; exact (Below.refl _ _).alloc (Nat.le_refl _) _
  have S9 := Lib.hid (show McW w w1 E q w9 ∧ w9.heap[M]? = some (.cells (W8 X) 24 (0, 0)) from ⟨S8.out.1.keep hb9, below_block hb9 (row_lt S8.out.2) S8.out.2⟩)
  have GB3 := Lib.hid (below_block hb9 (row_lt GB2.out) GB2.out)
  have VR := Lib.hid (show RdV w9 (some ⟨B, 0, none⟩) [.slice (some ⟨g2, 0, none⟩) 64 64, .slice (some ⟨M, 0, none⟩) 32 32] from RdV.row (t := 22) (fr := (0, 0)) (by rw [hw9]; exact ha_new _ _ _ hB))
  have VA := Lib.hid (show All2 (SlB w9) [.slice (some ⟨g2, 0, none⟩) 64 64, .slice (some ⟨M, 0, none⟩) 32 32] [O, X] from
    .cons ⟨_, 64, by rw [OL.out], by rw [OL.out]; omega, RdB.row GB3.out⟩ (.cons ⟨_, 32, by rw [XL.out], by rw [XL.out]; omega, RdB.row S9.out.2⟩ .nil))
  rw [← hw9]
  clear hw9 hb9 hB S8 GB2
  refine hK.out _ _ (trivial) ?_
  clear hK K
  refine planG_t (by rfl) (fun K hK => ?_)
  go_simp
  refine (of_any _ (some ⟨B, 0, none⟩) 2 2 _ _ rfl VR.out VA.out (by simp [OL.out, XL.out]) (by omega)).mono ?_
  rintro e w10 ⟨rfl, hb10⟩
  obtain ⟨Y, hY⟩ : ∃ Y, Y = hashL [O, X].flatten := ⟨_, rfl⟩
  rw [← hY]
  have YE := Lib.hid (show Y = macL key ls.flatten by rw [hY, macL, ← KE.out, ← OE.out, ← PE.out, ← XE.out]; simp)
  have YL := Lib.hid (show Y.length = 32 by rw [hY, hashL_length])
  have S10 := Lib.hid (show McW w w1 E q w10 ∧ w10.heap[M]? = some (.cells (W8 X) 24 (0, 0)) from ⟨S9.out.1.keep hb10, below_block hb10 (row_lt S9.out.2) S9.out.2⟩)
  have ZY := Lib.hid (show (Try.prog.info? 24).map (·.size) = some (W8 Y).size by rw [W8_size, YL.out]; kernel_rfl)
  clear hb10 hY S9 GB3 VR VA
  refine hK.out _ _ (trivial) ?_
  clear hK K
  refine planG_t (by rfl) (fun K hK => ?_)
  have SZ := Lib.hid (show (W8 (List.replicate 32 0)).size = (W8 Y).size by rw [W8_size, W8_size, YL.out]; simp)
  refine wp_store_whole 24 (.tmp 4) (.tmp 29) rfl w.heap.size (W8 Y) rfl rfl 24 _ S10.out.1.bo ZY.out SZ.out (W8_one _) ?_
  intro w11 hz11 hg11 _
  have F11 := Lib.hid hz11
  have BE := Lib.hid (show Below w.heap.size w w11 from S10.out.1.bel.trans (grown_below hg11 (Nat.le_of_lt (row_lt S10.out.1.bo)) (by rintro g ⟨⟩; omega)))
  refine hK.out _ _ (trivial) ?_
  clear hK K
  refine planG_nil ?_
  go_wp2_with fail
  refine bodyPost_ret (results_cell_row rfl _ _ w.heap.size 24 (W8 Y) (0, 0) _ rfl F11.out Try.underlying24 rfl ZY.out) rfl ⟨?_, ?_⟩
  · rw [YE.out]
  · exact BE.out
/-- What a slice of one text is. -/
theorem one_text {w : World} {b : Nat} {t : TypeId} {A : Option Addr} {n c : Nat} {l : List UInt8} (h : w.heap[b]? = some (.cells #[.slice A n c] t (0, 0))) (hn : l.length = n) (hc : n ≤ c) (hR : RdB w A l) :
    RdV w (some ⟨b, 0, none⟩) [.slice A n c] ∧ All2 (SlB w) [.slice A n c] [l] := ⟨RdV.row (t := t) (fr := (0, 0)) h, .cons ⟨A, c, by rw [hn], by rw [hn]; exact hc, hR⟩ .nil⟩
set_option maxRecDepth 100000 in
set_option maxHeartbeats 2000000 in
theorem extract_any (w : World) (A : Option Addr) (n c : Nat) (salt : List UInt8) (hn : salt.length = n) (hc : n ≤ c) (hR : RdB w A salt) (hkb : n ≤ 140737488350000) (A2 : Option Addr) (n2 c2 : Nat) (l : List UInt8) (hn2 : l.length = n2) (hc2 : n2 ≤ c2) (hR2 : RdB w A2 l) (hb2 : n2 ≤ 140737488350000) :
    Calls Try.prog 14 #[.slice A n c, .slice A2 n2 c2] w fun e w' => e = .returned (.agg (W8 (macL salt l))) ∧ Below w.heap.size w w' := by
  have HN := Lib.hid hn
  have HC := Lib.hid hc
  have HR := Lib.hid hR
  have HN2 := Lib.hid hn2
  have HC2 := Lib.hid hc2
  have HR2 := Lib.hid hR2
  have HK := Lib.hid (And.intro hkb hb2)
  have Z32 := Lib.hid zero32
  clear hn hc hR hkb hn2 hc2 hR2 hb2
  go_enter Try.func14, Try.ntmps14
  go_wp2_with fail
  rw [← Z32.out]
  obtain ⟨w1, hw1⟩ : ∃ w1, w1 = (w.alloc (.cells (W8 (List.replicate 32 0)) 33)) := ⟨_, rfl⟩
  have S1 := Lib.hid (show w1.heap[w.heap.size]? = some (.cells (W8 (List.replicate 32 0)) 33 (0, 0)) ∧ Below w.heap.size w w1 ∧ w1.heap.size = w.heap.size + 1 by rw [hw1]; exact ⟨ha_new _ _ _ rfl, (Below.refl _ _).alloc (Nat.le_refl _) _, ha_size _ _⟩)
  rw [← hw1]
  have B2 := Lib.hid (show Below w1.heap.size w1 (w1.alloc (.cells #[.slice A2 n2 c2] 22)) from (Below.refl _ _).alloc (Nat.le_refl _) _)
  have VV := Lib.hid (one_text (w := w1.alloc (.cells #[.slice A2 n2 c2] 22)) (b := w.heap.size + 1) (ha_new w1 _ _ S1.out.2.2.symm) HN2.out HC2.out ((HR2.out.keep S1.out.2.1).keep B2.out))
  refine (mac_any _ A n c salt HN.out HC.out ((HR.out.keep S1.out.2.1).keep B2.out) HK.out.1 (some ⟨w.heap.size + 1, 0, none⟩) 1 1 _ [l] rfl VV.out.1 VV.out.2 (by simp; rw [HN2.out]; exact HK.out.2) (by omega)).mono ?_
  rintro e w2 ⟨rfl, hb2⟩
  have B3 := Lib.hid (B2.out.trans (hb2.mono (by simp)))
  have G3 := Lib.hid (below_block B3.out (row_lt S1.out.1) S1.out.1)
  obtain ⟨L, hL⟩ : ∃ L, L = macL salt ([l].flatten) := ⟨_, rfl⟩
  rw [← hL]
  have LL := Lib.hid (show L.length = 32 by rw [hL, macL_length])
  have LE := Lib.hid (show L = macL salt l by rw [hL]; simp)
  have Z := Lib.hid (show (Try.prog.info? 33).map (·.size) = some (W8 L).size by rw [W8_size, LL.out]; kernel_rfl)
  clear hL hb2 hw1
  go_wp2_with (refine wpList_store_whole rfl rfl 33 (.tmp 4) (.tmp 8) rfl w.heap.size (W8 L) rfl rfl 33 _ G3.out Z.out (by rw [W8_size, W8_size, LL.out]; simp) (W8_one _) ?_; intro w8 hz8 hg8 _)
  refine bodyPost_ret (results_cell_row rfl _ _ w.heap.size 33 (W8 L) (0, 0) _ rfl hz8 Try.underlying33 rfl Z.out) rfl ⟨?_, ?_⟩
  · rw [LE.out]
  · exact (S1.out.2.1.trans (B3.out.mono S1.out.2.1.size)).trans (grown_below hg8 (Nat.le_of_lt (row_lt G3.out)) (by rintro g ⟨⟩; omega))
end Go.Proofs.Ytimdlnamicgdnaa
