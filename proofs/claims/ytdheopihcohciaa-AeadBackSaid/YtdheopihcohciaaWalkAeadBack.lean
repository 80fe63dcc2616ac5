/- The law AeadBack, walked. -/
import Derived.Test.YtdheopihcohciaaAeadW
namespace Go.Proofs.Ytdheopihcohciaa
set_option linter.unusedVariables false
set_option linter.unusedSimpArgs false
open Go.RowKit
attribute [local go_sem ↓] Go.wp_at_zero Go.wp_at_succ

theorem OwnB.block {w : World} {base : Nat} {v : Value} {l : List UInt8} (h : OwnB w base v l) (hl : l ≠ []) :
    ∃ g cap cur, v = .slice (some ⟨g, 0, none⟩) l.length cap ∧ base ≤ g ∧ w.heap[g]? = some (.cells cur 5 (0, 0)) ∧ l.length ≤ cap ∧ RdB w (some ⟨g, 0, none⟩) l := by
  have h' := h
  rcases h'.2 with ⟨hv, hn⟩ | ⟨g, cap, cur, hv, hb, hh, hnc, hcm, hcs, _⟩
  · exact absurd (List.eq_nil_of_length_eq_zero hn) hl
  · refine ⟨g, cap, cur, hv, hb, hh, hnc, fun j hj => ⟨g, 0, rfl, ?_⟩⟩
    have := h.cells (g := g) (by rw [hv]; rfl) j _ (B8_get l j hj)
    rwa [add_at] at this
theorem RdB.set {w : World} {g : Nat} {l : List UInt8} (h : RdB w (some ⟨g, 0, none⟩) l) (i : Nat) (hi : i < l.length) (y : UInt8) : RdB (w.setCell ⟨g, i, none⟩ (.int .u8 (y.toNat : Int))) (some ⟨g, 0, none⟩) (l.set i y) := by
  intro j hj
  rw [List.length_set] at hj
  refine ⟨g, 0, rfl, ?_⟩
  obtain ⟨b, o, e, hc⟩ := h j hj
  cases e
  obtain ⟨b', o', e', hci⟩ := h i hi
  cases e'
  rw [Nat.zero_add] at hc hci ⊢
  by_cases hij : i = j
  · subst hij
    rw [World.cell?_setCell_same _ _ _ (by rw [hci])]
    simp [List.getD_eq_getElem?_getD, hi]
  · rw [World.cell?_setCell_other _ _ _ _ (by simp <;> omega), hc]
    simp [List.getD_eq_getElem?_getD, List.getElem?_set, hij]
/-- With a byte of the tag changed it is not opened. -/
theorem openL_other (k n b t : List UInt8) (i : Nat) (h1 : t.length ≤ i) (h2 : i < t.length + 16) (y : UInt8) (hy : y ≠ (sealL k n b t).getD i 0) : openL k n b ((sealL k n b t).set i y) = none := by
  have hl : ((sealL k n b t).set i y).length - 16 = t.length := by rw [List.length_set, sealL_length]; omega
  have e1 : ((sealL k n b t).set i y).take t.length = streamL k n 1 t := by
    rw [List.take_set_of_le h1, sealL, List.take_append_of_le_length (by rw [streamL_length]; exact Nat.le_refl _), List.take_of_length_le (by rw [streamL_length]; exact Nat.le_refl _)]
  rw [openL, if_neg (by rw [List.length_set, sealL_length]; omega), hl, e1, if_neg]
  intro h
  apply hy
  have h3 : ((sealL k n b t).set i y).getD i 0 = (sealL k n b t).getD i 0 := by
    have a1 : ∀ (l : List UInt8), l.getD i 0 = (l.drop t.length).getD (i - t.length) 0 := by
      intro l
      rw [List.getD_eq_getElem?_getD, List.getD_eq_getElem?_getD, List.getElem?_drop, show t.length + (i - t.length) = i by omega]
    rw [a1, ← h, a1 (sealL k n b t), sealL, List.drop_append_of_le_length (by rw [streamL_length]; exact Nat.le_refl _), List.drop_of_length_le (by rw [streamL_length]; exact Nat.le_refl _), List.nil_append]
  rw [← h3]
  simp [List.getD_eq_getElem?_getD, List.getElem?_set, sealL_length, h2]
theorem openL_short (k n b t : List UInt8) (h : t.length < 16) : openL k n b t = none := by rw [openL, if_pos h]
theorem pow_ex (r : Nat) (h : r ≤ 7) : ∃ z : UInt8, Hid (z ≠ 0) ∧ (2 : Int) ^ r % 256 = (z.toNat : Int) := by
  match r, h with
  | 0, _ => exact ⟨1, by show (1 : UInt8) ≠ 0; decide, rfl⟩
  | 1, _ => exact ⟨2, by show (2 : UInt8) ≠ 0; decide, rfl⟩
  | 2, _ => exact ⟨4, by show (4 : UInt8) ≠ 0; decide, rfl⟩
  | 3, _ => exact ⟨8, by show (8 : UInt8) ≠ 0; decide, rfl⟩
  | 4, _ => exact ⟨16, by show (16 : UInt8) ≠ 0; decide, rfl⟩
  | 5, _ => exact ⟨32, by show (32 : UInt8) ≠ 0; decide, rfl⟩
  | 6, _ => exact ⟨64, by show (64 : UInt8) ≠ 0; decide, rfl⟩
  | 7, _ => exact ⟨128, by show (128 : UInt8) ≠ 0; decide, rfl⟩
  | n + 8, h => exact absurd h (by omega)
theorem xor_ne (y z : UInt8) (h : z ≠ 0) : y ^^^ z ≠ y := by
  intro e
  apply h
  have : y ^^^ (y ^^^ z) = y ^^^ y := by rw [e]
  rwa [← UInt8.xor_assoc, UInt8.xor_self, UInt8.zero_xor] at this
/-- Key and nonce, boxed. -/
structure BkW (w : World) (k n : List UInt8) (W : World) : Prop where
  bel : Below w.heap.size w W
  bk : W.heap[w.heap.size]? = some (.cells (W8 k) 23 (0, 0))
  bn : W.heap[w.heap.size + 1]? = some (.cells (W8 n) 27 (0, 0))
theorem BkW.keep {w W W' : World} {k n : List UInt8} (h : BkW w k n W) (hb : Below W.heap.size W W') : BkW w k n W' := ⟨h.bel.trans (hb.mono h.bel.size), below_block hb (row_lt h.bk) h.bk, below_block hb (row_lt h.bn) h.bn⟩
theorem BkW.grow {w W W' : World} {k n : List UInt8} {r : Option Nat} (h : BkW w k n W) (hg : W.grownBy W' r) (hr : ∀ g, r = some g → w.heap.size + 1 < g) : BkW w k n W' :=
  ⟨h.bel.trans (grown_below hg h.bel.size (fun g e => by have := hr g e; omega)), grown_block hg (fun e => by have := hr _ e.symm; omega) h.bk, grown_block hg (fun e => by have := hr _ e.symm; omega) h.bn⟩
set_option maxRecDepth 100000 in
set_option maxHeartbeats 4000000 in
theorem aeadBack_walk (w : World) (k : List UInt8) (hk : k.length = 32) (n : List UInt8) (hn : n.length = 12) (A0 : Option Addr) (c0 : Nat) (l0 : List UInt8) (A1 : Option Addr) (c1 : Nat) (l1 : List UInt8)
    (R0 : RdB w A0 l0 ∧ l0.length ≤ c0 ∧ c0 ≤ 9223372036854775807 ∧ (∀ a, A0 = some a → a.block < w.heap.size)) (R1 : RdB w A1 l1 ∧ l1.length ≤ c1 ∧ c1 ≤ 9223372036854775807 ∧ (∀ a, A1 = some a → a.block < w.heap.size)) :
    Calls Try.prog 4 #[.agg (W8 k), .agg (W8 n), .agg #[.slice A0 l0.length c0, .slice A1 l1.length c1]] w fun e w' => e = .returned (.bool true) ∧ Below w.heap.size w w' := by
  have TB := Lib.hid (show ByteT Try.prog from ⟨Try.underlying24, by kernel_rfl⟩)
  obtain ⟨i0, hi0, hz0, hz1, hz2⟩ := info_parts (show (Try.prog.info? 5).map (fun i => (i.zero, i.size, i.bytes)) = some (some (.int .u8 0), 1, 1) by kernel_rfl)
  have I0 := Lib.hid hi0
  have I1 := Lib.hid hz1
  obtain ⟨j0, hj0, hy0, hy1, hy2⟩ := info_parts (show (Try.prog.info? 24).map (fun i => (i.zero, i.size, i.bytes)) = some (some (.slice none 0 0), 1, 24) by kernel_rfl)
  have J0 := Lib.hid hj0
  have J1 := Lib.hid hy1
  have HK := Lib.hid hk
  have HN := Lib.hid hn
  have ZK := Lib.hid (show (Try.prog.info? 23).map (·.size) = some (W8 k).size by rw [W8_size, hk]; kernel_rfl)
  have ZN := Lib.hid (show (Try.prog.info? 27).map (·.size) = some (W8 n).size by rw [W8_size, hn]; kernel_rfl)
  have H0 := Lib.hid R0
  have H1 := Lib.hid R1
  obtain ⟨q0, hq0⟩ : ∃ q, q = l0.length := ⟨_, rfl⟩
  obtain ⟨q1, hq1⟩ : ∃ q, q = l1.length := ⟨_, rfl⟩
  rw [← hq0, ← hq1]
  have Q0 := Lib.hid hq0.symm
  have Q1 := Lib.hid hq1.symm
  clear hi0 hz0 hz1 hz2 hj0 hy0 hy1 hy2 hk hn R0 R1 hq0 hq1
  go_enter Try.func4, Try.ntmps4
  go_upto_region 1 with fail
  generalize hw1 : World.alloc w _ = w1
  generalize hw2 : World.alloc w1 _ = w2
  generalize hw3 : World.alloc w2 _ = w3
  have S := Lib.hid (show BkW w k n w3 ∧ w3.heap[w.heap.size + 1 + 1]? = some (.cells #[.slice A0 q0 c0, .slice A1 q1 c1] 38 (0, 0)) by
    rw [← hw3, ← hw2, ← hw1]
    exact ⟨⟨(((Below.refl _ _).alloc (Nat.le_refl _) _).alloc (by simp) _).alloc (by simp <;> omega) _, ha_old _ _ _ (by simp <;> omega) (ha_old _ _ _ (by simp) (ha_new _ _ _ rfl)), ha_old _ _ _ (by simp) (ha_new _ _ _ (by simp))⟩, ha_new _ _ _ (by simp)⟩)
  clear hw1 hw2 hw3
  have S := Lib.hid (show BkW w k n w3.drew ∧ w3.drew.heap[w.heap.size + 1 + 1]? = some (.cells #[.slice A0 q0 c0, .slice A1 q1 c1] 38 (0, 0)) from ⟨S.out.1.keep (Below.refl _ _).drew, S.out.2⟩)
  refine wp_region_road (fun W => BkW w k n W ∧ W.heap[w.heap.size + 1 + 1]? = some (.cells #[.slice A0 q0 c0, .slice A1 q1 c1] 38 (0, 0))) [(true, 0), (true, 1), (true, 3), (true, 4), (false, 2), (false, 5), (true, 6), (true, 7)] (by kernel_rfl) (by kernel_rfl) (fun _ _ d _ _ h => by cases d <;> exact h) ?_
  simp only [List.filterMap_cons, List.filterMap_nil, List.getElem?_toArray, List.getElem?_cons_zero, List.getElem?_cons_succ, Option.map_some]
  refine planG_q (by rfl) (S.out) (fun W hW => run_iaddr_arr 38 (.tmp 5) (.const (.int .i64 0)) rfl 2 24 Try.underlying38 J0.out J1.out (w.heap.size + 1 + 1) 0 (by omega) .i64 _ rfl rfl rfl W) ?_
  simp only [Act.put, List.setIfInBounds_toArray, List.set_cons_zero, List.set_cons_succ]
  refine planG_q (by rfl) (S.out) (fun W hW => run_cell 24 (.tmp 18) rfl _ Try.underlying24 rfl rfl (row_cell hW.2 0 rfl)) ?_
  simp only [Act.put, List.setIfInBounds_toArray, List.set_cons_zero, List.set_cons_succ]
  refine planG_q (by rfl) (S.out) (fun W hW => run_iaddr_arr 38 (.tmp 5) (.const (.int .i64 1)) rfl 2 24 Try.underlying38 J0.out J1.out (w.heap.size + 1 + 1) 1 (by omega) .i64 _ rfl rfl rfl W) ?_
  simp only [Act.put, List.setIfInBounds_toArray, List.set_cons_zero, List.set_cons_succ]
  refine planG_q (by rfl) (S.out) (fun W hW => run_cell 24 (.tmp 21) rfl _ Try.underlying24 rfl rfl (row_cell hW.2 1 rfl)) ?_
  simp only [Act.put, List.setIfInBounds_toArray, List.set_cons_zero, List.set_cons_succ]
  refine planG_t (by rfl) (fun K hK => ?_)
  go_simp
  refine (short_any _ A0 q0 c0 l0 Q0.out (by have := H0.out.2.1; have := Q0.out; omega) 500 (by omega)).mono ?_
  obtain ⟨b, hb⟩ : ∃ b, b = l0.take 500 := ⟨_, rfl⟩
  obtain ⟨p, hp⟩ : ∃ p, p = b.length := ⟨_, rfl⟩
  rw [← hb, ← hp]
  have BL := Lib.hid hp.symm
  have BQ := Lib.hid (show p ≤ 500 ∧ p ≤ c0 by have := H0.out.2.1; rw [hp, hb, List.length_take]; omega)
  have BR := Lib.hid (show RdB w A0 b by rw [hb]; exact H0.out.1.take _)
  rintro e wd ⟨rfl, hw⟩
  rw [hw]
  clear hw wd hb hp
  refine hK.out _ _ (S.out) ?_
  clear hK K
  refine planG_t (by rfl) (fun K hK => ?_)
  go_simp
  refine (short_any _ A1 q1 c1 l1 Q1.out (by have := H1.out.2.1; have := Q1.out; omega) 1000 (by omega)).mono ?_
  obtain ⟨t, ht⟩ : ∃ t, t = l1.take 1000 := ⟨_, rfl⟩
  obtain ⟨q, hq⟩ : ∃ q, q = t.length := ⟨_, rfl⟩
  rw [← ht, ← hq]
  have TL := Lib.hid hq.symm
  have TQ := Lib.hid (show q ≤ 1000 ∧ q ≤ c1 by have := H1.out.2.1; rw [hq, ht, List.length_take]; omega)
  have TR := Lib.hid (show RdB w A1 t by rw [ht]; exact H1.out.1.take _)
  rintro e wd ⟨rfl, hw⟩
  rw [hw]
  clear hw wd ht hq
  refine hK.out _ _ (S.out) ?_
  clear hK K
  refine planG_q (v := ?_) (by rfl) (S.out) ?_ ?_
  rotate_left
  · intro W hW
    go_simp
    with_reducible rfl
  simp only [Act.put, List.setIfInBounds_toArray, List.set_cons_zero, List.set_cons_succ]
  refine planG_q (v := ?_) (by rfl) (S.out) ?_ ?_
  rotate_left
  · intro W hW
    go_simp
    with_reducible rfl
  simp only [Act.put, List.setIfInBounds_toArray, List.set_cons_zero, List.set_cons_succ]
  refine planG_nil ?_
  obtain ⟨w4, hw4⟩ : ∃ w4, w4 = w3.drew := ⟨_, rfl⟩
  rw [← hw4] at S ⊢
  clear hw4
  have S := Lib.hid S.out.1
  have qb : (q : Int) ≤ 1000 := by have := TQ.out; omega
  go_wp2_with (first
    | (refine wpList_val rfl (run_load_row 23 (.tmp 3) rfl w.heap.size rfl 23 (W8 k) (0, 0) _ S.out.bk Try.underlying23 rfl ZK.out) ?_)
    | (refine wpList_val rfl (run_load_row 27 (.tmp 4) rfl (w.heap.size + 1) rfl 27 (W8 n) (0, 0) _ S.out.bn Try.underlying27 rfl ZN.out) ?_))
  refine (seal_any k n HK.out HN.out w4 A0 p c0 b BL.out (BR.out.keep S.out.bel) A1 q c1 t TL.out TQ.out.2 (TR.out.keep S.out.bel) (fun a e => Nat.lt_of_lt_of_le (H1.out.2.2.2 a e) S.out.bel.size) (by have := BQ.out; omega) (by have := TQ.out; omega)).mono ?_
  obtain ⟨s, hs⟩ : ∃ s, s = sealL k n b t := ⟨_, rfl⟩
  obtain ⟨m, hm⟩ : ∃ m, m = s.length := ⟨_, rfl⟩
  have MQ := Lib.hid (show m = q + 16 by rw [hm, hs, sealL_length, TL.out])
  have SE := Lib.hid hs
  have mb : (m : Int) ≤ 1016 := by have := MQ.out; omega
  have O1 := Lib.hid (show openL k n b s = some t by rw [hs]; exact openL_seal _ _ _ _)
  rw [← hs]
  rintro e w5 ⟨v, rfl, ho, hb⟩
  obtain ⟨As, cs, rfl, hrs, hls, _, hbs⟩ := ho.read
  rw [← hm] at hls ⊢
  have ML := Lib.hid hm.symm
  have RS := Lib.hid hrs
  have CS := Lib.hid hls
  have LS := Lib.hid (show ∀ a, As = some a → a.block < w5.heap.size from fun a e => (hbs a e).2)
  have S := Lib.hid (S.out.keep hb)
  clear ho hb hrs hls hbs hs hm
  go_wp2_with (first
    | (refine wpList_val rfl (run_load_row 23 (.tmp 3) rfl w.heap.size rfl 23 (W8 k) (0, 0) _ S.out.bk Try.underlying23 rfl ZK.out) ?_)
    | (refine wpList_val rfl (run_load_row 27 (.tmp 4) rfl (w.heap.size + 1) rfl 27 (W8 n) (0, 0) _ S.out.bn Try.underlying27 rfl ZN.out) ?_))
  refine (open_any k n HK.out HN.out w5 A0 p c0 b BL.out (BR.out.keep S.out.bel) As m cs s ML.out CS.out RS.out LS.out (by have := BQ.out; omega) (by omega)).mono ?_
  rw [O1.out]
  rintro e w6 hp
  obtain ⟨⟨v, rfl, ho⟩, hb⟩ := hp.yes
  obtain ⟨Ab, cb, rfl, hrb, _⟩ := ho.read
  rw [TL.out]
  have RB := Lib.hid hrb
  have RS := Lib.hid (RS.out.keep hb)
  have LS := Lib.hid (show ∀ a, As = some a → a.block < w6.heap.size from fun a e => Nat.lt_of_lt_of_le (LS.out a e) hb.size)
  have S := Lib.hid (S.out.keep hb)
  have T6 := Lib.hid (TR.out.keep S.out.bel)
  clear hp ho hb hrb
  have e1 : (q : Int) + 16 = (m : Int) := by rw [MQ.out]; rfl
  go_wp2_with (first
    | (refine wpList_valg rfl (run_str 24 9 (.tmp 48) rfl Try.underlying24 Try.underlying5 Try.underlying9 RB.out q cb TL.out rfl) ?_)
    | (refine wpList_valg rfl (run_str 24 9 (.tmp 50) rfl Try.underlying24 Try.underlying5 Try.underlying9 T6.out q c1 TL.out rfl) ?_)
    | (refine wpList_valg rfl (run_neqstr_false 9 9 (.tmp 49) (.tmp 51) rfl t t rfl rfl rfl _) ?_))
  clear e1 RB T6
  go_loopw [12] (fun i wr => ∃ j : Nat, j ≤ 16 ∧ i = .int .i64 (((q + j : Nat)) : Int) ∧ Below w6.heap.size w6 wr) (fun i _ => m - (intOf i).toNat)
  case atStart => exact ⟨0, by omega, rfl, Below.refl _ _⟩
  case round =>
    obtain ⟨j, hj, rfl, hbk⟩ := hrel
    have J := Lib.hid hj
    have BK := Lib.hid hbk
    obtain ⟨i, hi⟩ : ∃ i, i = q + j := ⟨_, rfl⟩
    rw [← hi]
    have IE := Lib.hid hi
    clear hj hbk hi
    have S := Lib.hid (S.out.keep BK.out)
    have RS := Lib.hid (RS.out.keep BK.out)
    have LS := Lib.hid (show ∀ a, As = some a → a.block < wr.heap.size from fun a e => Nat.lt_of_lt_of_le (LS.out a e) BK.out.size)
    have ib : (i : Int) ≤ 1016 := by have := IE.out; have := J.out; omega
    by_cases hlt : i < m
    · have hD : decide ((i : Int) < (m : Int)) = true := by simp; omega
      have hD2 : decide (i < m) = true := by simp; omega
      have iM : (i : Int) < (m : Int) := by omega
      go_wp2_with (refine app_list rfl TB.out (.tmp 62) (.tmp 63) rfl wr.heap.size _ [] s As m cs rfl rfl ML.out (World.ownsRow_made wr #[] 0 (Nat.le_refl _) (Nat.zero_le _) rfl) (RS.out.keep (below_new _ _)) (by simp) (by simp; omega) ?_)
      intro v1 w7 ho hg _
      have S7 := Lib.hid (Below.trans (below_new wr (.cells #[] 5)) (grown_below hg (by rw [ha_size]; omega) (show ∀ x, (Value.slice (some ⟨wr.heap.size, 0, none⟩) 0 0).ownBlock = some x → wr.heap.size ≤ x from fun x e => by simp [Value.ownBlock] at e; omega)))
      obtain ⟨g, cap, cur, rfl, hg1, hgr, hcap, hRd⟩ := ho.block (by intro h; have h1 := ML.out; rw [h] at h1; have := MQ.out; simp at h1; omega)
      rw [ML.out] at hcap ⊢
      obtain ⟨y, hy⟩ : ∃ y, y = s.getD i 0 := ⟨_, rfl⟩
      have YE := Lib.hid hy
      obtain ⟨_, _, e', hc⟩ := hRd i (by rw [ML.out]; exact hlt)
      cases e'
      rw [Nat.zero_add, ← hy] at hc
      have hf := row_free hgr i
      have G1 := Lib.hid hg1
      have GR := Lib.hid hgr
      have RD := Lib.hid hRd
      have GC := Lib.hid hcap
      obtain ⟨r, hr, e2⟩ := mask_i64 (i : Int) 7 (by omega)
      replace e2 : bits .and .i64 (i : Int) 7 = (r : Int) := e2
      have rb : (r : Int) ≤ 7 := by omega
      have e3 : IntKind.u64.wrap (r : Int) = (r : Int) := by rw [IntKind.wrap_u64]; omega
      clear ho hg hg1 hgr hcap hRd hy hr
      go_upto_region 11 with fail
      obtain ⟨z, hz, ez⟩ := pow_ex r (by omega)
      rw [ez, u8_xor' y z]
      obtain ⟨w8, hw8⟩ : ∃ w8, w8 = w7.setCell ⟨g, i, none⟩ (.int .u8 ((y ^^^ z).toNat : Int)) := ⟨_, rfl⟩
      rw [← hw8]
      have G8 := Lib.hid (show w7.grownBy w8 (some g) by rw [hw8]; exact grown_set (World.grownBy.refl _ _) _ _)
      have R8 := Lib.hid (show RdB w8 (some ⟨g, 0, none⟩) (s.set i (y ^^^ z)) by rw [hw8]; exact RD.out.set i (by rw [ML.out]; exact hlt) _)
      have B8' := Lib.hid (show Below wr.heap.size wr w8 from S7.out.trans (grown_below G8.out S7.out.size (by rintro x ⟨⟩; exact G1.out)))
      have GL := Lib.hid (show g < w8.heap.size from Nat.lt_of_lt_of_le (row_lt GR.out) G8.out.size)
      have O2 := Lib.hid (show openL k n b (s.set i (y ^^^ z)) = none by rw [SE.out]; exact openL_other k n b t i (by rw [TL.out]; have := IE.out; omega) (by rw [TL.out]; have := MQ.out; omega) _ (by rw [← SE.out, ← YE.out]; exact xor_ne y z hz.out))
      have S8 := Lib.hid (S.out.keep B8'.out)
      clear hw8 hz ez e2 e3 hc hf
      go_wp2_with (first
        | (refine wpList_val rfl (run_load_row 23 (.tmp 3) rfl w.heap.size rfl 23 (W8 k) (0, 0) _ S8.out.bk Try.underlying23 rfl ZK.out) ?_)
        | (refine wpList_val rfl (run_load_row 27 (.tmp 4) rfl (w.heap.size + 1) rfl 27 (W8 n) (0, 0) _ S8.out.bn Try.underlying27 rfl ZN.out) ?_))
      refine (open_any k n HK.out HN.out w8 A0 p c0 b BL.out (BR.out.keep S8.out.bel) (some ⟨g, 0, none⟩) m cap (s.set i (y ^^^ z)) (by rw [List.length_set, ML.out]) GC.out R8.out (by rintro a ⟨⟩; exact GL.out) (by have := BQ.out; omega) (by omega)).mono ?_
      rw [O2.out]
      rintro e w9 hp
      obtain ⟨rfl, hb9⟩ := hp.no
      have B9 := Lib.hid (BK.out.trans ((B8'.out.mono BK.out.size).trans (hb9.mono (Nat.le_trans BK.out.size B8'.out.size))))
      clear hp hb9
      go_wp2_with fail
      go_roundw
      case rel => exact ⟨j + 1, by have := IE.out; have := MQ.out; omega, by have := IE.out; go_num, B9.out⟩
      case measure => simp [intOf]; omega
    · have hD : decide ((i : Int) < (m : Int)) = false := by simp; omega
      have hD2 : decide (i < m) = false := by simp; omega
      go_upto_region 14 with fail
      have SD := Lib.hid (S.out.keep (Below.refl _ _).drew)
      have O3 := Lib.hid (show openL k n b (s.take 15) = none from openL_short _ _ _ _ (by rw [List.length_take]; omega))
      refine wp_region_road (fun W => BkW w k n W) [(true, 0), (true, 1), (true, 2), (true, 3), (true, 4), (false, 5), (true, 6), (true, 7), (true, 8), (true, 9), (true, 10)] (by kernel_rfl) (by kernel_rfl) (fun _ _ d _ _ h => by cases d <;> exact h) ?_
      simp only [List.filterMap_cons, List.filterMap_nil, List.getElem?_toArray, List.getElem?_cons_zero, List.getElem?_cons_succ, Option.map_some]
      refine planG_q (by rfl) (SD.out) (fun W hW => run_load_row 23 (.tmp 3) rfl w.heap.size rfl 23 (W8 k) (0, 0) _ hW.bk Try.underlying23 rfl ZK.out) ?_
      simp only [Act.put, List.setIfInBounds_toArray, List.set_cons_zero, List.set_cons_succ]
      refine planG_q (by rfl) (SD.out) (fun W hW => run_load_row 27 (.tmp 4) rfl (w.heap.size + 1) rfl 27 (W8 n) (0, 0) _ hW.bn Try.underlying27 rfl ZN.out) ?_
      simp only [Act.put, List.setIfInBounds_toArray, List.set_cons_zero, List.set_cons_succ]
      refine planG_q (v := ?_) (by rfl) (SD.out) ?_ ?_
      rotate_left
      · intro W hW
        go_simp
        with_reducible rfl
      simp only [Act.put, List.setIfInBounds_toArray, List.set_cons_zero, List.set_cons_succ]
      refine planG_q (v := ?_) (by rfl) (SD.out) ?_ ?_
      rotate_left
      · intro W hW
        go_simp
        with_reducible rfl
      simp only [Act.put, List.setIfInBounds_toArray, List.set_cons_zero, List.set_cons_succ]
      refine planG_q (by rfl) (SD.out) (fun W hW => run_cut_to 24 (.tmp 95) (.const (.int .i64 15)) rfl 5 Try.underlying24 I0.out I1.out As m cs 15 rfl rfl (by have := MQ.out; have := CS.out; omega) W) ?_
      simp only [Act.put, List.setIfInBounds_toArray, List.set_cons_zero, List.set_cons_succ]
      refine planG_t (by rfl) (fun K hK => ?_)
      go_simp
      refine (open_any k n HK.out HN.out wr.drew A0 p c0 b BL.out (BR.out.keep SD.out.bel) As 15 cs (s.take 15) (by rw [List.length_take, ML.out, MQ.out]; omega) (by have := MQ.out; have := CS.out; omega) ((RS.out.keep (Below.refl _ _).drew).take 15) LS.out (by have := BQ.out; omega) (by omega)).mono ?_
      rw [O3.out]
      rintro e w9 hp
      obtain ⟨rfl, hb9⟩ := hp.no
      have SD := Lib.hid (SD.out.keep hb9)
      clear hp hb9
      refine hK.out _ _ (SD.out) ?_
      clear hK K
      refine planG_q (v := ?_) (by rfl) (SD.out) ?_ ?_
      rotate_left
      · intro W hW
        go_simp
        with_reducible rfl
      simp only [Act.put, List.setIfInBounds_toArray, List.set_cons_zero, List.set_cons_succ]
      refine planG_q (v := ?_) (by rfl) (SD.out) ?_ ?_
      rotate_left
      · intro W hW
        go_simp
        with_reducible rfl
      simp only [Act.put, List.setIfInBounds_toArray, List.set_cons_zero, List.set_cons_succ]
      refine planG_q (v := ?_) (by rfl) (SD.out) ?_ ?_
      rotate_left
      · intro W hW
        go_simp
        with_reducible rfl
      simp only [Act.put, List.setIfInBounds_toArray, List.set_cons_zero, List.set_cons_succ]
      refine planG_q (v := ?_) (by rfl) (SD.out) ?_ ?_
      rotate_left
      · intro W hW
        go_simp
        with_reducible rfl
      simp only [Act.put, List.setIfInBounds_toArray, List.set_cons_zero, List.set_cons_succ]
      refine planG_q (v := ?_) (by rfl) (SD.out) ?_ ?_
      rotate_left
      · intro W hW
        go_simp
        with_reducible rfl
      simp only [Act.put, List.setIfInBounds_toArray, List.set_cons_zero, List.set_cons_succ]
      refine planG_nil ?_
      go_wp2_with fail
      refine (aeadOne_true _).mono ?_
      rintro e w10 ⟨rfl, hb⟩
      have BF := Lib.hid (SD.out.bel.trans (hb.mono SD.out.bel.size))
      clear hb
      go_wp2_with fail
      go_ret
      exact ⟨rfl, BF.out⟩
end Go.Proofs.Ytdheopihcohciaa
