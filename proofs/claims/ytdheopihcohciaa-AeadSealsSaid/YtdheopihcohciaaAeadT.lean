/- aead: Tag, Seal. No condition but those each theorem states. -/
import Derived.Test.YtdheopihcohciaaAeadP
import Derived.Test.YtdheopihcohciaaStream
import Derived.Test.YtdheopihcohciaaPolySum
import Derived.Test.YtdheopihcohciaaBls
import Derived.Test.YtdheopihcohciaaTree
namespace Go.Proofs.Ytdheopihcohciaa
set_option linter.unusedVariables false
set_option linter.unusedSimpArgs false
open Go.RowKit
attribute [local go_sem ↓] Go.wp_at_zero Go.wp_at_succ

/-- What the tag is over. -/
def overL (beside sealed : List UInt8) : List UInt8 := padB beside ++ padB sealed ++ leL 8 beside.length ++ leL 8 sealed.length
def tagL (k n beside sealed : List UInt8) : List UInt8 := polyL ((blockL k n 0).take 32) (overL beside sealed)
def sealL (k n beside text : List UInt8) : List UInt8 := streamL k n 1 text ++ tagL k n beside (streamL k n 1 text)
theorem tagL_length (k n beside sealed : List UInt8) : (tagL k n beside sealed).length = 16 := polyL_length _ _
theorem sealL_length (k n beside text : List UInt8) : (sealL k n beside text).length = text.length + 16 := by rw [sealL, List.length_append, streamL_length, tagL_length]
theorem overL_length (b s : List UInt8) : (overL b s).length ≤ b.length + s.length + 46 := by simp [overL, padB_length, leL_length]; omega
theorem run_load_bytes {P : Program} {o : Oper} {a : Act} (ty : TypeId) (x : Operand) (ho : o.op = .load ty x) (b off : Nat) (hx : a.eval x = .pointer (some ⟨b, off, none⟩)) (l : List UInt8) {W : World} (h : W.rangeAt b off (B8 l)) {d : TypeDesc} (hu : P.underlying ty = some d)
    (hd : d.isRow = true) (hi : (P.info? ty).map (·.size) = some (B8 l).length) : (execOp a.eval o).run P W = .ok (.value (.agg (W8 l))) W := by
  unfold execOp
  simp only [ho, hx, Instr.loadAt, Instr.sureAddr, Sem.run_bind, Sem.run_pure, Result.andThen_ok, run_loadVar_mid W b off _ _ _ h hu hd hi]
  rfl
/-- What stands while a tag is made. -/
structure TgW (w : World) (k n : List UInt8) (z : List UInt8) (W : World) : Prop where
  bk : W.heap[w.heap.size]? = some (.cells (W8 k) 23 (0, 0))
  bn : W.heap[w.heap.size + 1]? = some (.cells (W8 n) 27 (0, 0))
  bo : W.heap[w.heap.size + 1 + 1]? = some (.cells (W8 z) 29 (0, 0))
  bel : Below w.heap.size w W
theorem TgW.keep {w W W' : World} {k n z : List UInt8} (h : TgW w k n z W) {B : Nat} (hb : Below B W W') (hB : w.heap.size + 1 + 1 < B) : TgW w k n z W' :=
  ⟨below_block hb (by omega) h.bk, below_block hb (by omega) h.bn, below_block hb hB h.bo, h.bel.trans (hb.mono (by omega))⟩
theorem TgW.lt {w W : World} {k n z : List UInt8} (h : TgW w k n z W) : w.heap.size + 1 + 1 < W.heap.size := row_lt h.bo
theorem TgW.seto {w W W' : World} {k n z z' : List UInt8} (h : TgW w k n z W) (hz : W'.heap[w.heap.size + 1 + 1]? = some (.cells (W8 z') 29 (0, 0))) (hg : W.grownBy W' (some (w.heap.size + 1 + 1))) : TgW w k n z' W' :=
  ⟨grown_block hg (by simp; omega) h.bk, grown_block hg (by simp) h.bn, hz, h.bel.trans (grown_below hg h.bel.size (by rintro g ⟨⟩; omega))⟩
set_option maxRecDepth 100000 in
set_option maxHeartbeats 4000000 in
theorem tag_any (k n : List UInt8) (hk : k.length = 32) (hn : n.length = 12) (w : World) (A : Option Addr) (q c : Nat) (l : List UInt8) (hq : l.length = q) (hR : RdB w A l) (A2 : Option Addr) (q2 c2 : Nat) (l2 : List UInt8) (hq2 : l2.length = q2) (hR2 : RdB w A2 l2) (hl : q ≤ 70000) (hl2 : q2 ≤ 100000) :
    Calls Try.prog 8 #[.agg (W8 k), .agg (W8 n), .slice A q c, .slice A2 q2 c2] w fun e w' => e = .returned (.agg (W8 (tagL k n l l2))) ∧ Below w.heap.size w w' := by
  have HK := Lib.hid hk
  have HN := Lib.hid hn
  have HQ := Lib.hid hq
  have HQ2 := Lib.hid hq2
  have HR := Lib.hid hR
  have HR2 := Lib.hid hR2
  have ZK := Lib.hid (show (Try.prog.info? 23).map (·.size) = some (W8 k).size by rw [W8_size, hk]; kernel_rfl)
  have ZN := Lib.hid (show (Try.prog.info? 27).map (·.size) = some (W8 n).size by rw [W8_size, hn]; kernel_rfl)
  have ZZ := Lib.hid zero16
  obtain ⟨T, hT⟩ : ∃ T, T = tagL k n l l2 := ⟨_, rfl⟩
  rw [← hT]
  have TE := Lib.hid hT
  have QB := Lib.hid (And.intro hl hl2)
  have qb : (q : Int) ≤ 70000 := by omega
  have qb2 : (q2 : Int) ≤ 100000 := by omega
  clear hk hn hq hq2 hR hR2 hT hl hl2
  go_enter Try.func8, Try.ntmps8
  go_upto_region 1 with fail
  rw [← ZZ.out]
  generalize hw1 : World.alloc w _ = w0
  generalize hw2 : World.alloc w0 _ = w1
  generalize hw3 : World.alloc w1 _ = w2
  have S := Lib.hid (show TgW w k n Z16 w2 by
    have s0 : w0.heap.size = w.heap.size + 1 := by rw [← hw1, ha_size]
    have s1 : w1.heap.size = w.heap.size + 1 + 1 := by rw [← hw2, ha_size, s0]
    have b0 : w0.heap[w.heap.size]? = some (.cells (W8 k) 23 (0, 0)) := by rw [← hw1]; exact ha_new _ _ _ rfl
    have b1 : w1.heap[w.heap.size + 1]? = some (.cells (W8 n) 27 (0, 0)) := by rw [← hw2]; exact ha_new _ _ _ s0.symm
    have b2 : w2.heap[w.heap.size + 1 + 1]? = some (.cells (W8 Z16) 29 (0, 0)) := by rw [← hw3]; exact ha_new _ _ _ s1.symm
    have h0 : Below w.heap.size w w0 := by rw [← hw1]; exact below_new _ _
    have h1 : Below w0.heap.size w0 w1 := by rw [← hw2]; exact below_new _ _
    have h2 : Below w1.heap.size w1 w2 := by rw [← hw3]; exact below_new _ _
    exact ⟨below_block h2 (by omega) (below_block h1 (by omega) b0), below_block h2 (by omega) b1, b2, h0.trans ((h1.mono (by omega)).trans (h2.mono (by omega)))⟩)
  clear hw1 hw2 hw3
  go_wp2_with (first
    | (refine wpList_val rfl (run_load_row 23 (.tmp 4) rfl w.heap.size rfl 23 (W8 k) (0, 0) _ S.out.bk Try.underlying23 rfl ZK.out) ?_)
    | (refine wpList_val rfl (run_load_row 27 (.tmp 5) rfl (w.heap.size + 1) rfl 27 (W8 n) (0, 0) _ S.out.bn Try.underlying27 rfl ZN.out) ?_))
  refine (block_any k n HK.out HN.out 0 w2).mono ?_
  obtain ⟨B, hB⟩ : ∃ B, B = blockL k n 0 := ⟨_, rfl⟩
  rw [← hB]
  have BE := Lib.hid hB
  have BL := Lib.hid (show B.length = 64 by rw [hB, blockL_length])
  have ZB := Lib.hid (show (Try.prog.info? 44).map (·.size) = some (W8 B).size by rw [W8_size, BL.out]; kernel_rfl)
  rintro e w3 ⟨rfl, hb⟩
  have S := Lib.hid (S.out.keep hb S.out.lt)
  clear hb hB
  go_upto_region 2 with (refine wpList_store_new rfl rfl 44 (.tmp 9) (.tmp 13) rfl (W8 B) rfl rfl ZB.out ?c1 (W8_one _) ?_)
  case c1 => rw [W8_size, BL.out]; rfl
  have MW0 := Lib.hid S.out.lt
  generalize hM : Array.size (World.heap w3) = M at *
  generalize hw : World.alloc w3 _ = w4
  have GB := Lib.hid (show w4.heap[M]? = some (.cells (W8 B) 44 (0, 0)) by rw [← hw]; exact ha_new _ _ _ hM.symm)
  have S := Lib.hid (show TgW w k n Z16 w4 by rw [← hw]; exact S.out.keep (below_new _ _) S.out.lt)
  clear hM hw
  obtain ⟨base, hbase⟩ : ∃ b, b = w4.heap.size := ⟨_, rfl⟩
  have BZ := Lib.hid hbase
  have MB := Lib.hid (show M < base by rw [hbase]; exact row_lt GB.out)
  have MW := Lib.hid (show w.heap.size + 1 + 1 < M from MW0.out)
  have LB := Lib.hid (show w.heap.size + 1 + 1 < base by rw [hbase]; exact S.out.lt)
  clear hbase
  go_wp2_with fail
  refine (padded_any w4 base (.slice none 0 0) [] A q c l HQ.out (OwnB.nil _ _) (by rw [BZ.out]; exact Nat.le_refl _) (HR.out.keep S.out.bel) (by have := QB.out; simp; omega)).mono ?_
  rw [List.nil_append]
  rintro e w5 ⟨v, rfl, ho, hb⟩
  have O := Lib.hid ho
  have GB := Lib.hid (below_block hb MB.out GB.out)
  have S := Lib.hid (S.out.keep hb LB.out)
  have SZ := Lib.hid (show base ≤ w5.heap.size by rw [BZ.out]; exact hb.size)
  clear ho hb BZ
  go_wp2_with fail
  refine (padded_any w5 base v (padB l) A2 q2 c2 l2 HQ2.out O.out SZ.out (HR2.out.keep S.out.bel) (by have := QB.out; rw [padB_length]; have := HQ.out; omega)).mono ?_
  rw [padB_app]
  rintro e w6 ⟨v2, rfl, ho, hb⟩
  have O := Lib.hid ho
  have GB := Lib.hid (below_block hb MB.out GB.out)
  have S := Lib.hid (S.out.keep hb LB.out)
  have SZ := Lib.hid (Nat.le_trans SZ.out hb.size)
  clear ho hb
  go_upto_region 3 with fail
  obtain ⟨i0, hi0, hz0, hz1, hz2⟩ := info_parts (show (Try.prog.info? 5).map (fun i => (i.zero, i.size, i.bytes)) = some (some (.int .u8 0), 1, 1) by kernel_rfl)
  have I0 := Lib.hid hi0
  have ZX := Lib.hid (show (Try.prog.info? 22).map (·.size) = some (B8 (B.take 32)).length by rw [B8_length, List.length_take, BL.out]; kernel_rfl)
  have KL := Lib.hid (show (B.take 32).length = 32 by rw [List.length_take, BL.out]; rfl)
  clear hi0 hz0 hz1 hz2
  have C := Lib.hid (show TgW w k n Z16 w6.drew ∧ w6.drew.heap[M]? = some (.cells (W8 B) 44 (0, 0)) from ⟨S.out.keep (Below.refl _ _).drew S.out.lt, GB.out⟩)
  refine wp_region_road (fun W => (∃ z, TgW w k n z W) ∧ W.heap[M]? = some (.cells (W8 B) 44 (0, 0))) [(true, 0), (true, 1), (true, 2), (true, 3), (true, 4), (true, 5), (true, 7), (true, 8), (false, 6), (false, 9), (false, 10), (false, 11)] (by kernel_rfl) (by kernel_rfl) (fun _ _ d _ _ h => by cases d <;> exact h) ?_
  simp only [List.filterMap_cons, List.filterMap_nil, List.getElem?_toArray, List.getElem?_cons_zero, List.getElem?_cons_succ, Option.map_some]
  refine planG_q (by rfl) (⟨⟨_, C.out.1⟩, C.out.2⟩) (fun W hW => run_arr_to 44 (.tmp 9) (.const (.int .i64 32)) rfl 64 5 Try.underlying44 I0.out M 32 (by omega) rfl rfl W) ?_
  simp only [Act.put, List.setIfInBounds_toArray, List.set_cons_zero, List.set_cons_succ]
  refine planG_q (by rfl) (⟨⟨_, C.out.1⟩, C.out.2⟩) (fun W hW => run_sl2arr 22 (.tmp 18) rfl 32 5 Try.underlying22 (some ⟨M, 0, none⟩) 32 64 rfl (Nat.le_refl _) W) ?_
  simp only [Act.put, List.setIfInBounds_toArray, List.set_cons_zero, List.set_cons_succ]
  refine planG_q (by rfl) (⟨⟨_, C.out.1⟩, C.out.2⟩) (fun W hW => run_load_bytes 22 (.tmp 19) rfl M 0 rfl (B.take 32) (range_row hW.2 0 32 (by rw [BL.out]; omega)) Try.underlying22 rfl ZX.out) ?_
  simp only [Act.put, List.setIfInBounds_toArray, List.set_cons_zero, List.set_cons_succ]
  refine planG_q (v := ?_) (by rfl) (⟨⟨_, C.out.1⟩, C.out.2⟩) ?_ ?_
  rotate_left
  · intro W hW
    go_simp
    with_reducible rfl
  simp only [Act.put, List.setIfInBounds_toArray, List.set_cons_zero, List.set_cons_succ]
  refine planG_q (v := ?_) (by rfl) (⟨⟨_, C.out.1⟩, C.out.2⟩) ?_ ?_
  rotate_left
  · intro W hW
    go_simp
    with_reducible rfl
  simp only [Act.put, List.setIfInBounds_toArray, List.set_cons_zero, List.set_cons_succ]
  refine planG_q (v := ?_) (by rfl) (⟨⟨_, C.out.1⟩, C.out.2⟩) ?_ ?_
  rotate_left
  · intro W hW
    go_simp
    with_reducible rfl
  simp only [Act.put, List.setIfInBounds_toArray, List.set_cons_zero, List.set_cons_succ]
  refine planG_q (v := ?_) (by rfl) (⟨⟨_, C.out.1⟩, C.out.2⟩) ?_ ?_
  rotate_left
  · intro W hW
    go_simp
    with_reducible rfl
  simp only [Act.put, List.setIfInBounds_toArray, List.set_cons_zero, List.set_cons_succ]
  refine planG_q (v := ?_) (by rfl) (⟨⟨_, C.out.1⟩, C.out.2⟩) ?_ ?_
  rotate_left
  · intro W hW
    go_simp
    with_reducible rfl
  simp only [Act.put, List.setIfInBounds_toArray, List.set_cons_zero, List.set_cons_succ]
  refine planG_t (by rfl) (fun K hK => ?_)
  go_simp
  refine (count_any w6.drew base v2 (padB l ++ padB l2) O.out.drew SZ.out q (by omega) (by have := QB.out; simp [padB_length]; have := HQ.out; have := HQ2.out; omega)).mono ?_
  rintro e w7 ⟨v3, rfl, ho, hb⟩
  have O := Lib.hid ho
  have C := Lib.hid (show TgW w k n Z16 w7 ∧ w7.heap[M]? = some (.cells (W8 B) 44 (0, 0)) from ⟨C.out.1.keep hb LB.out, below_block hb MB.out C.out.2⟩)
  have SZ := Lib.hid (Nat.le_trans SZ.out hb.size)
  clear ho hb
  refine hK.out _ _ (⟨⟨_, C.out.1⟩, C.out.2⟩) ?_
  clear hK K
  refine planG_t (by rfl) (fun K hK => ?_)
  go_simp
  refine (count_any w7 base v3 _ O.out SZ.out q2 (by omega) (by have := QB.out; simp [padB_length, leL_length]; have := HQ.out; have := HQ2.out; omega)).mono ?_
  obtain ⟨V, hV⟩ : ∃ V, V = padB l ++ padB l2 ++ leL 8 q ++ leL 8 q2 := ⟨_, rfl⟩
  rw [← hV]
  have VE := Lib.hid (show V = overL l l2 by rw [hV, overL, HQ.out, HQ2.out])
  rintro e w8 ⟨v4, rfl, ho, hb⟩
  obtain ⟨A5, c5, rfl, hr5, hl5, _, _⟩ := ho.read
  obtain ⟨m, hm⟩ : ∃ m, m = V.length := ⟨_, rfl⟩
  rw [← hm] at hl5 ⊢
  have R5 := Lib.hid hr5
  have L5 := Lib.hid hl5
  have M5 := Lib.hid hm.symm
  have MV := Lib.hid (show m ≤ 200000 by have := overL_length l l2; rw [← VE.out] at this; have := QB.out; have := HQ.out; have := HQ2.out; omega)
  have C := Lib.hid (show TgW w k n Z16 w8 ∧ w8.heap[M]? = some (.cells (W8 B) 44 (0, 0)) from ⟨C.out.1.keep hb LB.out, below_block hb MB.out C.out.2⟩)
  have SZ := Lib.hid (Nat.le_trans SZ.out hb.size)
  clear ho hb hr5 hl5 hm hV O
  refine hK.out _ _ (⟨⟨_, C.out.1⟩, C.out.2⟩) ?_
  clear hK K
  refine planG_t (by rfl) (fun K hK => ?_)
  go_simp
  refine (polySum_any (B.take 32) KL.out w8 A5 m c5 V M5.out L5.out R5.out (by have := MV.out; omega)).mono ?_
  rw [show polyL (B.take 32) V = T by rw [TE.out, tagL, VE.out, BE.out]]
  rintro e w9 ⟨rfl, hb⟩
  have C := Lib.hid (show TgW w k n Z16 w9 ∧ w9.heap[M]? = some (.cells (W8 B) 44 (0, 0)) from ⟨C.out.1.keep hb C.out.1.lt, below_block hb (row_lt C.out.2) C.out.2⟩)
  have ZT := Lib.hid (show (Try.prog.info? 29).map (·.size) = some (W8 T).size by rw [W8_size, TE.out, tagL_length]; kernel_rfl)
  clear hb
  refine hK.out _ _ (⟨⟨_, C.out.1⟩, C.out.2⟩) ?_
  clear hK K
  refine planG_t (by rfl) (fun K hK => ?_)
  refine storeW_wp 29 (.tmp 8) (.tmp 28) rfl (w.heap.size + 1 + 1) (W8 T) rfl rfl _ _ C.out.1.bo ZT.out (by rw [W8_size, W8_size, TE.out, tagL_length]; rfl) (W8_one _) ?_
  intro w10 hz10 hg10 _
  have C10 := Lib.hid (C.out.1.seto hz10 hg10)
  have G10 := Lib.hid (grown_block hg10 (by have := MW.out; simp; omega) C.out.2)
  clear hz10 hg10
  refine hK.out _ _ (⟨⟨_, C10.out⟩, G10.out⟩) ?_
  clear hK K
  refine planG_nil ?_
  go_wp2_with fail
  refine bodyPost_ret (results_cell_row rfl _ _ (w.heap.size + 1 + 1) 29 (W8 T) (0, 0) _ rfl C10.out.bo Try.underlying29 rfl ZT.out) rfl ⟨rfl, C10.out.bel⟩
set_option maxRecDepth 100000 in
set_option maxHeartbeats 4000000 in
theorem seal_any (k n : List UInt8) (hk : k.length = 32) (hn : n.length = 12) (w : World) (A : Option Addr) (q c : Nat) (l : List UInt8) (hq : l.length = q) (hR : RdB w A l) (A2 : Option Addr) (q2 c2 : Nat) (l2 : List UInt8) (hq2 : l2.length = q2) (hc2 : q2 ≤ c2) (hR2 : RdB w A2 l2) (hlt : ∀ a, A2 = some a → a.block < w.heap.size) (hl : q ≤ 70000) (hl2 : q2 ≤ 70000) :
    Calls Try.prog 7 #[.agg (W8 k), .agg (W8 n), .slice A q c, .slice A2 q2 c2] w fun e w' => ∃ v, e = .returned v ∧ OwnB w' w.heap.size v (sealL k n l l2) ∧ Below w.heap.size w w' := by
  have TB := Lib.hid (show ByteT Try.prog from ⟨Try.underlying24, by kernel_rfl⟩)
  have HK := Lib.hid hk
  have HN := Lib.hid hn
  have HQ := Lib.hid hq
  have HQ2 := Lib.hid hq2
  have HR := Lib.hid hR
  have HR2 := Lib.hid hR2
  have HC2 := Lib.hid hc2
  have HLT := Lib.hid hlt
  have ZK := Lib.hid (show (Try.prog.info? 23).map (·.size) = some (W8 k).size by rw [W8_size, hk]; kernel_rfl)
  have ZN := Lib.hid (show (Try.prog.info? 27).map (·.size) = some (W8 n).size by rw [W8_size, hn]; kernel_rfl)
  have QB := Lib.hid (And.intro hl hl2)
  obtain ⟨i0, hi0, hz0, hz1, hz2⟩ := info_parts (show (Try.prog.info? 5).map (fun i => (i.zero, i.size, i.bytes)) = some (some (.int .u8 0), 1, 1) by kernel_rfl)
  have I0 := Lib.hid hi0
  clear hk hn hq hq2 hR hR2 hl hl2 hc2 hlt hi0 hz0 hz1 hz2
  go_enter Try.func7, Try.ntmps7
  go_upto_region 1 with fail
  generalize hw1 : World.alloc w _ = w0
  generalize hw2 : World.alloc w0 _ = w1
  have S := Lib.hid (show StrW w k n w1 by rw [← hw2, ← hw1]; exact str_start w k n)
  clear hw1 hw2
  go_wp2_with (first
    | (refine wpList_val rfl (run_load_row 23 (.tmp 4) rfl w.heap.size rfl 23 (W8 k) (0, 0) _ S.out.bk Try.underlying23 rfl ZK.out) ?_)
    | (refine wpList_val rfl (run_load_row 27 (.tmp 5) rfl (w.heap.size + 1) rfl 27 (W8 n) (0, 0) _ S.out.bn Try.underlying27 rfl ZN.out) ?_))
  have SA := Lib.hid (stream_any k n HK.out HN.out 1 w1 A2 c2 l2 (HR2.out.keep S.out.bel) (by rw [HQ2.out]; exact HC2.out) (by have := QB.out; have := HQ2.out; omega) (fun a e => Nat.lt_of_lt_of_le (HLT.out a e) S.out.bel.size))
  rw [HQ2.out] at SA
  refine SA.out.mono ?_
  obtain ⟨X, hX⟩ : ∃ X, X = streamL k n 1 l2 := ⟨_, rfl⟩
  rw [← hX]
  have XE := Lib.hid hX
  have XL := Lib.hid (show X.length = q2 by rw [hX, streamL_length, HQ2.out])
  rintro e w2 ⟨v, rfl, ho, hb⟩
  obtain ⟨Ax, cx, rfl, hrx, _, _, hbx⟩ := ho.read
  rw [XL.out] at ho ⊢
  have O := Lib.hid ho
  have RX := Lib.hid hrx
  have BX := Lib.hid (show ∀ g, (Value.slice Ax q2 cx).ownBlock = some g → w.heap.size + 1 < g from fun g e => by have := (ho.lt g e).1; have := S.out.size; omega)
  have N1 := Lib.hid S.out.bel.size
  have N2 := Lib.hid hb.size
  have S := Lib.hid (S.out.below hb)
  clear ho hb hrx hX hbx SA
  go_wp2_with (first
    | (refine wpList_val rfl (run_load_row 23 (.tmp 4) rfl w.heap.size rfl 23 (W8 k) (0, 0) _ S.out.bk Try.underlying23 rfl ZK.out) ?_)
    | (refine wpList_val rfl (run_load_row 27 (.tmp 5) rfl (w.heap.size + 1) rfl 27 (W8 n) (0, 0) _ S.out.bn Try.underlying27 rfl ZN.out) ?_))
  refine (tag_any k n HK.out HN.out w2 A q c l HQ.out (HR.out.keep S.out.bel) Ax q2 cx X XL.out RX.out (by have := QB.out; omega) (by have := QB.out; omega)).mono ?_
  obtain ⟨T, hT⟩ : ∃ T, T = tagL k n l X := ⟨_, rfl⟩
  rw [← hT]
  have TE := Lib.hid (show X ++ T = sealL k n l l2 by rw [hT, XE.out]; rfl)
  have TL := Lib.hid (show T.length = 16 by rw [hT, tagL_length])
  have ZT := Lib.hid (show (Try.prog.info? 29).map (·.size) = some (W8 T).size by rw [W8_size, TL.out]; kernel_rfl)
  rintro e w3 ⟨rfl, hb⟩
  have O := Lib.hid (O.out.below hb)
  have S := Lib.hid (S.out.below hb)
  have N3 := Lib.hid (Nat.le_trans N2.out hb.size)
  clear hb hT RX
  go_upto_region 3 with (refine wpList_store_new rfl rfl 29 (.tmp 10) (.tmp 19) rfl (W8 T) rfl rfl ZT.out ?c1 (W8_one _) ?_)
  case c1 => rw [W8_size, TL.out]; rfl
  generalize hM : Array.size (World.heap w3) = M
  generalize hw : World.alloc w3 _ = w4
  have RT := Lib.hid (show RdB w4 (some ⟨M, 0, none⟩) T from RdB.row (t := 29) (fr := (0, 0)) (by rw [← hw]; exact ha_new _ _ _ hM.symm))
  have O := Lib.hid (show OwnB w4 w1.heap.size (.slice Ax q2 cx) X by rw [← hw]; exact O.out.alloc _)
  have S := Lib.hid (show StrW w k n w4 by rw [← hw]; exact S.out.below (below_new _ _))
  have SL := Lib.hid (show w1.heap.size ≤ w4.heap.size ∧ w.heap.size ≤ w1.heap.size from ⟨by rw [← hw, ha_size]; exact Nat.le_succ_of_le N3.out, N1.out⟩)
  clear hM hw
  go_wp2_with (first
    | (refine wpList_val rfl (run_arr_all 29 (.tmp 10) rfl 16 5 Try.underlying29 I0.out M rfl _) ?_)
    | (refine app_list rfl TB.out (.tmp 20) (.tmp 21) rfl w1.heap.size _ X T (some ⟨M, 0, none⟩) 16 16 rfl rfl TL.out O.out RT.out SL.out.1 (by have := XL.out; have := QB.out; omega) ?_; intro v5 w5 ho5 hg5 _))
  go_ret
  refine ⟨_, rfl, by rw [← TE.out]; exact ho5.mono SL.out.2, S.out.bel.trans (grown_below hg5 S.out.bel.size (fun g e => by have := BX.out g e; omega))⟩
end Go.Proofs.Ytdheopihcohciaa
