/- The law AeadSeals, walked. -/
import Derived.Test.YtdheopihcohciaaAeadOne
import Derived.Test.YtdheopihcohciaaAeadF
namespace Go.Proofs.Ytdheopihcohciaa
set_option linter.unusedVariables false
set_option linter.unusedSimpArgs false
open Go.RowKit
attribute [local go_sem ↓] Go.wp_at_zero Go.wp_at_succ

/-- Key and nonce, boxed. -/
structure KnW (w : World) (k n : List UInt8) (W : World) : Prop where
  bel : Below w.heap.size w W
  bk : W.heap[w.heap.size]? = some (.cells (W8 k) 23 (0, 0))
  bn : W.heap[w.heap.size + 1]? = some (.cells (W8 n) 27 (0, 0))
theorem KnW.keep {w W W' : World} {k n : List UInt8} (h : KnW w k n W) (hb : Below W.heap.size W W') : KnW w k n W' := ⟨h.bel.trans (hb.mono h.bel.size), below_block hb (row_lt h.bk) h.bk, below_block hb (row_lt h.bn) h.bn⟩
theorem run_build_n11 {o : Oper} {a : Act} (x : UInt8) (y : Operand) (ho : o.op = .build 27 #[(11, y)]) (h : a.eval y = .int .u8 (x.toNat : Int)) (W : World) : (execOp a.eval o).run Try.prog W = .ok (.value (.agg (W8 (List.replicate 11 0 ++ [x])))) W := by
  have h2 : ∀ W : World, (Instr.build 27 #[(11, .int .u8 (x.toNat : Int))]).run Try.prog W = .ok (.agg (W8 (List.replicate 11 0 ++ [x]))) W := by
    intro W
    kernel_rfl
  unfold execOp
  simp only [ho, List.map_toArray, List.map_cons, List.map_nil, h, Sem.run_bind, h2, Result.andThen_ok, Sem.run_pure]
theorem OpenP.get {w : World} {r : Option (List UInt8)} {e : Ending} {w' : World} (h : OpenP w r e w') : ∃ A m c, e = .returned (.tuple #[.slice A m c, .bool r.isSome]) ∧ RdB w' A (r.getD []) ∧ (r.getD []).length = m ∧ Below w.heap.size w w' := by
  cases r with
  | none =>
    obtain ⟨he, hb⟩ := h.no
    exact ⟨none, 0, 0, he, fun j hj => absurd hj (by simp), rfl, hb⟩
  | some t =>
    obtain ⟨⟨v, he, ho⟩, hb⟩ := h.yes
    obtain ⟨A, c, rfl, hr, hc, _, _⟩ := ho.read
    exact ⟨A, _, c, he, hr, rfl, hb⟩
set_option maxRecDepth 100000 in
set_option maxHeartbeats 8000000 in
theorem aeadSeals_walk (w : World) (k : List UInt8) (hk : k.length = 32) (A0 : Option Addr) (c0 : Nat) (l0 : List UInt8) (hR0 : RdB w A0 l0) (hlc0 : l0.length ≤ c0) (hcm0 : c0 ≤ 9223372036854775807) (hlt0 : ∀ a, A0 = some a → a.block < w.heap.size)
    (A1 : Option Addr) (c1 : Nat) (l1 : List UInt8) (hR1 : RdB w A1 l1) (hlc1 : l1.length ≤ c1) (hcm1 : c1 ≤ 9223372036854775807) (hlt1 : ∀ a, A1 = some a → a.block < w.heap.size) :
    Calls Try.prog 3 #[.agg (W8 k), .slice A0 l0.length c0, .slice A1 l1.length c1] w fun e w' => e = .returned (.bool true) ∧ Below w.heap.size w w' := by
  obtain ⟨i0, hi0, hz0, hz1, hz2⟩ := info_parts (show (Try.prog.info? 5).map (fun i => (i.zero, i.size, i.bytes)) = some (some (.int .u8 0), 1, 1) by kernel_rfl)
  have I0 := Lib.hid hi0
  have I1 := Lib.hid hz1
  have HK := Lib.hid hk
  obtain ⟨x, hx⟩ : ∃ x, x = k.getD 0 0 := ⟨_, rfl⟩
  have XE := Lib.hid hx
  obtain ⟨n, hn⟩ : ∃ n, n = List.replicate 11 0 ++ [x] := ⟨_, rfl⟩
  have NE := Lib.hid hn
  have HN := Lib.hid (show n.length = 12 by rw [hn]; simp)
  have ZK := Lib.hid (show (Try.prog.info? 23).map (·.size) = some (W8 k).size by rw [W8_size, hk]; kernel_rfl)
  have ZN := Lib.hid (show (Try.prog.info? 27).map (·.size) = some (W8 n).size by rw [W8_size, HN.out]; kernel_rfl)
  have ZZ := Lib.hid (show W8 (List.replicate 12 0) = #[.int .u8 0, .int .u8 0, .int .u8 0, .int .u8 0, .int .u8 0, .int .u8 0, .int .u8 0, .int .u8 0, .int .u8 0, .int .u8 0, .int .u8 0, .int .u8 0] from rfl)
  have Z16' := Lib.hid zero16
  obtain ⟨q0, hq0⟩ : ∃ q, q = l0.length := ⟨_, rfl⟩
  obtain ⟨q1, hq1⟩ : ∃ q, q = l1.length := ⟨_, rfl⟩
  rw [← hq0, ← hq1]
  have Q0 := Lib.hid hq0.symm
  have Q1 := Lib.hid hq1.symm
  have C0 := Lib.hid (show q0 ≤ c0 by rw [hq0]; exact hlc0)
  have C1 := Lib.hid (show q1 ≤ c1 by rw [hq1]; exact hlc1)
  have R0 := Lib.hid hR0
  have R1 := Lib.hid hR1
  have L1 := Lib.hid hlt1
  clear hi0 hz0 hz1 hz2 hk hn hx hR0 hlc0 hcm0 hlt0 hR1 hlc1 hcm1 hlt1 hq0 hq1
  go_enter Try.func3, Try.ntmps3
  go_upto_region 1 with fail
  generalize hw1 : World.alloc w _ = w1
  have BK := Lib.hid (show w1.heap[w.heap.size]? = some (.cells (W8 k) 23 (0, 0)) by rw [← hw1]; exact ha_new _ _ _ rfl)
  have BB := Lib.hid (show Below w.heap.size w w1 by rw [← hw1]; exact below_new _ _)
  have BS := Lib.hid (show w1.heap.size = w.heap.size + 1 by rw [← hw1, ha_size])
  clear hw1
  go_wp2_with fail
  refine (short_any _ A0 q0 c0 l0 Q0.out C0.out 200 (by omega)).mono ?_
  obtain ⟨b, hb⟩ : ∃ b, b = l0.take 200 := ⟨_, rfl⟩
  obtain ⟨p, hp⟩ : ∃ p, p = b.length := ⟨_, rfl⟩
  rw [← hb, ← hp]
  have BL := Lib.hid hp.symm
  have BQ := Lib.hid (show p ≤ 200 ∧ p ≤ c0 by have := C0.out; have := Q0.out; rw [hp, hb, List.length_take]; omega)
  have BR := Lib.hid (show RdB w A0 b by rw [hb]; exact R0.out.take _)
  rintro e wd ⟨rfl, hw⟩
  rw [hw]
  clear hw wd hb hp
  go_wp2_with fail
  refine (short_any _ A1 q1 c1 l1 Q1.out C1.out 300 (by omega)).mono ?_
  obtain ⟨t, ht⟩ : ∃ t, t = l1.take 300 := ⟨_, rfl⟩
  obtain ⟨q, hq⟩ : ∃ q, q = t.length := ⟨_, rfl⟩
  rw [← ht, ← hq]
  have TL := Lib.hid hq.symm
  have TQ := Lib.hid (show q ≤ 300 ∧ q ≤ c1 by have := C1.out; have := Q1.out; rw [hq, ht, List.length_take]; omega)
  have TR := Lib.hid (show RdB w A1 t by rw [ht]; exact R1.out.take _)
  rintro e wd ⟨rfl, hw⟩
  rw [hw]
  clear hw wd ht hq
  have a1 := row_cell BK.out 0 (W8_get k 0 (by rw [HK.out]; omega))
  rw [← XE.out] at a1
  go_upto_region 3 with (first
    | (refine wpList_val rfl (show (execOp _ _).run _ _ = .ok (.value (.agg (W8 n))) _ by rw [NE.out]; exact run_build_n11 x (.tmp 19) rfl rfl _) ?_)
    | (refine wpList_store_new rfl rfl 27 (.tmp 7) (.tmp 20) rfl (W8 n) rfl rfl ZN.out ?c1 (W8_one _) ?_))
  case c1 => rw [W8_size, HN.out]; rfl
  generalize hw2 : World.alloc w1 _ = w2
  rw [BS.out]
  have S := Lib.hid (show KnW w k n w2 by
    rw [← hw2]
    exact ⟨BB.out.alloc BB.out.size _, ha_old _ _ _ (by rw [BS.out]; omega) BK.out, ha_new _ _ _ BS.out.symm⟩)
  clear a1 hw2
  go_wp2_with (first
    | (refine wpList_val rfl (run_load_row 23 (.tmp 3) rfl w.heap.size rfl 23 (W8 k) (0, 0) _ S.out.bk Try.underlying23 rfl ZK.out) ?_)
    | (refine wpList_val rfl (run_load_row 27 (.tmp 7) rfl (w.heap.size + 1) rfl 27 (W8 n) (0, 0) _ S.out.bn Try.underlying27 rfl ZN.out) ?_))
  refine (seal_any k n HK.out HN.out w2 A0 p c0 b BL.out (BR.out.keep S.out.bel) A1 q c1 t TL.out TQ.out.2 (TR.out.keep S.out.bel) (fun a e => Nat.lt_of_lt_of_le (L1.out a e) S.out.bel.size) (by have := BQ.out; omega) (by have := TQ.out; omega)).mono ?_
  obtain ⟨s, hs⟩ : ∃ s, s = sealL k n b t := ⟨_, rfl⟩
  obtain ⟨T, hT⟩ : ∃ T, T = tagL k n b t := ⟨_, rfl⟩
  obtain ⟨r, hr⟩ : ∃ r, r = openL k n b t := ⟨_, rfl⟩
  obtain ⟨o, ho'⟩ : ∃ o, o = r.getD [] := ⟨_, rfl⟩
  obtain ⟨β, hβ⟩ : ∃ β, β = r.isSome := ⟨_, rfl⟩
  obtain ⟨m, hm⟩ : ∃ m, m = s.length := ⟨_, rfl⟩
  have OE := Lib.hid ho'
  have BE := Lib.hid hβ
  have SE := Lib.hid hs
  have TE := Lib.hid hT
  have RE := Lib.hid hr
  have ML := Lib.hid hm.symm
  have T16 := Lib.hid (show T.length = 16 by rw [hT, tagL_length])
  rw [← hs]
  rintro e w3 ⟨v, rfl, ho, hb⟩
  obtain ⟨As, cs, rfl, hrs, hls, _, hbs⟩ := ho.read
  rw [← hm]
  have RS := Lib.hid hrs
  have S := Lib.hid (S.out.keep hb)
  clear ho hb hrs hls hbs hs hm hT hr ho' hβ
  go_wp2_with (first
    | (refine wpList_val rfl (run_load_row 23 (.tmp 3) rfl w.heap.size rfl 23 (W8 k) (0, 0) _ S.out.bk Try.underlying23 rfl ZK.out) ?_)
    | (refine wpList_val rfl (run_load_row 27 (.tmp 7) rfl (w.heap.size + 1) rfl 27 (W8 n) (0, 0) _ S.out.bn Try.underlying27 rfl ZN.out) ?_))
  refine (tag_any k n HK.out HN.out w3 A0 p c0 b BL.out (BR.out.keep S.out.bel) A1 q c1 t TL.out (TR.out.keep S.out.bel) (by have := BQ.out; omega) (by have := TQ.out; omega)).mono ?_
  rw [← TE.out]
  rintro e w4 ⟨rfl, hb⟩
  have RS := Lib.hid (RS.out.keep hb)
  have S := Lib.hid (S.out.keep hb)
  clear hb
  go_upto_region 5 with (refine wpList_store_new rfl rfl 29 (.tmp 9) (.tmp 30) rfl (W8 T) rfl rfl (info_16 T16.out) ?c1 (W8_one _) ?_)
  case c1 => rw [W8_size, T16.out]; rfl
  generalize hM : Array.size (World.heap w4) = M
  generalize hw5 : World.alloc w4 _ = w5
  have hb := below_new w4 (.cells (W8 T) 29)
  have BT := Lib.hid (show w5.heap[M]? = some (.cells (W8 T) 29 (0, 0)) by rw [← hw5]; exact ha_new _ _ _ hM.symm)
  rw [hw5] at hb
  have RS := Lib.hid (RS.out.keep hb)
  have S := Lib.hid (S.out.keep hb)
  clear hM hw5 hb
  go_wp2_with (first
    | (refine wpList_val rfl (run_load_row 23 (.tmp 3) rfl w.heap.size rfl 23 (W8 k) (0, 0) _ S.out.bk Try.underlying23 rfl ZK.out) ?_)
    | (refine wpList_val rfl (run_load_row 27 (.tmp 7) rfl (w.heap.size + 1) rfl 27 (W8 n) (0, 0) _ S.out.bn Try.underlying27 rfl ZN.out) ?_))
  refine (open_any k n HK.out HN.out w5 A0 p c0 b BL.out (BR.out.keep S.out.bel) A1 q c1 t TL.out TQ.out.2 (TR.out.keep S.out.bel) (fun a e => Nat.lt_of_lt_of_le (L1.out a e) S.out.bel.size) (by have := BQ.out; omega) (by have := TQ.out; omega)).mono ?_
  rw [← RE.out]
  rintro e w6 hp
  obtain ⟨Ao, mo, co, rfl, hro, hmo, hb⟩ := hp.get
  rw [← OE.out] at hro hmo
  rw [← BE.out]
  have RO := Lib.hid hro
  have MO := Lib.hid hmo
  have RS := Lib.hid (RS.out.keep hb)
  have BT := Lib.hid (below_block hb (row_lt BT.out) BT.out)
  have S := Lib.hid (S.out.keep hb)
  clear hp hb hro hmo
  go_upto_region 6 with fail
  have B := Lib.hid (show Below w6.heap.size w6 w6.drew from (Below.refl _ _).drew)
  refine wp_region_road (fun W => Below w6.heap.size w6 W) [(true, 0), (true, 1), (true, 2), (true, 3), (true, 4), (true, 5), (true, 6), (true, 7), (false, 8), (true, 9), (true, 10), (true, 11), (true, 12), (true, 13)] (by kernel_rfl) (by kernel_rfl) (fun _ _ d _ _ h => by cases d <;> exact h) ?_
  simp only [List.filterMap_cons, List.filterMap_nil, List.getElem?_toArray, List.getElem?_cons_zero, List.getElem?_cons_succ, Option.map_some]
  refine planG_q (by rfl) (B.out) (fun W hW => run_arr_all 23 (.tmp 3) rfl 32 5 Try.underlying23 I0.out w.heap.size rfl W) ?_
  simp only [Act.put, List.setIfInBounds_toArray, List.set_cons_zero, List.set_cons_succ]
  refine planG_q (by rfl) (B.out) (fun W hW => run_str 24 9 (.tmp 40) rfl Try.underlying24 Try.underlying5 Try.underlying9 (RdB.row (S.out.keep hW).bk) 32 32 HK.out rfl) ?_
  simp only [Act.put, List.setIfInBounds_toArray, List.set_cons_zero, List.set_cons_succ]
  refine planG_q (by rfl) (B.out) (fun W hW => run_arr_all 27 (.tmp 7) rfl 12 5 Try.underlying27 I0.out (w.heap.size + 1) rfl W) ?_
  simp only [Act.put, List.setIfInBounds_toArray, List.set_cons_zero, List.set_cons_succ]
  refine planG_q (by rfl) (B.out) (fun W hW => run_str 24 9 (.tmp 42) rfl Try.underlying24 Try.underlying5 Try.underlying9 (RdB.row (S.out.keep hW).bn) 12 12 HN.out rfl) ?_
  simp only [Act.put, List.setIfInBounds_toArray, List.set_cons_zero, List.set_cons_succ]
  refine planG_q (v := ?_) (by rfl) (B.out) ?_ ?_
  rotate_left
  · intro W hW
    go_simp
    with_reducible rfl
  simp only [Act.put, List.setIfInBounds_toArray, List.set_cons_zero, List.set_cons_succ]
  refine planG_q (by rfl) (B.out) (fun W hW => run_str 24 9 (.tmp 44) rfl Try.underlying24 Try.underlying5 Try.underlying9 (BR.out.keep (S.out.keep hW).bel) p c0 BL.out rfl) ?_
  simp only [Act.put, List.setIfInBounds_toArray, List.set_cons_zero, List.set_cons_succ]
  refine planG_q (v := ?_) (by rfl) (B.out) ?_ ?_
  rotate_left
  · intro W hW
    go_simp
    with_reducible rfl
  simp only [Act.put, List.setIfInBounds_toArray, List.set_cons_zero, List.set_cons_succ]
  refine planG_q (by rfl) (B.out) (fun W hW => run_str 24 9 (.tmp 46) rfl Try.underlying24 Try.underlying5 Try.underlying9 (TR.out.keep (S.out.keep hW).bel) q c1 TL.out rfl) ?_
  simp only [Act.put, List.setIfInBounds_toArray, List.set_cons_zero, List.set_cons_succ]
  refine planG_t (by rfl) (fun K hK => ?_)
  go_simp
  refine (ropen_any k n HK.out HN.out b t q TL.out (by have := BL.out; have := BQ.out; omega) (by have := TQ.out; omega) _).mono ?_
  rw [← RE.out]
  intro e w7 hp
  obtain ⟨rfl, hb⟩ : e = .returned (.tuple #[.string (strB (r.getD [])), .bool r.isSome]) ∧ Below w6.drew.heap.size w6.drew w7 := hp
  rw [← OE.out, ← BE.out]
  have B := Lib.hid (B.out.trans (hb.mono B.out.size))
  clear hb
  refine hK.out _ _ (B.out) ?_
  clear hK K
  refine planG_q (v := ?_) (by rfl) (B.out) ?_ ?_
  rotate_left
  · intro W hW
    go_simp
    with_reducible rfl
  simp only [Act.put, List.setIfInBounds_toArray, List.set_cons_zero, List.set_cons_succ]
  refine planG_q (v := ?_) (by rfl) (B.out) ?_ ?_
  rotate_left
  · intro W hW
    go_simp
    with_reducible rfl
  simp only [Act.put, List.setIfInBounds_toArray, List.set_cons_zero, List.set_cons_succ]
  refine planG_q (v := ?_) (by rfl) (B.out) ?_ ?_
  rotate_left
  · intro W hW
    go_simp
    with_reducible rfl
  simp only [Act.put, List.setIfInBounds_toArray, List.set_cons_zero, List.set_cons_succ]
  refine planG_q (v := ?_) (by rfl) (B.out) ?_ ?_
  rotate_left
  · intro W hW
    go_simp
    with_reducible rfl
  simp only [Act.put, List.setIfInBounds_toArray, List.set_cons_zero, List.set_cons_succ]
  refine planG_q (v := ?_) (by rfl) (B.out) ?_ ?_
  rotate_left
  · intro W hW
    go_simp
    with_reducible rfl
  simp only [Act.put, List.setIfInBounds_toArray, List.set_cons_zero, List.set_cons_succ]
  refine planG_nil ?_
  have RS := Lib.hid (RS.out.keep B.out)
  have RO := Lib.hid (RO.out.keep B.out)
  have BT := Lib.hid (below_block B.out (row_lt BT.out) BT.out)
  have S := Lib.hid (S.out.keep B.out)
  clear B
  go_upto_region 7 with fail
  have B := Lib.hid (show Below w7.heap.size w7 w7.drew from (Below.refl _ _).drew)
  have T7 := Lib.hid (row_lt BT.out)
  refine wp_region_road (fun W => Below w7.heap.size w7 W) [(true, 0), (true, 1), (true, 2), (true, 3), (true, 4), (true, 5), (true, 6), (true, 7), (true, 8), (true, 9), (false, 10), (true, 11), (true, 12), (true, 13), (true, 14), (true, 15), (true, 16), (true, 17), (true, 18), (true, 19), (true, 20), (true, 21), (true, 22), (false, 23), (true, 24), (true, 25), (true, 26), (true, 27), (true, 28), (true, 29), (true, 30), (true, 31), (true, 32), (true, 33), (true, 34), (true, 35), (true, 36), (true, 37), (false, 38), (true, 39), (true, 40)] (by kernel_rfl) (by kernel_rfl) (fun _ _ d _ _ h => by cases d <;> exact h) ?_
  simp only [List.filterMap_cons, List.filterMap_nil, List.getElem?_toArray, List.getElem?_cons_zero, List.getElem?_cons_succ, Option.map_some]
  refine planG_q (v := ?_) (by rfl) (B.out) ?_ ?_
  rotate_left
  · intro W hW
    go_simp
    with_reducible rfl
  simp only [Act.put, List.setIfInBounds_toArray, List.set_cons_zero, List.set_cons_succ]
  refine planG_q (by rfl) (B.out) (fun W hW => run_str 24 9 (.tmp 51) rfl Try.underlying24 Try.underlying5 Try.underlying9 (RS.out.keep hW) m cs ML.out rfl) ?_
  simp only [Act.put, List.setIfInBounds_toArray, List.set_cons_zero, List.set_cons_succ]
  refine planG_q (by rfl) (B.out) (fun W hW => run_arr_all 23 (.tmp 3) rfl 32 5 Try.underlying23 I0.out w.heap.size rfl W) ?_
  simp only [Act.put, List.setIfInBounds_toArray, List.set_cons_zero, List.set_cons_succ]
  refine planG_q (by rfl) (B.out) (fun W hW => run_str 24 9 (.tmp 53) rfl Try.underlying24 Try.underlying5 Try.underlying9 (RdB.row (S.out.keep hW).bk) 32 32 HK.out rfl) ?_
  simp only [Act.put, List.setIfInBounds_toArray, List.set_cons_zero, List.set_cons_succ]
  refine planG_q (by rfl) (B.out) (fun W hW => run_arr_all 27 (.tmp 7) rfl 12 5 Try.underlying27 I0.out (w.heap.size + 1) rfl W) ?_
  simp only [Act.put, List.setIfInBounds_toArray, List.set_cons_zero, List.set_cons_succ]
  refine planG_q (by rfl) (B.out) (fun W hW => run_str 24 9 (.tmp 55) rfl Try.underlying24 Try.underlying5 Try.underlying9 (RdB.row (S.out.keep hW).bn) 12 12 HN.out rfl) ?_
  simp only [Act.put, List.setIfInBounds_toArray, List.set_cons_zero, List.set_cons_succ]
  refine planG_q (v := ?_) (by rfl) (B.out) ?_ ?_
  rotate_left
  · intro W hW
    go_simp
    with_reducible rfl
  simp only [Act.put, List.setIfInBounds_toArray, List.set_cons_zero, List.set_cons_succ]
  refine planG_q (by rfl) (B.out) (fun W hW => run_str 24 9 (.tmp 57) rfl Try.underlying24 Try.underlying5 Try.underlying9 (BR.out.keep (S.out.keep hW).bel) p c0 BL.out rfl) ?_
  simp only [Act.put, List.setIfInBounds_toArray, List.set_cons_zero, List.set_cons_succ]
  refine planG_q (v := ?_) (by rfl) (B.out) ?_ ?_
  rotate_left
  · intro W hW
    go_simp
    with_reducible rfl
  simp only [Act.put, List.setIfInBounds_toArray, List.set_cons_zero, List.set_cons_succ]
  refine planG_q (by rfl) (B.out) (fun W hW => run_str 24 9 (.tmp 59) rfl Try.underlying24 Try.underlying5 Try.underlying9 (TR.out.keep (S.out.keep hW).bel) q c1 TL.out rfl) ?_
  simp only [Act.put, List.setIfInBounds_toArray, List.set_cons_zero, List.set_cons_succ]
  refine planG_t (by rfl) (fun K hK => ?_)
  go_simp
  refine (rseal_any k n HK.out HN.out b t (by have := BL.out; have := BQ.out; omega) (by have := TL.out; have := TQ.out; omega) _).mono ?_
  rw [← SE.out]
  rintro e w8 ⟨rfl, hb⟩
  have B := Lib.hid (B.out.trans (hb.mono B.out.size))
  clear hb
  refine hK.out _ _ (B.out) ?_
  clear hK K
  refine planG_q (by rfl) (B.out) (fun W hW => run_eqstr_true 9 9 (.tmp 52) (.tmp 61) rfl s s rfl rfl rfl W) ?_
  simp only [Act.put, List.setIfInBounds_toArray, List.set_cons_zero, List.set_cons_succ]
  refine planG_q (v := ?_) (by rfl) (B.out) ?_ ?_
  rotate_left
  · intro W hW
    go_simp
    with_reducible rfl
  simp only [Act.put, List.setIfInBounds_toArray, List.set_cons_zero, List.set_cons_succ]
  refine planG_q (by rfl) (B.out) (fun W hW => run_arr_all 29 (.tmp 9) rfl 16 5 Try.underlying29 I0.out M rfl W) ?_
  simp only [Act.put, List.setIfInBounds_toArray, List.set_cons_zero, List.set_cons_succ]
  refine planG_q (by rfl) (B.out) (fun W hW => run_str 24 9 (.tmp 64) rfl Try.underlying24 Try.underlying5 Try.underlying9 (RdB.row (below_block hW T7.out BT.out)) 16 16 T16.out rfl) ?_
  simp only [Act.put, List.setIfInBounds_toArray, List.set_cons_zero, List.set_cons_succ]
  refine planG_q (by rfl) (B.out) (fun W hW => run_arr_all 23 (.tmp 3) rfl 32 5 Try.underlying23 I0.out w.heap.size rfl W) ?_
  simp only [Act.put, List.setIfInBounds_toArray, List.set_cons_zero, List.set_cons_succ]
  refine planG_q (by rfl) (B.out) (fun W hW => run_str 24 9 (.tmp 66) rfl Try.underlying24 Try.underlying5 Try.underlying9 (RdB.row (S.out.keep hW).bk) 32 32 HK.out rfl) ?_
  simp only [Act.put, List.setIfInBounds_toArray, List.set_cons_zero, List.set_cons_succ]
  refine planG_q (by rfl) (B.out) (fun W hW => run_arr_all 27 (.tmp 7) rfl 12 5 Try.underlying27 I0.out (w.heap.size + 1) rfl W) ?_
  simp only [Act.put, List.setIfInBounds_toArray, List.set_cons_zero, List.set_cons_succ]
  refine planG_q (by rfl) (B.out) (fun W hW => run_str 24 9 (.tmp 68) rfl Try.underlying24 Try.underlying5 Try.underlying9 (RdB.row (S.out.keep hW).bn) 12 12 HN.out rfl) ?_
  simp only [Act.put, List.setIfInBounds_toArray, List.set_cons_zero, List.set_cons_succ]
  refine planG_q (v := ?_) (by rfl) (B.out) ?_ ?_
  rotate_left
  · intro W hW
    go_simp
    with_reducible rfl
  simp only [Act.put, List.setIfInBounds_toArray, List.set_cons_zero, List.set_cons_succ]
  refine planG_q (by rfl) (B.out) (fun W hW => run_str 24 9 (.tmp 70) rfl Try.underlying24 Try.underlying5 Try.underlying9 (BR.out.keep (S.out.keep hW).bel) p c0 BL.out rfl) ?_
  simp only [Act.put, List.setIfInBounds_toArray, List.set_cons_zero, List.set_cons_succ]
  refine planG_q (v := ?_) (by rfl) (B.out) ?_ ?_
  rotate_left
  · intro W hW
    go_simp
    with_reducible rfl
  simp only [Act.put, List.setIfInBounds_toArray, List.set_cons_zero, List.set_cons_succ]
  refine planG_q (by rfl) (B.out) (fun W hW => run_str 24 9 (.tmp 72) rfl Try.underlying24 Try.underlying5 Try.underlying9 (TR.out.keep (S.out.keep hW).bel) q c1 TL.out rfl) ?_
  simp only [Act.put, List.setIfInBounds_toArray, List.set_cons_zero, List.set_cons_succ]
  refine planG_t (by rfl) (fun K hK => ?_)
  go_simp
  refine (rtag_any k n HK.out HN.out b t (by have := BL.out; have := BQ.out; omega) (by have := TL.out; have := TQ.out; omega) _).mono ?_
  rw [← TE.out]
  rintro e w9 ⟨rfl, hb⟩
  have B := Lib.hid (B.out.trans (hb.mono B.out.size))
  clear hb
  refine hK.out _ _ (B.out) ?_
  clear hK K
  refine planG_q (by rfl) (B.out) (fun W hW => run_eqstr_true 9 9 (.tmp 65) (.tmp 74) rfl T T rfl rfl rfl W) ?_
  simp only [Act.put, List.setIfInBounds_toArray, List.set_cons_zero, List.set_cons_succ]
  refine planG_q (v := ?_) (by rfl) (B.out) ?_ ?_
  rotate_left
  · intro W hW
    go_simp
    with_reducible rfl
  simp only [Act.put, List.setIfInBounds_toArray, List.set_cons_zero, List.set_cons_succ]
  refine planG_q (v := ?_) (by rfl) (B.out) ?_ ?_
  rotate_left
  · intro W hW
    go_simp
    with_reducible rfl
  simp only [Act.put, List.setIfInBounds_toArray, List.set_cons_zero, List.set_cons_succ]
  refine planG_q (v := ?_) (by rfl) (B.out) ?_ ?_
  rotate_left
  · intro W hW
    go_simp
    with_reducible rfl
  simp only [Act.put, List.setIfInBounds_toArray, List.set_cons_zero, List.set_cons_succ]
  refine planG_q (by rfl) (B.out) (fun W hW => run_str 24 9 (.tmp 78) rfl Try.underlying24 Try.underlying5 Try.underlying9 (RO.out.keep hW) mo co MO.out rfl) ?_
  simp only [Act.put, List.setIfInBounds_toArray, List.set_cons_zero, List.set_cons_succ]
  refine planG_q (v := ?_) (by rfl) (B.out) ?_ ?_
  rotate_left
  · intro W hW
    go_simp
    with_reducible rfl
  simp only [Act.put, List.setIfInBounds_toArray, List.set_cons_zero, List.set_cons_succ]
  refine planG_q (by rfl) (B.out) (fun W hW => run_eqstr_true 9 9 (.tmp 79) (.tmp 80) rfl o o rfl rfl rfl W) ?_
  simp only [Act.put, List.setIfInBounds_toArray, List.set_cons_zero, List.set_cons_succ]
  refine planG_q (v := ?_) (by rfl) (B.out) ?_ ?_
  rotate_left
  · intro W hW
    go_simp
    with_reducible rfl
  simp only [Act.put, List.setIfInBounds_toArray, List.set_cons_zero, List.set_cons_succ]
  refine planG_q (v := ?_) (by rfl) (B.out) ?_ ?_
  rotate_left
  · intro W hW
    go_simp
    with_reducible rfl
  simp only [Act.put, List.setIfInBounds_toArray, List.set_cons_zero, List.set_cons_succ]
  refine planG_q (v := ?_) (by rfl) (B.out) ?_ ?_
  rotate_left
  · intro W hW
    go_simp
    with_reducible rfl
  simp only [Act.put, List.setIfInBounds_toArray, List.set_cons_zero, List.set_cons_succ]
  refine planG_q (v := ?_) (by rfl) (B.out) ?_ ?_
  rotate_left
  · intro W hW
    go_simp
    with_reducible rfl
  simp only [Act.put, List.setIfInBounds_toArray, List.set_cons_zero, List.set_cons_succ]
  refine planG_q (v := ?_) (by rfl) (B.out) ?_ ?_
  rotate_left
  · intro W hW
    go_simp
    with_reducible rfl
  simp only [Act.put, List.setIfInBounds_toArray, List.set_cons_zero, List.set_cons_succ]
  refine planG_q (v := ?_) (by rfl) (B.out) ?_ ?_
  rotate_left
  · intro W hW
    go_simp
    with_reducible rfl
  simp only [Act.put, List.setIfInBounds_toArray, List.set_cons_zero, List.set_cons_succ]
  refine planG_q (v := ?_) (by rfl) (B.out) ?_ ?_
  rotate_left
  · intro W hW
    go_simp
    with_reducible rfl
  simp only [Act.put, List.setIfInBounds_toArray, List.set_cons_zero, List.set_cons_succ]
  refine planG_t (by rfl) (fun K hK => ?_)
  go_simp
  refine (aeadOne_true _).mono ?_
  rintro e w10 ⟨rfl, hb⟩
  have B := Lib.hid (B.out.trans (hb.mono B.out.size))
  clear hb
  refine hK.out _ _ (B.out) ?_
  clear hK K
  refine planG_q (v := ?_) (by rfl) (B.out) ?_ ?_
  rotate_left
  · intro W hW
    go_simp
    with_reducible rfl
  simp only [Act.put, List.setIfInBounds_toArray, List.set_cons_zero, List.set_cons_succ]
  refine planG_q (v := ?_) (by rfl) (B.out) ?_ ?_
  rotate_left
  · intro W hW
    go_simp
    with_reducible rfl
  simp only [Act.put, List.setIfInBounds_toArray, List.set_cons_zero, List.set_cons_succ]
  refine planG_nil ?_
  have BF := Lib.hid (S.out.bel.trans (B.out.mono S.out.bel.size))
  go_wp2_with fail
  go_ret
  exact ⟨rfl, BF.out⟩
end Go.Proofs.Ytdheopihcohciaa
