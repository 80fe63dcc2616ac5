/- The law WireReads, walked. -/
import Derived.Test.YtcmpiockcndejaaRefRdList
import Derived.Test.YtcmpiockcndejaaOpenActs
import Derived.Test.YtcmpiockcndejaaWireOne
import Derived.Deep.CutBlock
namespace Go.Proofs.Ytcmpiockcndejaa
set_option linter.unusedVariables false
set_option linter.unusedSimpArgs false
open Go.RowKit
attribute [local go_sem ↓] Go.wp_at_zero Go.wp_at_succ

theorem Rdr.fit {g D : Nat} {s : RSt} {W : World} (h : Rdr g D s W) : ∃ D', D' < W.heap.size ∧ Rdr g D' s W := by
  obtain ⟨A, c, h1, h2, h3, h4⟩ := h.has
  cases A with
  | none => exact ⟨g, h.lt, ⟨⟨none, c, h1, h2, h3, fun a e => by cases e⟩, h.ok, h.few⟩⟩
  | some a => exact ⟨a.block, (h4 a rfl).2.1, ⟨⟨some a, c, h1, h2, h3, fun b e => by cases e; exact ⟨(h4 _ rfl).1, (h4 _ rfl).2.1, rfl⟩⟩, h.ok, h.few⟩⟩
/-- What stands between the steps: the reader, the reference's, the step at hand. -/
structure RdW (w : World) (g D Q E : Nat) (K N : Int) (s r : RSt) (W : World) : Prop where
  rd : Rdr g D s W
  rf : RefB W Q r
  eb : W.heap[E]? = some (.cells #[.int .i64 K, .int .i64 N] 48 (0, 0))
  bel : Below w.heap.size w W
  hg : w.heap.size ≤ g
  gQ : g < Q
  DQ : D < Q
  QE : Q < E
theorem RdW.keep {w : World} {g D Q E : Nat} {K N : Int} {s r : RSt} {W W' : World} (h : RdW w g D Q E K N s r W) (hb : Below W.heap.size W W') : RdW w g D Q E K N s r W' :=
  ⟨h.rd.keep hb, h.rf.keep hb, below_block hb (row_lt h.eb) h.eb, h.bel.trans (hb.mono h.bel.size), h.hg, h.gQ, h.DQ, h.QE⟩
theorem RdW.step {w : World} {g D Q E : Nat} {K N : Int} {s s' r : RSt} {W W' : World} (h : RdW w g D Q E K N s r W) (hr : Rdr g D s' W') (hg : W.grownBy W' (some g)) : RdW w g D Q E K N s' r W' :=
  ⟨hr, h.rf.grown hg (by have := h.gQ; simp; omega), grown_block hg (by have := h.gQ; have := h.QE; simp; omega) h.eb, h.bel.trans (grown_below hg h.bel.size (by rintro k ⟨⟩; exact h.hg)), h.hg, h.gQ, h.DQ, h.QE⟩
theorem RdW.put {w : World} {g D Q E : Nat} {K N : Int} {s r r' : RSt} {W W' : World} (h : RdW w g D Q E K N s r W) (hr : RefB W' Q r') (hg : W.grownBy W' (some Q)) : RdW w g D Q E K N s r' W' :=
  ⟨h.rd.far hg (by rintro k ⟨⟩; have := h.gQ; have := h.DQ; omega), hr, grown_block hg (by have := h.QE; simp; omega) h.eb, h.bel.trans (grown_below hg h.bel.size (by rintro k ⟨⟩; have := h.hg; have := h.gQ; omega)), h.hg, h.gQ, h.DQ, h.QE⟩
theorem RdW.n {w : World} {g D Q E : Nat} {K N : Int} {s r : RSt} {W : World} (h : RdW w g D Q E K N s r W) : W.cell? ⟨E, 1, none⟩ = some (.int .i64 N) := row_cell h.eb 1 rfl
theorem oftenS_len (k : Nat) : ∀ (s : RSt) (acc : List (List UInt8)), (oftenS k s acc).2.length ≤ acc.length + k := by
  induction k with
  | zero => intro s acc; exact Nat.le_refl _
  | succ k ih =>
    intro s acc
    rw [oftenS]
    split
    · have := ih (sizedS s).1 (acc ++ [(sizedS s).2])
      rw [List.length_append, List.length_singleton] at this
      omega
    · show acc.length ≤ _
      omega
theorem listS_len (s : RSt) (n : Int) : (listS s n).2.length ≤ 65535 := by
  have h1 : (headS s n).2 ≤ 65535 := by
    have : (numS s 2).2 < 256 ^ 2 := numS_small s 2 (by omega)
    unfold headS
    split <;> (try simp only) <;> omega
  have h2 := oftenS_len (headS s n).2 (headS s n).1 []
  unfold listS
  split
  · exact Nat.le_trans h2 (by simp; omega)
  · simp
theorem run_load_ref {o : Oper} {a : Act} (x : Operand) (ho : o.op = .load 46 x) (g : Nat) (hx : a.eval x = .pointer (some ⟨g, 0, none⟩)) (s : RSt) {W : World} (hg : RefB W g s) : (execOp a.eval o).run Try.prog W = .ok (.value (refV s)) W := by
  unfold execOp
  simp only [ho, hx, Instr.loadAt, Instr.sureAddr, Sem.run_bind, Sem.run_pure, Result.andThen_ok, run_loadVar_row W g _ 46 #[.string (strB s.l), .int .i64 (s.e : Int)] (0, 0) _ hg Try.underlying46 rfl info_ref]
  rfl
theorem headS_few (s : RSt) (n : Int) : (headS s n).1.l.length ≤ s.l.length := by
  unfold headS
  split
  · simp
  · exact numS_few _ _
theorem oftenS_few (k : Nat) : ∀ (s : RSt) (acc : List (List UInt8)), (oftenS k s acc).1.l.length ≤ s.l.length := by
  induction k with
  | zero => intro s acc; exact Nat.le_refl _
  | succ k ih =>
    intro s acc
    rw [oftenS]
    split
    · exact Nat.le_trans (ih _ _) (sizedS_few s)
    · exact Nat.le_refl _
theorem listS_few (s : RSt) (n : Int) : (listS s n).1.l.length ≤ s.l.length := by
  unfold listS
  split <;> exact Nat.le_trans (oftenS_few _ _ _) (headS_few _ _)
/-- A block that was made and written since. -/
theorem made_put {W W' : World} {g : Nat} {o : Obj} (hG : g = W.heap.size) (hg : (W.alloc o).grownBy W' (some g)) : Below W.heap.size W W' := by
  subst hG
  exact (below_new _ _).trans (grown_below hg (by simp) (by rintro k ⟨⟩; exact Nat.le_refl _))
set_option maxRecDepth 100000 in
set_option maxHeartbeats 8000000 in
theorem wireReads_walk (w : World) (A0 : Option Addr) (c0 : Nat) (l0 : List UInt8) (R0 : RdB w A0 l0) (n0 : l0.length ≤ c0) (m0 : c0 ≤ 9223372036854775807) (b0 : ∀ a, A0 = some a → a.block < w.heap.size) (z0 : l0.length ≤ 140737488351232)
    (A1 : Option Addr) (c1 : Nat) (zs : List (Int × Int)) (R1 : RdP w A1 zs) (n1 : zs.length ≤ c1) (bd : ∀ z ∈ zs, (-9223372036854775808 ≤ z.1 ∧ z.1 ≤ 9223372036854775807) ∧ (-9223372036854775808 ≤ z.2 ∧ z.2 ≤ 9223372036854775807)) (z1 : zs.length ≤ 140737488351232) :
    Calls Try.prog 5 #[.slice A0 l0.length c0, .slice A1 zs.length c1] w fun e w' => e = .returned (.bool true) ∧ Below w.heap.size w w' := by
  obtain ⟨m, hm⟩ : ∃ m, m = l0.length := ⟨_, rfl⟩
  obtain ⟨n, hn⟩ : ∃ n, n = zs.length := ⟨_, rfl⟩
  rw [← hm] at n0 z0 ⊢
  rw [← hn] at n1 z1 ⊢
  have ME := Lib.hid hm.symm
  have NE := Lib.hid hn.symm
  have H0 := Lib.hid R0
  have HP := Lib.hid R1
  have BD := Lib.hid bd
  have mb : (m : Int) ≤ 140737488351232 := by omega
  have nb : (n : Int) ≤ 140737488351232 := by omega
  clear hm hn R0 n0 m0 b0 z0 R1 n1 bd z1
  go_enter Try.func5, Try.ntmps5
  by_cases h1 : 9000 < m
  · have hD : decide ((9000 : Int) < (m : Int)) = true := by simp; omega
    go_wp2_with fail
    go_ret
    exact ⟨rfl, Below.refl _ _⟩
  have hD : decide ((9000 : Int) < (m : Int)) = false := by simp; omega
  have M9 := Lib.hid (show m ≤ 9000 by omega)
  go_wp2_with fail
  refine (rnew_any w A0 m c0 l0 ME.out H0.out (by have := M9.out; omega)).mono ?_
  rintro e w1 ⟨g, D0, rfl, hg, _, hr, hb⟩
  obtain ⟨D, hD', hr⟩ := hr.fit
  have R := Lib.hid hr
  have DL := Lib.hid (And.intro hr.lt hD')
  have GB := Lib.hid hg
  have S := Lib.hid hb
  clear hg hr hb hD' hD h1
  go_upto_region 5 with (refine wpList_val rfl (run_str 23 9 (.tmp 24) rfl Try.underlying23 Try.underlying5 Try.underlying9 (H0.out.keep S.out) m c0 ME.out rfl) ?_)
  obtain ⟨Q, hQ⟩ : ∃ Q, Q = w1.heap.size := ⟨_, rfl⟩
  generalize hw : World.alloc w1 _ = w2
  have hb2 : Below w1.heap.size w1 w2 := by rw [← hw]; exact below_new _ _
  have RF := Lib.hid (show RefB w2 Q ⟨l0, 0⟩ by rw [← hw]; exact ha_new _ _ _ hQ)
  have R := Lib.hid (R.out.keep hb2)
  have S := Lib.hid (S.out.trans (hb2.mono S.out.size))
  have GQ := Lib.hid (show g < Q ∧ D < Q by rw [hQ]; exact DL.out)
  rw [← hQ]
  clear hw hb2 hQ
  have W2 := Lib.hid (show Q < w2.heap.size from row_lt RF.out)
  go_wp2_with fail
  go_loopw [7] (fun i wr => ∃ (j : Nat) (cur : RSt), j ≤ n ∧ i = .int .i64 (j : Int) ∧ cur.l.length ≤ 9000 ∧ Rdr g D cur wr ∧ RefB wr Q cur ∧ Below w.heap.size w wr) (fun i _ => n - (intOf i).toNat)
  case atStart => exact ⟨0, ⟨l0, 0⟩, by omega, rfl, by rw [ME.out]; exact M9.out, R.out, RF.out, S.out⟩
  case round =>
    obtain ⟨j, cur, hj, rfl, hcl, hrd, hrf, hbel⟩ := hrel
    have J := Lib.hid hj
    have CL := Lib.hid (show cur.l.length ≤ 100000 by omega)
    have C9 := Lib.hid hcl
    have RD := Lib.hid hrd
    have RF := Lib.hid hrf
    have S := Lib.hid hbel
    clear hcl hrd hrf hbel
    by_cases hlt : j < n ∧ j < 40
    · have hD : decide ((j : Int) < (n : Int)) = true := by simp; omega
      have hE : decide ((j : Int) < (40 : Int)) = true := by simp; omega
      have jb : (j : Int) < (n : Int) := by omega
      have jb2 : (j : Int) < 40 := by omega
      have J4 := Lib.hid hlt
      obtain ⟨z, hz⟩ : ∃ z, zs[j]? = some z := ⟨_, List.getElem?_eq_getElem (by rw [NE.out]; exact hlt.1)⟩
      obtain ⟨b, o, rfl, k0, k1⟩ := (HP.out.keep S.out) j z hz
      have BZ := Lib.hid (BD.out z (List.mem_of_getElem? hz))
      obtain ⟨K, N⟩ := z
      simp only at k0 k1
      rw [← Nat.add_assoc] at k1
      have BN := Lib.hid (show -9223372036854775808 ≤ N ∧ N ≤ 9223372036854775807 from BZ.out.2)
      clear hz hlt
      go_upto_block 2 with fail
      obtain ⟨E, hE2⟩ : ∃ E, E = wr.heap.size := ⟨_, rfl⟩
      generalize hw : World.alloc wr _ = w3
      have hb3 : Below wr.heap.size wr w3 := by rw [← hw]; exact below_new _ _
      have H := Lib.hid (show RdW w g D Q E K N cur cur w3 from
        ⟨RD.out.keep hb3, RF.out.keep hb3, by rw [← hw]; exact ha_new _ _ _ hE2, S.out.trans (hb3.mono S.out.size), GB.out, GQ.out.1, GQ.out.2, by rw [hE2]; exact row_lt RF.out⟩)
      rw [← hE2]
      clear hw hb3 hE2 k0 k1 RD RF S BZ hD hE
      go_cut [7] (fun u wx => u = .int .i64 (j : Int) ∧ ∃ cur' : RSt, cur'.l.length ≤ 9000 ∧ RdW w g D Q E K N cur' cur' wx)
      case first =>
        by_cases hk0 : K = 0
        · have hK0 : (K == 0) = true := by simp [hk0]
          clear hk0
          have c8 := H.out.n
          obtain ⟨T, hT⟩ : ∃ T, T = numS cur N := ⟨_, rfl⟩
          have TE := Lib.hid hT
          have TL := Lib.hid (show T.1.l.length ≤ 9000 by rw [hT]; exact Nat.le_trans (numS_few cur N) C9.out)
          clear hT
          go_upto_region 12 with (refine wpList_load_ref rfl (.tmp 6) rfl Q rfl cur H.out.rf ?_)
          refine (rnum_any _ cur CL.out N BN.out).mono ?_
          rw [← TE.out]
          rintro e w4 ⟨rfl, hb⟩
          have H := Lib.hid (H.out.keep hb)
          have GL := Lib.hid (show g < w4.heap.size from H.out.rd.lt)
          clear hb c8
          go_upto_region 12 with (refine wpList_store_ref rfl rfl (.tmp 9) (.tmp 50) rfl w4.heap.size T.1 rfl rfl ⟨[], 0⟩ (ha_new _ _ _ rfl) ?_; intro w5 hr hg hsz)
          obtain ⟨M, hM⟩ : ∃ M, M = w4.heap.size := ⟨_, rfl⟩
          rw [← hM] at hr hg ⊢
          have H := Lib.hid (H.out.keep (made_put hM hg))
          have RM := Lib.hid hr
          have GM := Lib.hid (show g < M by rw [hM]; exact GL.out)
          have c8 := H.out.n
          clear hr hg hsz hM
          go_wp2_with fail
          refine (num_any g D cur N BN.out w5 H.out.rd).mono ?_
          rw [← TE.out]
          rintro e w6 ⟨rfl, hr, hg⟩
          have RM := Lib.hid (RM.out.grown hg (by have := GM.out; simp; omega))
          have H := Lib.hid (H.out.step hr hg)
          clear hr hg c8
          go_wp2_with (first
            | (refine wpList_load_ref rfl (.tmp 9) rfl M rfl T.1 RM.out ?_)
            | (refine wpList_store_ref rfl rfl (.tmp 6) (.tmp 58) rfl Q T.1 rfl rfl _ H.out.rf ?_; intro w7 hr hg hsz))
          go_meet
          exact ⟨rfl, T.1, TL.out, H.out.put hr hg⟩
        by_cases hk1 : K = 1
        · have hK0 : (K == 0) = false := by simp; omega
          have hK1 : (K == 1) = true := by simp [hk1]
          clear hk0 hk1
          have c8 := H.out.n
          obtain ⟨T, hT⟩ : ∃ T, T = takeS cur N := ⟨_, rfl⟩
          have TE := Lib.hid hT
          have TL := Lib.hid (show T.1.l.length ≤ 9000 by rw [hT]; exact Nat.le_trans (takeS_few cur N) C9.out)
          clear hT
          go_upto_region 17 with (refine wpList_load_ref rfl (.tmp 6) rfl Q rfl cur H.out.rf ?_)
          refine (rraw_any _ cur CL.out N).mono ?_
          rw [← TE.out]
          rintro e w4 ⟨rfl, hb⟩
          have H := Lib.hid (H.out.keep hb)
          have GL := Lib.hid (show g < w4.heap.size from H.out.rd.lt)
          clear hb c8
          go_upto_region 17 with (refine wpList_store_ref rfl rfl (.tmp 11) (.tmp 66) rfl w4.heap.size T.1 rfl rfl ⟨[], 0⟩ (ha_new _ _ _ rfl) ?_; intro w5 hr hg hsz)
          obtain ⟨M, hM⟩ : ∃ M, M = w4.heap.size := ⟨_, rfl⟩
          rw [← hM] at hr hg ⊢
          have H := Lib.hid (H.out.keep (made_put hM hg))
          have RM := Lib.hid hr
          have GM := Lib.hid (show g < M by rw [hM]; exact GL.out)
          have c8 := H.out.n
          clear hr hg hsz hM
          go_wp2_with fail
          refine (raw_any g D cur N w5 H.out.rd).mono ?_
          rw [← TE.out]
          rintro e w6 ⟨⟨v, rfl, ho⟩, hr, hg⟩
          obtain ⟨Av, cv, rfl, hrv, _⟩ := ho.read
          have RV := Lib.hid hrv
          have RM := Lib.hid (RM.out.grown hg (by have := GM.out; simp; omega))
          have H := Lib.hid (H.out.step hr hg)
          clear hr hg c8 ho hrv
          go_wp2_with (first
            | (refine wpList_val rfl (run_str 23 9 (.tmp 71) rfl Try.underlying23 Try.underlying5 Try.underlying9 RV.out T.2.1.length cv rfl rfl) ?_)
            | (refine wpList_val rfl (run_neqstr_false 9 9 (.tmp 72) (.tmp 73) rfl T.2.1 T.2.1 rfl rfl rfl _) ?_)
            | (refine wpList_load_ref rfl (.tmp 11) rfl M rfl T.1 RM.out ?_)
            | (refine wpList_store_ref rfl rfl (.tmp 6) (.tmp 75) rfl Q T.1 rfl rfl _ H.out.rf ?_; intro w7 hr hg hsz))
          go_meet
          exact ⟨rfl, T.1, TL.out, H.out.put hr hg⟩
        by_cases hk2 : K = 2
        · have hK0 : (K == 0) = false := by simp; omega
          have hK1 : (K == 1) = false := by simp; omega
          have hK2 : (K == 2) = true := by simp [hk2]
          clear hk0 hk1 hk2
          obtain ⟨T, hT⟩ : ∃ T, T = sizedS cur := ⟨_, rfl⟩
          have TE := Lib.hid hT
          have TL := Lib.hid (show T.1.l.length ≤ 9000 by rw [hT]; exact Nat.le_trans (sizedS_few cur) C9.out)
          clear hT
          go_upto_region 22 with (refine wpList_load_ref rfl (.tmp 6) rfl Q rfl cur H.out.rf ?_)
          refine (rsz2_any _ cur CL.out).mono ?_
          rw [← TE.out]
          rintro e w4 ⟨rfl, hb⟩
          have H := Lib.hid (H.out.keep hb)
          have GL := Lib.hid (show g < w4.heap.size from H.out.rd.lt)
          clear hb
          go_upto_region 22 with (refine wpList_store_ref rfl rfl (.tmp 13) (.tmp 81) rfl w4.heap.size T.1 rfl rfl ⟨[], 0⟩ (ha_new _ _ _ rfl) ?_; intro w5 hr hg hsz)
          obtain ⟨M, hM⟩ : ∃ M, M = w4.heap.size := ⟨_, rfl⟩
          rw [← hM] at hr hg ⊢
          have H := Lib.hid (H.out.keep (made_put hM hg))
          have RM := Lib.hid hr
          have GM := Lib.hid (show g < M by rw [hM]; exact GL.out)
          clear hr hg hsz hM
          go_wp2_with fail
          refine (rsz_any g D cur w5 H.out.rd).mono ?_
          rw [← TE.out]
          rintro e w6 ⟨⟨v, rfl, ho⟩, hr, hg⟩
          obtain ⟨Av, cv, rfl, hrv, _⟩ := ho.read
          have RV := Lib.hid hrv
          have RM := Lib.hid (RM.out.grown hg (by have := GM.out; simp; omega))
          have H := Lib.hid (H.out.step hr hg)
          clear hr hg ho hrv
          go_wp2_with (first
            | (refine wpList_val rfl (run_str 23 9 (.tmp 84) rfl Try.underlying23 Try.underlying5 Try.underlying9 RV.out T.2.length cv rfl rfl) ?_)
            | (refine wpList_val rfl (run_neqstr_false 9 9 (.tmp 85) (.tmp 86) rfl T.2 T.2 rfl rfl rfl _) ?_)
            | (refine wpList_load_ref rfl (.tmp 13) rfl M rfl T.1 RM.out ?_)
            | (refine wpList_store_ref rfl rfl (.tmp 6) (.tmp 88) rfl Q T.1 rfl rfl _ H.out.rf ?_; intro w7 hr hg hsz))
          go_meet
          exact ⟨rfl, T.1, TL.out, H.out.put hr hg⟩
        by_cases hk3 : K = 3
        · have hK0 : (K == 0) = false := by simp; omega
          have hK1 : (K == 1) = false := by simp; omega
          have hK2 : (K == 2) = false := by simp; omega
          have hK3 : (K == 3) = true := by simp [hk3]
          clear hk0 hk1 hk2 hk3
          have c8 := H.out.n
          obtain ⟨T, hT⟩ : ∃ T, T = listS cur N := ⟨_, rfl⟩
          have TE := Lib.hid hT
          have TL := Lib.hid (show T.1.l.length ≤ 9000 by rw [hT]; exact Nat.le_trans (listS_few cur N) C9.out)
          clear hT
          go_upto_region 27 with (refine wpList_load_ref rfl (.tmp 6) rfl Q rfl cur H.out.rf ?_)
          refine (rlist2_any _ cur CL.out N BN.out).mono ?_
          rw [← TE.out]
          rintro e w4 ⟨v, rfl, ho, hb⟩
          obtain ⟨Ax, cx, rfl, hrx, _⟩ := ho.read
          rw [StrV_length]
          obtain ⟨q, hq⟩ : ∃ q, q = T.2.length := ⟨_, rfl⟩
          rw [← hq]
          have QL := Lib.hid hq.symm
          have qb : (q : Int) ≤ 65535 := by
            have := listS_len cur N
            rw [← TE.out] at this
            omega
          have GLT := Lib.hid (show ∀ a, Ax = some a → w3.heap.size ≤ a.block from fun a e => by
            obtain ⟨A', c', hv, _, _, _, h5⟩ := ho.read
            injection hv with hv _ _
            subst hv
            exact (h5 a e).1)
          have RX := Lib.hid hrx
          have H3 := Lib.hid (show g < w3.heap.size ∧ Q < w3.heap.size from ⟨H.out.rd.lt, row_lt H.out.rf⟩)
          have H := Lib.hid (H.out.keep hb)
          have GL := Lib.hid (show g < w4.heap.size from H.out.rd.lt)
          clear hb c8 ho hrx hq
          go_upto_region 27 with (refine wpList_store_ref rfl rfl (.tmp 15) (.tmp 96) rfl w4.heap.size T.1 rfl rfl ⟨[], 0⟩ (ha_new _ _ _ rfl) ?_; intro w5 hr hg hsz)
          obtain ⟨M, hM⟩ : ∃ M, M = w4.heap.size := ⟨_, rfl⟩
          rw [← hM] at hr hg ⊢
          have H := Lib.hid (H.out.keep (made_put hM hg))
          have RX := Lib.hid (RX.out.keep (made_put hM hg))
          have RM := Lib.hid hr
          have GM := Lib.hid (show g < M by rw [hM]; exact GL.out)
          have c8 := H.out.n
          clear hr hg hsz hM
          go_upto_region 28 with fail
          refine (rlist_any g D cur N BN.out w5 H.out.rd (Nat.lt_trans H.out.DQ (row_lt H.out.rf))).mono ?_
          rw [← TE.out]
          rintro e w6 ⟨⟨Ay, cy, vy, rfl, hcy, hry, hay⟩, hr, hg⟩
          rw [show vy.length = q by rw [hay.length, QL.out]]
          have RY := Lib.hid hry
          have AY := Lib.hid hay
          have RX := Lib.hid (RX.out.grown hg (fun k e a ea => by cases e; have := GLT.out a ea; have := H3.out.1; omega))
          have RM := Lib.hid (RM.out.grown hg (by have := GM.out; simp; omega))
          have H := Lib.hid (H.out.step hr hg)
          clear hr hg c8 hcy hry hay
          go_wp2_with fail
          go_loopw [18] (fun i wr => ∃ k : Nat, k ≤ q ∧ i = .int .i64 (k : Int) ∧ Below w6.heap.size w6 wr) (fun i _ => q - (intOf i).toNat)
          case atStart => exact ⟨0, by omega, rfl, Below.refl _ _⟩
          case round =>
            obtain ⟨k, hk, rfl, hbel⟩ := hrel
            have S7 := Lib.hid hbel
            clear hbel
            by_cases hlt : k < q
            · have hDk : decide ((k : Int) < (q : Int)) = true := by simp; omega
              have kb : (k : Int) < (q : Int) := by omega
              obtain ⟨y, hl⟩ : ∃ y, T.2[k]? = some y := ⟨_, List.getElem?_eq_getElem (by rw [QL.out]; exact hlt)⟩
              obtain ⟨v1, hv1, A1', c1', rfl, hc1', hR1'⟩ := AY.out.get k y hl
              obtain ⟨b1, o1, rfl, hcell1⟩ := (RY.out.keep (S7.out.trans (Below.refl _ _).drew)) k _ hv1
              obtain ⟨b2, o2, rfl, hcell2⟩ := (RX.out.keep (S7.out.trans (Below.refl _ _).drew)) k _ (StrV_get _ _ _ hl)
              have T2 := Lib.hid (show ((wr.drew).cell? ⟨b1, o1 + k, none⟩ = some (.slice A1' y.length c1') ∧ RdB wr.drew A1' y) ∧ (wr.drew).cell? ⟨b2, o2 + k, none⟩ = some (.string (strB y)) from
                ⟨⟨hcell1, hR1'.keep (S7.out.trans (Below.refl _ _).drew)⟩, hcell2⟩)
              obtain ⟨p, hp⟩ : ∃ p, p = y.length := ⟨_, rfl⟩
              rw [← hp] at T2
              have PE := Lib.hid hp.symm
              clear hl hv1 hc1' hR1' hcell1 hcell2 hp
              go_upto_region 33 with fail
              refine wp_region_road (fun W => (W.cell? ⟨b1, o1 + k, none⟩ = some (.slice A1' p c1') ∧ RdB W A1' y) ∧ W.cell? ⟨b2, o2 + k, none⟩ = some (.string (strB y))) [(true, 0), (true, 1), (true, 2), (true, 3), (true, 4), (true, 5), (true, 6), (true, 7), (true, 8), (true, 9)] (by kernel_rfl) (by kernel_rfl) (fun _ _ d _ _ h => by cases d <;> exact h) ?_
              simp only [List.filterMap_cons, List.filterMap_nil, List.getElem?_toArray, List.getElem?_cons_zero, List.getElem?_cons_succ, Option.map_some]
              refine planG_q (v := ?_) (by rfl) (T2.out) ?_ ?_
              rotate_left
              · intro W hW
                go_simp
                with_reducible rfl
              simp only [Act.put, List.setIfInBounds_toArray, List.set_cons_zero, List.set_cons_succ]
              refine planG_q (v := ?_) (by rfl) (T2.out) ?_ ?_
              rotate_left
              · intro W hW
                go_simp
                with_reducible rfl
              simp only [Act.put, List.setIfInBounds_toArray, List.set_cons_zero, List.set_cons_succ]
              refine planG_q (v := ?_) (by rfl) (T2.out) ?_ ?_
              rotate_left
              · intro W hW
                go_simp
                with_reducible rfl
              simp only [Act.put, List.setIfInBounds_toArray, List.set_cons_zero, List.set_cons_succ]
              refine planG_q (by rfl) (T2.out) (fun W hW => run_cell 23 (.tmp 115) rfl _ Try.underlying23 rfl rfl hW.1.1) ?_
              simp only [Act.put, List.setIfInBounds_toArray, List.set_cons_zero, List.set_cons_succ]
              refine planG_q (by rfl) (T2.out) (fun W hW => run_str 23 9 (.tmp 116) rfl Try.underlying23 Try.underlying5 Try.underlying9 hW.1.2 p c1' PE.out rfl) ?_
              simp only [Act.put, List.setIfInBounds_toArray, List.set_cons_zero, List.set_cons_succ]
              refine planG_q (v := ?_) (by rfl) (T2.out) ?_ ?_
              rotate_left
              · intro W hW
                go_simp
                with_reducible rfl
              simp only [Act.put, List.setIfInBounds_toArray, List.set_cons_zero, List.set_cons_succ]
              refine planG_q (v := ?_) (by rfl) (T2.out) ?_ ?_
              rotate_left
              · intro W hW
                go_simp
                with_reducible rfl
              simp only [Act.put, List.setIfInBounds_toArray, List.set_cons_zero, List.set_cons_succ]
              refine planG_q (v := ?_) (by rfl) (T2.out) ?_ ?_
              rotate_left
              · intro W hW
                go_simp
                with_reducible rfl
              simp only [Act.put, List.setIfInBounds_toArray, List.set_cons_zero, List.set_cons_succ]
              refine planG_q (by rfl) (T2.out) (fun W hW => run_cell 9 (.tmp 120) rfl _ Try.underlying9 rfl rfl hW.2) ?_
              simp only [Act.put, List.setIfInBounds_toArray, List.set_cons_zero, List.set_cons_succ]
              refine planG_q (by rfl) (T2.out) (fun W hW => run_neqstr_false 9 9 (.tmp 117) (.tmp 121) rfl y y rfl rfl rfl W) ?_
              simp only [Act.put, List.setIfInBounds_toArray, List.set_cons_zero, List.set_cons_succ]
              refine planG_nil ?_
              go_wp2_with fail
              go_roundw
              case rel => exact ⟨k + 1, by omega, by go_num, S7.out.trans (Below.refl _ _).drew⟩
              case measure => simp [intOf]; omega
            · have hDk : decide ((k : Int) < (q : Int)) = false := by simp; omega
              have H := Lib.hid (H.out.keep S7.out)
              have RM := Lib.hid (RM.out.keep S7.out)
              go_wp2_with (first
                | (refine wpList_load_ref rfl (.tmp 15) rfl M rfl T.1 RM.out ?_)
                | (refine wpList_store_ref rfl rfl (.tmp 6) (.tmp 123) rfl Q T.1 rfl rfl _ H.out.rf ?_; intro w7 hr hg hsz))
              go_meet
              exact ⟨rfl, T.1, TL.out, H.out.put hr hg⟩
        · have hK0 : (K == 0) = false := by simp; omega
          have hK1 : (K == 1) = false := by simp; omega
          have hK2 : (K == 2) = false := by simp; omega
          have hK3 : (K == 3) = false := by simp; omega
          go_wp2_with fail
          go_meet
          exact ⟨rfl, cur, C9.out, H.out⟩
      case rest =>
      obtain ⟨rfl, cur', hcl', hH⟩ := hcut
      have H := Lib.hid hH
      have C9' := Lib.hid hcl'
      clear hcl' hH
      generalize wc = w4 at H ⊢
      go_upto_region 36 with fail
      have H := Lib.hid (H.out.keep (Below.refl _ _).drew)
      have C1' := Lib.hid (show cur'.l.length ≤ 100000 by have := C9'.out; omega)
      have sz : (strB cur'.l).size = cur'.l.length := strB_size _
      refine wp_region_road (fun W => RdW w g D Q E K N cur' cur' W) [(true, 0), (true, 2), (true, 3), (true, 4), (false, 1), (true, 5), (true, 6), (true, 7), (true, 9), (true, 10), (false, 8), (true, 11), (true, 12), (true, 13), (true, 14), (true, 16), (false, 15), (false, 17), (true, 18), (true, 19)] (by kernel_rfl) (by kernel_rfl) (fun _ _ d _ _ h => by cases d <;> exact h) ?_
      simp only [List.filterMap_cons, List.filterMap_nil, List.getElem?_toArray, List.getElem?_cons_zero, List.getElem?_cons_succ, Option.map_some]
      refine planG_q (v := ?_) (by rfl) (H.out) ?_ ?_
      rotate_left
      · intro W hW
        go_simp
        with_reducible rfl
      simp only [Act.put, List.setIfInBounds_toArray, List.set_cons_zero, List.set_cons_succ]
      refine planG_q (v := ?_) (by rfl) (H.out) ?_ ?_
      rotate_left
      · intro W hW
        go_simp
        with_reducible rfl
      simp only [Act.put, List.setIfInBounds_toArray, List.set_cons_zero, List.set_cons_succ]
      refine planG_q (by rfl) (H.out) (fun W hW => run_cell 9 (.tmp 126) rfl _ Try.underlying9 rfl rfl hW.rf.cell0) ?_
      simp only [Act.put, List.setIfInBounds_toArray, List.set_cons_zero, List.set_cons_succ]
      refine planG_q (v := ?_) (by rfl) (H.out) ?_ ?_
      rotate_left
      · intro W hW
        go_simp
        with_reducible rfl
      simp only [Act.put, List.setIfInBounds_toArray, List.set_cons_zero, List.set_cons_succ]
      refine planG_t (by rfl) (fun K hK => ?_)
      go_simp
      refine (left_any g D cur' _ H.out.rd).mono ?_
      rintro e w9 ⟨rfl, hw⟩
      rw [hw]
      clear hw w9
      refine hK.out _ _ (H.out) ?_
      clear hK K
      refine planG_q (v := ?_) (by rfl) (H.out) ?_ ?_
      rotate_left
      · intro W hW
        go_simp
        with_reducible rfl
      simp only [Act.put, List.setIfInBounds_toArray, List.set_cons_zero, List.set_cons_succ]
      refine planG_q (v := ?_) (by rfl) (H.out) ?_ ?_
      rotate_left
      · intro W hW
        go_simp
        with_reducible rfl
      simp only [Act.put, List.setIfInBounds_toArray, List.set_cons_zero, List.set_cons_succ]
      refine planG_q (v := ?_) (by rfl) (H.out) ?_ ?_
      rotate_left
      · intro W hW
        go_simp
        with_reducible rfl
      simp only [Act.put, List.setIfInBounds_toArray, List.set_cons_zero, List.set_cons_succ]
      refine planG_q (v := ?_) (by rfl) (H.out) ?_ ?_
      rotate_left
      · intro W hW
        go_simp
        with_reducible rfl
      simp only [Act.put, List.setIfInBounds_toArray, List.set_cons_zero, List.set_cons_succ]
      refine planG_q (by rfl) (H.out) (fun W hW => run_cell 3 (.tmp 133) rfl _ Try.underlying3 rfl rfl hW.rf.cell1) ?_
      simp only [Act.put, List.setIfInBounds_toArray, List.set_cons_zero, List.set_cons_succ]
      refine planG_t (by rfl) (fun K hK => ?_)
      go_simp
      refine (wrong_any g D cur' _ H.out.rd).mono ?_
      rintro e w9 ⟨rfl, hw⟩
      rw [hw]
      clear hw w9
      refine hK.out _ _ (H.out) ?_
      clear hK K
      refine planG_q (v := ?_) (by rfl) (H.out) ?_ ?_
      rotate_left
      · intro W hW
        go_simp
        with_reducible rfl
      simp only [Act.put, List.setIfInBounds_toArray, List.set_cons_zero, List.set_cons_succ]
      refine planG_q (v := ?_) (by rfl) (H.out) ?_ ?_
      rotate_left
      · intro W hW
        go_simp
        with_reducible rfl
      simp only [Act.put, List.setIfInBounds_toArray, List.set_cons_zero, List.set_cons_succ]
      refine planG_q (v := ?_) (by rfl) (H.out) ?_ ?_
      rotate_left
      · intro W hW
        go_simp
        with_reducible rfl
      simp only [Act.put, List.setIfInBounds_toArray, List.set_cons_zero, List.set_cons_succ]
      refine planG_q (v := ?_) (by rfl) (H.out) ?_ ?_
      rotate_left
      · intro W hW
        go_simp
        with_reducible rfl
      simp only [Act.put, List.setIfInBounds_toArray, List.set_cons_zero, List.set_cons_succ]
      refine planG_q (by rfl) (H.out) (fun W hW => run_load_ref (.tmp 6) rfl Q rfl cur' hW.rf) ?_
      simp only [Act.put, List.setIfInBounds_toArray, List.set_cons_zero, List.set_cons_succ]
      refine planG_t (by rfl) (fun K hK => ?_)
      go_simp
      refine (done_any g D cur' _ H.out.rd).mono ?_
      rintro e w9 ⟨rfl, hw⟩
      rw [hw]
      clear hw w9
      refine hK.out _ _ (H.out) ?_
      clear hK K
      refine planG_t (by rfl) (fun K hK => ?_)
      go_simp
      refine (rdone_any _ cur' C1'.out).mono ?_
      rintro e w9 ⟨rfl, hb⟩
      have H := Lib.hid (H.out.keep hb)
      clear hb
      refine hK.out _ _ (H.out) ?_
      clear hK K
      refine planG_q (v := ?_) (by rfl) (H.out) ?_ ?_
      rotate_left
      · intro W hW
        go_simp
        with_reducible rfl
      simp only [Act.put, List.setIfInBounds_toArray, List.set_cons_zero, List.set_cons_succ]
      refine planG_q (v := ?_) (by rfl) (H.out) ?_ ?_
      rotate_left
      · intro W hW
        go_simp
        with_reducible rfl
      simp only [Act.put, List.setIfInBounds_toArray, List.set_cons_zero, List.set_cons_succ]
      refine planG_nil ?_
      go_wp2_with fail
      go_roundw
      case rel => exact ⟨j + 1, cur', by have := J4.out; omega, by go_num, C9'.out, H.out.rd, H.out.rf, H.out.bel⟩
      case measure => have := J4.out; simp [intOf]; omega
    · by_cases hjn : j < n
      · have hD : decide ((j : Int) < (n : Int)) = true := by simp; omega
        have hE : decide ((j : Int) < (40 : Int)) = false := by simp; omega
        go_wp2_with fail
        refine (wireOne_true _).mono ?_
        rintro e w9 ⟨rfl, hb⟩
        have S := Lib.hid (S.out.trans (hb.mono S.out.size))
        clear hb
        go_wp2_with fail
        go_ret
        exact ⟨rfl, S.out⟩
      · have hD : decide ((j : Int) < (n : Int)) = false := by simp; omega
        go_wp2_with fail
        refine (wireOne_true _).mono ?_
        rintro e w9 ⟨rfl, hb⟩
        have S := Lib.hid (S.out.trans (hb.mono S.out.size))
        clear hb
        go_wp2_with fail
        go_ret
        exact ⟨rfl, S.out⟩
end Go.Proofs.Ytcmpiockcndejaa
