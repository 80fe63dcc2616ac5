/- The law DrawsParts, walked. -/
import Derived.Test.YtphpcegifdiofaaDrawOne
import Derived.Test.YtphpcegifdiofaaDrawZ
import Derived.Test.YtphpcegifdiofaaEqArr
import Derived.Test.YtphpcegifdiofaaMasks
namespace Go.Proofs.Ytphpcegifdiofaa
set_option linter.unusedVariables false
set_option linter.unusedSimpArgs false
open Go.RowKit
attribute [local go_sem ↓] Go.wp_at_zero Go.wp_at_succ

set_option maxRecDepth 100000 in
set_option maxHeartbeats 4000000 in
theorem drawsParts_walk (w : World) (A0 : Option Addr) (c0 : Nat) (l0 : List UInt8) (R0 : RdB w A0 l0) (n0 : l0.length ≤ c0) (m0 : c0 ≤ 9223372036854775807) (b0 : ∀ a, A0 = some a → a.block < w.heap.size) (z0 : l0.length ≤ 140737488351232)
    (x1 : Int) (hx1 : -9223372036854775808 ≤ x1 ∧ x1 ≤ 9223372036854775807) (x2 : Int) (hx2 : -9223372036854775808 ≤ x2 ∧ x2 ≤ 9223372036854775807) :
    Calls Try.prog 5 #[.slice A0 l0.length c0, .int .i64 x1, .int .i64 x2] w fun e w' => e = .returned (.bool true) ∧ Below w.heap.size w w' := by
  obtain ⟨q0, hq0⟩ : ∃ q, q = l0.length := ⟨_, rfl⟩
  rw [← hq0] at n0 z0 ⊢
  have Q0 := Lib.hid hq0.symm
  have S0 := Lib.hid R0
  have N0 := Lib.hid n0
  have d0 : (q0 : Int) ≤ 140737488351232 := by omega
  clear R0 hq0 n0 b0
  by_cases h1 : 300 < q0
  · have hD : decide ((300 : Int) < (q0 : Int)) = true := by simp; omega
    go_enter Try.func5, Try.ntmps5
    go_wp2_with fail
    go_ret
    exact ⟨rfl, Below.refl _ _⟩
  have hD : decide ((300 : Int) < (q0 : Int)) = false := by simp; omega
  have L0 := Lib.hid (show l0.length ≤ 300 by rw [Q0.out]; omega)
  obtain ⟨n, hn, e1⟩ := mask_i64 x1 255 (by omega)
  obtain ⟨k, hk, e2⟩ := mask_i64 x2 511 (by omega)
  have NB := Lib.hid (show n ≤ 255 from hn)
  have KB := Lib.hid (show k ≤ 511 from hk)
  have nb : (n : Int) ≤ 255 := by omega
  have kb : (k : Int) ≤ 511 := by omega
  have TB := Lib.hid (show ByteT Try.prog from ⟨Try.underlying22, by kernel_rfl⟩)
  have FL := Lib.hid (show [l0].flatten.length ≤ 300 by simpa using L0.out)
  have FE := Lib.hid (show [l0].flatten = l0 by simp)
  obtain ⟨m, hm⟩ : ∃ m, m = n + k := ⟨_, rfl⟩
  have MB := Lib.hid (show m ≤ 766 by omega)
  have e3 : (n : Int) + (k : Int) = (m : Int) := by omega
  have ME := Lib.hid hm
  clear hn hk h1 hm
  replace e1 : bits .and .i64 x1 255 = (n : Int) := e1
  replace e2 : bits .and .i64 x2 511 = (k : Int) := e2
  go_enter Try.func5, Try.ntmps5
  go_wp2_with fail
  clear hD e1 e2
  generalize hB : Array.size (World.heap w) = NA
  generalize hw : World.alloc w _ = w1
  obtain ⟨hv, hb⟩ := built_rows hw hB
  have V := Lib.hid hv
  have B0 := Lib.hid hb
  clear hB hw hv hb
  refine (dnew_any w1 (some ⟨NA, 0, none⟩) 1 1 _ [l0] rfl V.out (.cons ⟨A0, c0, by rw [Q0.out], by rw [Q0.out]; exact N0.out, S0.out.keep B0.out⟩ .nil) (by have := FL.out; omega) (by omega)).mono ?_
  rw [FE.out]
  rintro e w2 ⟨g, D, rfl, h1, h2, h3, h4, h5⟩
  have S := Lib.hid (SrcW.made B0.out h1 h2 h3 h4 h5)
  clear h1 h2 h3 h4 h5 V B0
  go_wp2_with fail
  generalize hB : Array.size (World.heap w2) = NA
  generalize hw : World.alloc w2 _ = w3
  obtain ⟨hv, hb⟩ := built_rows hw hB
  have V := Lib.hid hv
  have S := Lib.hid (S.out.keep hb)
  clear hB hw hv hb
  refine (dnew_any w3 (some ⟨NA, 0, none⟩) 1 1 _ [l0] rfl V.out (.cons ⟨A0, c0, by rw [Q0.out], by rw [Q0.out]; exact N0.out, S0.out.keep S.out.bel⟩ .nil) (by have := FL.out; omega) (by omega)).mono ?_
  rw [FE.out]
  rintro e w4 ⟨g2, D2, rfl, h1, h2, h3, h4, h5⟩
  have NE := Lib.hid (show g < g2 ∧ D < g2 ∧ g < D2 ∧ D < D2 from ⟨Nat.lt_of_lt_of_le S.out.ltg h1, Nat.lt_of_lt_of_le S.out.ltD h1, Nat.lt_of_lt_of_le S.out.ltg h3, Nat.lt_of_lt_of_le S.out.ltD h3⟩)
  have T := Lib.hid (SrcW.made S.out.bel h1 h2 h3 h4 h5)
  have S := Lib.hid (S.out.keep h5)
  clear h1 h2 h3 h4 h5 V
  go_wp2_with fail
  refine (tellW_any w g D l0 0 w4 S.out (by have := L0.out; omega) m (by have := MB.out; omega) (by have := MB.out; omega)).mono ?_
  obtain ⟨X, hX⟩ : ∃ X, X = tellS l0 0 m := ⟨_, rfl⟩
  rw [← hX, Nat.zero_add]
  have XE := Lib.hid hX
  have XL := Lib.hid (show X.length = m by rw [hX, tellS_length])
  have HG := Lib.hid S.out.ltg
  have HG2 := Lib.hid T.out.ltg
  rintro e w5 ⟨⟨v, rfl, ho⟩, hs, hg⟩
  obtain ⟨Ax, cx, rfl, hrx, _, _, hbx⟩ := ho.read
  rw [XL.out]
  have RX := Lib.hid hrx
  have S := Lib.hid hs
  have T := Lib.hid (T.out.far hg (by have := NE.out; omega) (by have := NE.out; omega) S.out.hg)
  have BX := Lib.hid (show ∀ a, Ax = some a → g2 < a.block ∧ g < a.block ∧ a.block < w5.heap.size from fun a e => ⟨Nat.lt_of_lt_of_le HG2.out (hbx a e).1, Nat.lt_of_lt_of_le HG.out (hbx a e).1, (hbx a e).2⟩)
  clear ho hs hg hrx hbx hX HG HG2
  go_wp2_with fail
  obtain ⟨N5, hN5⟩ : ∃ N, N = w5.heap.size := ⟨_, rfl⟩
  obtain ⟨w6, hw6⟩ : ∃ w', w' = w5.alloc (.cells #[] 5) := ⟨_, rfl⟩
  rw [← hN5] at BX ⊢
  rw [← hw6]
  have O := Lib.hid (show OwnB w6 N5 (.slice (some ⟨N5, 0, none⟩) 0 0) [] by rw [hw6, hN5]; exact World.ownsRow_made w5 #[] 0 (Nat.le_refl _) (Nat.zero_le _) rfl)
  have LN := Lib.hid (show g < N5 ∧ D < N5 ∧ g2 < N5 ∧ D2 < N5 by rw [hN5]; exact ⟨S.out.ltg, S.out.ltD, T.out.ltg, T.out.ltD⟩)
  have N6 := Lib.hid (show N5 ≤ w6.heap.size by rw [hN5, hw6, ha_size]; omega)
  have hb := below_new w5 (.cells #[] 5)
  rw [← hw6] at hb
  have S := Lib.hid (S.out.keep hb)
  have T := Lib.hid (T.out.keep hb)
  have RX := Lib.hid (RX.out.keep hb)
  clear hN5 hw6 hb
  refine (tellW_any w g2 D2 l0 0 w6 T.out (by have := L0.out; omega) n (by have := NB.out; omega) (by have := NB.out; omega)).mono ?_
  obtain ⟨P, hP⟩ : ∃ P, P = tellS l0 0 n := ⟨_, rfl⟩
  rw [← hP, Nat.zero_add]
  have PE := Lib.hid hP
  have PL := Lib.hid (show P.length = n by rw [hP, tellS_length])
  rintro e w7 ⟨⟨v, rfl, ho⟩, hs, hg⟩
  obtain ⟨Ap, cp, rfl, hrp, _, _, hbp⟩ := ho.read
  rw [PL.out]
  have RP := Lib.hid hrp
  have T := Lib.hid hs
  have S := Lib.hid (S.out.far hg (by have := NE.out; omega) (by have := NE.out; omega) T.out.hg)
  have RX := Lib.hid (RX.out.grow hg (fun _ a e => by have := BX.out a e; omega))
  have N7 := Lib.hid (Nat.le_trans N6.out hg.size)
  have O := Lib.hid (O.out.grown hg (.inr (fun e => by have := LN.out; simp [Value.ownBlock] at e; omega)))
  clear ho hs hg hrp hbp hP N6
  go_wp2_with (refine app_list rfl TB.out (.tmp 34) (.tmp 37) rfl N5 _ [] P Ap n cp rfl rfl PL.out O.out RP.out N7.out (by have := NB.out; simp; omega) ?_)
  intro v1 w8 ho hg _
  have hr : ∀ k, (Value.slice (some ⟨N5, 0, none⟩) 0 0).ownBlock = some k → N5 ≤ k := fun k e => (O.out.lt k e).1
  have S := Lib.hid (S.out.own hg (fun k e => by have := hr k e; have := LN.out; omega))
  have T := Lib.hid (T.out.own hg (fun k e => by have := hr k e; have := LN.out; omega))
  have RX := Lib.hid (RX.out.grown hg (fun k e a ea => by have := hr k e; have := BX.out a ea; omega))
  have N8 := Lib.hid (Nat.le_trans N7.out hg.size)
  have O := Lib.hid ho
  clear ho hg hr N7 RP
  go_wp2_with fail
  refine (tellW_any w g2 D2 l0 n w8 T.out (by have := L0.out; omega) k (by have := KB.out; omega) (by have := KB.out; have := NB.out; omega)).mono ?_
  obtain ⟨P2, hP⟩ : ∃ P, P = tellS l0 n k := ⟨_, rfl⟩
  rw [← hP, ← ME.out]
  have PX := Lib.hid (show P ++ P2 = X by rw [XE.out, ME.out, tellS_add, PE.out, hP, Nat.zero_add])
  have PL2 := Lib.hid (show P2.length = k by rw [hP, tellS_length])
  rintro e w9 ⟨⟨v, rfl, ho⟩, hs, hg⟩
  obtain ⟨Ap, cp, rfl, hrp, _, _, hbp⟩ := ho.read
  rw [PL2.out]
  have RP := Lib.hid hrp
  have OL := Lib.hid (fun k (e : v1.ownBlock = some k) => (O.out.lt k e).1)
  have T := Lib.hid hs
  have S := Lib.hid (S.out.far hg (by have := NE.out; omega) (by have := NE.out; omega) T.out.hg)
  have RX := Lib.hid (RX.out.grow hg (fun _ a e => by have := BX.out a e; omega))
  have N9 := Lib.hid (Nat.le_trans N8.out hg.size)
  have O := Lib.hid (O.out.grown hg (by
    rcases hq : v1.ownBlock with _ | q
    · exact .inl rfl
    · exact .inr (fun e => by injection e with e; have := OL.out q hq; have := LN.out; omega)))
  clear ho hs hg hrp hbp hP N8
  go_wp2_with (refine app_list rfl TB.out (.tmp 38) (.tmp 41) rfl N5 v1 P P2 Ap k cp rfl rfl PL2.out O.out RP.out N9.out (by have := NB.out; have := KB.out; have := PL.out; omega) ?_)
  intro v2 w10 ho hg _
  rw [PX.out] at ho
  have S := Lib.hid (S.out.own hg (fun k e => by have := OL.out k e; have := LN.out; omega))
  have T := Lib.hid (T.out.own hg (fun k e => by have := OL.out k e; have := LN.out; omega))
  have RX := Lib.hid (RX.out.grown hg (fun k e a ea => by have := OL.out k e; have := BX.out a ea; omega))
  obtain ⟨Ay, cy, rfl, hry, _, _, hby⟩ := ho.read
  rw [XL.out]
  have RY := Lib.hid hry
  have BY := Lib.hid (show ∀ a, Ay = some a → g < a.block from fun a e => by have := (hby a e).1; have := LN.out; omega)
  have BY2 := Lib.hid (show ∀ a, Ay = some a → a.block < w10.heap.size from fun a e => (hby a e).2)
  have N10 := Lib.hid (Nat.le_trans N9.out hg.size)
  clear ho hg hry hby OL N9 RP
  go_wp2_with fail
  refine (dclone_any g D l0 m true w10 S.out.src S.out.ltD (by have := L0.out; omega)).mono ?_
  rintro e w11 ⟨g3, D3, rfl, h1, h2, h3, h4, h5⟩
  have U := Lib.hid (show SrcW w g3 D3 l0 m w11 from ⟨S.out.bel.trans (h5.mono S.out.bel.size), Nat.le_trans S.out.bel.size h1, Nat.le_trans S.out.bel.size h3, h2, h4⟩)
  have NU := Lib.hid (show g < g3 ∧ D < g3 ∧ g < D3 ∧ D < D3 from ⟨Nat.lt_of_lt_of_le S.out.ltg h1, Nat.lt_of_lt_of_le S.out.ltD h1, Nat.lt_of_lt_of_le S.out.ltg h3, Nat.lt_of_lt_of_le S.out.ltD h3⟩)
  have BX := Lib.hid (show ∀ a, Ax = some a → g < a.block ∧ a.block < g3 from fun a e => ⟨(BX.out a e).2.1, Nat.lt_of_lt_of_le (Nat.lt_of_lt_of_le (BX.out a e).2.2 (show N5 ≤ w10.heap.size from N10.out)) h1⟩)
  have BY := Lib.hid (show ∀ a, Ay = some a → g < a.block ∧ a.block < g3 from fun a e => ⟨BY.out a e, Nat.lt_of_lt_of_le (BY2.out a e) h1⟩)
  have S := Lib.hid (S.out.keep h5)
  have RX := Lib.hid (RX.out.keep h5)
  have RY := Lib.hid (RY.out.keep h5)
  clear h1 h2 h3 h4 h5 T NE LN PX PE PL PL2 O
  go_wp2_with fail
  refine (tellW_any w g D l0 m w11 S.out (by have := L0.out; omega) 50 (by omega) (by have := MB.out; omega)).mono ?_
  obtain ⟨Z, hZ⟩ : ∃ Z, Z = tellS l0 m 50 := ⟨_, rfl⟩
  rw [← hZ]
  have ZE := Lib.hid hZ
  have ZL := Lib.hid (show Z.length = 50 by rw [hZ, tellS_length])
  rintro e w12 ⟨⟨v, rfl, ho⟩, hs, hg⟩
  obtain ⟨Av, cv, rfl, hrv, _, _, hbv⟩ := ho.read
  rw [ZL.out]
  have RV := Lib.hid hrv
  have S := Lib.hid hs
  have BV := Lib.hid (show ∀ a, Av = some a → g3 < a.block from fun a e => by have := (hbv a e).1; have := U.out.ltg; omega)
  have U := Lib.hid (U.out.far hg (by have := NU.out; omega) (by have := NU.out; omega) S.out.hg)
  have RX := Lib.hid (RX.out.grow hg (fun _ a e => by have := BX.out a e; omega))
  have RY := Lib.hid (RY.out.grow hg (fun _ a e => by have := BY.out a e; omega))
  clear ho hs hg hrv hbv hZ
  go_wp2_with fail
  refine (tellW_any w g3 D3 l0 m w12 U.out (by have := L0.out; omega) 50 (by omega) (by have := MB.out; omega)).mono ?_
  rw [← ZE.out]
  rintro e w13 ⟨⟨v, rfl, ho⟩, hs, hg⟩
  obtain ⟨Aw, cw, rfl, hrw, _, _, _⟩ := ho.read
  rw [ZL.out]
  have RW := Lib.hid hrw
  have S := Lib.hid (S.out.far hg (by have := NU.out; omega) (by have := NU.out; omega) hs.hg)
  have RX := Lib.hid (RX.out.grow hg (fun _ a e => by have := BX.out a e; omega))
  have RY := Lib.hid (RY.out.grow hg (fun _ a e => by have := BY.out a e; omega))
  have RV := Lib.hid (RV.out.grow hg (fun _ a e => by have := BV.out a e; omega))
  clear ho hs hg hrw BX BY BV U NU ZE
  obtain ⟨C, hC⟩ : ∃ C, C = SrcC (.slice none 0 0) (List.replicate 32 0) false 0 0 false (List.replicate 32 0) := ⟨_, rfl⟩
  have CE := Lib.hid hC
  clear hC
  go_upto_region 11 with (refine wpList_val rfl (show (execOp _ _).run _ _ = .ok (.value (.agg C)) _ by rw [CE.out]; exact run_zerosrc rfl _) ?_)
  have NS := Lib.hid (by have h := new_src (W := w13) (A := none) (F := []) (c := 0) (Nat.le_refl _) (RdB.nil _ _) (fun a e => by cases e); rw [List.length_nil, ← CE.out] at h; exact h)
  obtain ⟨NP, hNP⟩ : ∃ N, N = w13.heap.size := ⟨_, rfl⟩
  obtain ⟨w14, hw14⟩ : ∃ w', w' = w13.alloc (.cells C 40) := ⟨_, rfl⟩
  have hb := below_new w13 (.cells C 40)
  rw [← hw14] at hb
  have P := Lib.hid (show Src NP NP [] 0 false w14 by
    obtain ⟨D, h1, _, _, h4⟩ := NS.out
    rw [h4 rfl] at h1
    rw [hNP, hw14]
    exact h1)
  have S0B := Lib.hid S.out.bel
  have S := Lib.hid (S.out.keep hb)
  have SB := Lib.hid (show Below w13.heap.size w13 w14.drew from hb.drew)
  rw [← hw14, ← hNP]
  have NPE := Lib.hid hNP.symm
  obtain ⟨M2, hM2⟩ : ∃ M, M = m + 50 := ⟨_, rfl⟩
  rw [← hM2] at S
  have mb : (m : Int) ≤ 766 := by have := MB.out; omega
  have e4 : IntKind.i64.wrap ((n : Int) + (k : Int)) = (m : Int) := by rw [IntWalk.i64_in _ (by omega)]; exact e3
  have e5 : IntKind.i64.wrap ((m : Int) + 50) = (M2 : Int) := by rw [IntWalk.i64_in _ (by omega), hM2]; rfl
  clear hNP hw14 hb NS hM2 CE e3 mb N10
  refine wp_region_road (fun W => Below w13.heap.size w13 W) [(true, 0), (true, 1), (true, 2), (true, 3), (true, 4), (true, 5), (true, 6), (true, 8), (true, 9), (true, 10), (true, 11), (false, 7), (true, 12), (true, 13), (true, 14), (true, 15), (true, 16), (true, 17), (true, 18), (true, 19), (true, 20), (true, 21), (true, 22), (false, 23), (true, 24), (true, 25), (true, 26), (true, 27), (true, 28), (true, 30), (false, 29), (true, 31), (true, 32), (true, 33), (true, 34), (false, 35), (true, 36), (true, 37), (true, 38), (true, 39), (false, 40), (true, 41), (true, 42), (true, 43), (true, 44), (false, 45), (true, 46), (false, 47), (false, 48), (true, 49), (true, 50), (true, 51), (true, 52), (false, 53), (true, 54), (true, 55)] (by kernel_rfl) (by kernel_rfl) (fun _ _ d _ _ h => by cases d <;> exact h) ?_
  simp only [List.filterMap_cons, List.filterMap_nil, List.getElem?_toArray, List.getElem?_cons_zero, List.getElem?_cons_succ, Option.map_some]
  refine planG_q (v := ?_) (by rfl) (SB.out) ?_ ?_
  rotate_left
  · intro W hW
    go_simp
    with_reducible rfl
  simp only [Act.put, List.setIfInBounds_toArray, List.set_cons_zero, List.set_cons_succ]
  refine planG_q (by rfl) (SB.out) (fun W hW => run_str 22 9 (.tmp 51) rfl Try.underlying22 Try.underlying5 Try.underlying9 (RX.out.keep hW) m cx XL.out rfl) ?_
  simp only [Act.put, List.setIfInBounds_toArray, List.set_cons_zero, List.set_cons_succ]
  refine planG_q (v := ?_) (by rfl) (SB.out) ?_ ?_
  rotate_left
  · intro W hW
    go_simp
    with_reducible rfl
  simp only [Act.put, List.setIfInBounds_toArray, List.set_cons_zero, List.set_cons_succ]
  refine planG_q (by rfl) (SB.out) (fun W hW => run_str 22 9 (.tmp 53) rfl Try.underlying22 Try.underlying5 Try.underlying9 (RY.out.keep hW) m cy XL.out rfl) ?_
  simp only [Act.put, List.setIfInBounds_toArray, List.set_cons_zero, List.set_cons_succ]
  refine planG_q (by rfl) (SB.out) (fun W hW => run_eqstr_true 9 9 (.tmp 52) (.tmp 54) rfl X X rfl rfl rfl W) ?_
  simp only [Act.put, List.setIfInBounds_toArray, List.set_cons_zero, List.set_cons_succ]
  refine planG_q (v := ?_) (by rfl) (SB.out) ?_ ?_
  rotate_left
  · intro W hW
    go_simp
    with_reducible rfl
  simp only [Act.put, List.setIfInBounds_toArray, List.set_cons_zero, List.set_cons_succ]
  refine planG_q (v := ?_) (by rfl) (SB.out) ?_ ?_
  rotate_left
  · intro W hW
    go_simp
    with_reducible rfl
  simp only [Act.put, List.setIfInBounds_toArray, List.set_cons_zero, List.set_cons_succ]
  refine planG_q (v := ?_) (by rfl) (SB.out) ?_ ?_
  rotate_left
  · intro W hW
    go_simp
    with_reducible rfl
  simp only [Act.put, List.setIfInBounds_toArray, List.set_cons_zero, List.set_cons_succ]
  refine planG_q (v := ?_) (by rfl) (SB.out) ?_ ?_
  rotate_left
  · intro W hW
    go_simp
    with_reducible rfl
  simp only [Act.put, List.setIfInBounds_toArray, List.set_cons_zero, List.set_cons_succ]
  refine planG_q (v := ?_) (by rfl) (SB.out) ?_ ?_
  rotate_left
  · intro W hW
    go_simp
    with_reducible rfl
  simp only [Act.put, List.setIfInBounds_toArray, List.set_cons_zero, List.set_cons_succ]
  refine planG_q (v := ?_) (by rfl) (SB.out) ?_ ?_
  rotate_left
  · intro W hW
    go_simp
    with_reducible rfl
  simp only [Act.put, List.setIfInBounds_toArray, List.set_cons_zero, List.set_cons_succ]
  clear e4 e5
  refine planG_t (by rfl) (fun K hK => ?_)
  go_simp
  refine (used_any g D _ _ _ _ (S.out.src.keep (Below.refl _ _).drew)).mono ?_
  rintro e wd ⟨rfl, hw⟩
  rw [hw]
  clear hw wd
  refine hK.out _ _ (SB.out) ?_
  clear hK K
  refine planG_q (v := ?_) (by rfl) (SB.out) ?_ ?_
  rotate_left
  · intro W hW
    go_simp
    with_reducible rfl
  simp only [Act.put, List.setIfInBounds_toArray, List.set_cons_zero, List.set_cons_succ]
  refine planG_q (v := ?_) (by rfl) (SB.out) ?_ ?_
  rotate_left
  · intro W hW
    go_simp
    with_reducible rfl
  simp only [Act.put, List.setIfInBounds_toArray, List.set_cons_zero, List.set_cons_succ]
  refine planG_q (v := ?_) (by rfl) (SB.out) ?_ ?_
  rotate_left
  · intro W hW
    go_simp
    with_reducible rfl
  simp only [Act.put, List.setIfInBounds_toArray, List.set_cons_zero, List.set_cons_succ]
  refine planG_q (v := ?_) (by rfl) (SB.out) ?_ ?_
  rotate_left
  · intro W hW
    go_simp
    with_reducible rfl
  simp only [Act.put, List.setIfInBounds_toArray, List.set_cons_zero, List.set_cons_succ]
  refine planG_q (by rfl) (SB.out) (fun W hW => run_str 22 9 (.tmp 66) rfl Try.underlying22 Try.underlying5 Try.underlying9 (RV.out.keep hW) 50 cv ZL.out rfl) ?_
  simp only [Act.put, List.setIfInBounds_toArray, List.set_cons_zero, List.set_cons_succ]
  refine planG_q (v := ?_) (by rfl) (SB.out) ?_ ?_
  rotate_left
  · intro W hW
    go_simp
    with_reducible rfl
  simp only [Act.put, List.setIfInBounds_toArray, List.set_cons_zero, List.set_cons_succ]
  refine planG_q (by rfl) (SB.out) (fun W hW => run_str 22 9 (.tmp 68) rfl Try.underlying22 Try.underlying5 Try.underlying9 (RW.out.keep hW) 50 cw ZL.out rfl) ?_
  simp only [Act.put, List.setIfInBounds_toArray, List.set_cons_zero, List.set_cons_succ]
  refine planG_q (by rfl) (SB.out) (fun W hW => run_eqstr_true 9 9 (.tmp 67) (.tmp 69) rfl Z Z rfl rfl rfl W) ?_
  simp only [Act.put, List.setIfInBounds_toArray, List.set_cons_zero, List.set_cons_succ]
  refine planG_q (v := ?_) (by rfl) (SB.out) ?_ ?_
  rotate_left
  · intro W hW
    go_simp
    with_reducible rfl
  simp only [Act.put, List.setIfInBounds_toArray, List.set_cons_zero, List.set_cons_succ]
  refine planG_q (v := ?_) (by rfl) (SB.out) ?_ ?_
  rotate_left
  · intro W hW
    go_simp
    with_reducible rfl
  simp only [Act.put, List.setIfInBounds_toArray, List.set_cons_zero, List.set_cons_succ]
  refine planG_q (v := ?_) (by rfl) (SB.out) ?_ ?_
  rotate_left
  · intro W hW
    go_simp
    with_reducible rfl
  simp only [Act.put, List.setIfInBounds_toArray, List.set_cons_zero, List.set_cons_succ]
  refine planG_t (by rfl) (fun K hK => ?_)
  go_simp
  refine (tellN_none _ 5).mono ?_
  rintro e wd ⟨rfl, hw⟩
  rw [hw]
  clear hw wd
  refine hK.out _ _ (SB.out) ?_
  clear hK K
  refine planG_q (v := ?_) (by rfl) (SB.out) ?_ ?_
  rotate_left
  · intro W hW
    go_simp
    with_reducible rfl
  simp only [Act.put, List.setIfInBounds_toArray, List.set_cons_zero, List.set_cons_succ]
  refine planG_q (v := ?_) (by rfl) (SB.out) ?_ ?_
  rotate_left
  · intro W hW
    go_simp
    with_reducible rfl
  simp only [Act.put, List.setIfInBounds_toArray, List.set_cons_zero, List.set_cons_succ]
  refine planG_q (v := ?_) (by rfl) (SB.out) ?_ ?_
  rotate_left
  · intro W hW
    go_simp
    with_reducible rfl
  simp only [Act.put, List.setIfInBounds_toArray, List.set_cons_zero, List.set_cons_succ]
  refine planG_q (v := ?_) (by rfl) (SB.out) ?_ ?_
  rotate_left
  · intro W hW
    go_simp
    with_reducible rfl
  simp only [Act.put, List.setIfInBounds_toArray, List.set_cons_zero, List.set_cons_succ]
  refine planG_q (v := ?_) (by rfl) (SB.out) ?_ ?_
  rotate_left
  · intro W hW
    go_simp
    with_reducible rfl
  simp only [Act.put, List.setIfInBounds_toArray, List.set_cons_zero, List.set_cons_succ]
  refine planG_q (by rfl) (SB.out) (fun W hW => run_zerokey rfl W) ?_
  simp only [Act.put, List.setIfInBounds_toArray, List.set_cons_zero, List.set_cons_succ]
  refine planG_t (by rfl) (fun K hK => ?_)
  go_simp
  refine (keyN_none _).mono ?_
  rintro e w15 ⟨rfl, hb⟩
  have P := Lib.hid ((P.out.keep (Below.refl _ _).drew).keep hb)
  have SB := Lib.hid (SB.out.trans (hb.mono SB.out.size))
  clear hb
  refine hK.out _ _ (SB.out) ?_
  clear hK K
  refine planG_q (by rfl) (SB.out) (fun W hW => run_eq_arr_true 30 _ (.tmp 80) (.tmp 81) rfl 5 32 Try.underlying30 Try.underlying5 (by kernel_rfl) (by kernel_rfl) (List.replicate 32 0) (List.replicate 32 0) rfl rfl rfl rfl W) ?_
  simp only [Act.put, List.setIfInBounds_toArray, List.set_cons_zero, List.set_cons_succ]
  refine planG_q (v := ?_) (by rfl) (SB.out) ?_ ?_
  rotate_left
  · intro W hW
    go_simp
    with_reducible rfl
  simp only [Act.put, List.setIfInBounds_toArray, List.set_cons_zero, List.set_cons_succ]
  refine planG_q (v := ?_) (by rfl) (SB.out) ?_ ?_
  rotate_left
  · intro W hW
    go_simp
    with_reducible rfl
  simp only [Act.put, List.setIfInBounds_toArray, List.set_cons_zero, List.set_cons_succ]
  refine planG_q (v := ?_) (by rfl) (SB.out) ?_ ?_
  rotate_left
  · intro W hW
    go_simp
    with_reducible rfl
  simp only [Act.put, List.setIfInBounds_toArray, List.set_cons_zero, List.set_cons_succ]
  refine planG_t (by rfl) (fun K hK => ?_)
  go_simp
  refine (usedN_none _).mono ?_
  rintro e wd ⟨rfl, hw⟩
  rw [hw]
  clear hw wd
  refine hK.out _ _ (SB.out) ?_
  clear hK K
  refine planG_q (v := ?_) (by rfl) (SB.out) ?_ ?_
  rotate_left
  · intro W hW
    go_simp
    with_reducible rfl
  simp only [Act.put, List.setIfInBounds_toArray, List.set_cons_zero, List.set_cons_succ]
  refine planG_q (v := ?_) (by rfl) (SB.out) ?_ ?_
  rotate_left
  · intro W hW
    go_simp
    with_reducible rfl
  simp only [Act.put, List.setIfInBounds_toArray, List.set_cons_zero, List.set_cons_succ]
  refine planG_q (v := ?_) (by rfl) (SB.out) ?_ ?_
  rotate_left
  · intro W hW
    go_simp
    with_reducible rfl
  simp only [Act.put, List.setIfInBounds_toArray, List.set_cons_zero, List.set_cons_succ]
  refine planG_q (v := ?_) (by rfl) (SB.out) ?_ ?_
  rotate_left
  · intro W hW
    go_simp
    with_reducible rfl
  simp only [Act.put, List.setIfInBounds_toArray, List.set_cons_zero, List.set_cons_succ]
  refine planG_t (by rfl) (fun K hK => ?_)
  go_simp
  refine (cloneN_none _).mono ?_
  rintro e wd ⟨rfl, hw⟩
  rw [hw]
  clear hw wd
  refine hK.out _ _ (SB.out) ?_
  clear hK K
  refine planG_q (v := ?_) (by rfl) (SB.out) ?_ ?_
  rotate_left
  · intro W hW
    go_simp
    with_reducible rfl
  simp only [Act.put, List.setIfInBounds_toArray, List.set_cons_zero, List.set_cons_succ]
  refine planG_q (v := ?_) (by rfl) (SB.out) ?_ ?_
  rotate_left
  · intro W hW
    go_simp
    with_reducible rfl
  simp only [Act.put, List.setIfInBounds_toArray, List.set_cons_zero, List.set_cons_succ]
  refine planG_q (v := ?_) (by rfl) (SB.out) ?_ ?_
  rotate_left
  · intro W hW
    go_simp
    with_reducible rfl
  simp only [Act.put, List.setIfInBounds_toArray, List.set_cons_zero, List.set_cons_succ]
  refine planG_q (v := ?_) (by rfl) (SB.out) ?_ ?_
  rotate_left
  · intro W hW
    go_simp
    with_reducible rfl
  simp only [Act.put, List.setIfInBounds_toArray, List.set_cons_zero, List.set_cons_succ]
  refine planG_t (by rfl) (fun K hK => ?_)
  go_simp
  refine (tell_any NP NP [] 0 false w15 P.out P.out.lt (by simp) 40 (by decide)).mono ?_
  rw [show takeN 40 = 40 from rfl]
  obtain ⟨Y, hY⟩ : ∃ Y, Y = tellS [] 0 40 := ⟨_, rfl⟩
  rw [← hY]
  have YE := Lib.hid hY
  have YL := Lib.hid (show Y.length = 40 by rw [hY, tellS_length])
  rintro e w16 ⟨v, rfl, ho, _, hg⟩
  obtain ⟨A5, k5, rfl, hr5, _, _, _⟩ := ho.read
  rw [YL.out]
  have R5 := Lib.hid hr5
  have SB := Lib.hid (SB.out.trans (grown_below hg SB.out.size (by rintro q ⟨⟩; rw [NPE.out]; exact Nat.le_refl _)))
  clear hr5 ho hg hY P
  refine hK.out _ _ (SB.out) ?_
  clear hK K
  refine planG_sw (fun W => Below w13.heap.size w13 W ∧ Below w16.heap.size w16 W) (fun W h => h.1) ?_
  have SC := Lib.hid (show Below w13.heap.size w13 w16 ∧ Below w16.heap.size w16 w16 from ⟨SB.out, Below.refl _ _⟩)
  refine planG_q (by rfl) (SC.out) (fun W hW => run_str 22 9 (.tmp 96) rfl Try.underlying22 Try.underlying5 Try.underlying9 (R5.out.keep hW.2) 40 k5 YL.out rfl) ?_
  simp only [Act.put, List.setIfInBounds_toArray, List.set_cons_zero, List.set_cons_succ]
  refine planG_t (by rfl) (fun K hK => ?_)
  go_simp
  refine (dnew_any w16 none 0 0 [] [] rfl (RdV.nil _ _) .nil (by simp) (by omega)).mono ?_
  rintro e w17 ⟨g4, D4, rfl, h1, h2, h3, h4, h5⟩
  have P := Lib.hid h4
  have PD := Lib.hid (And.intro h1 h2)
  have SC := Lib.hid (show Below w13.heap.size w13 w17 ∧ Below w16.heap.size w16 w17 from ⟨SB.out.trans (h5.mono SB.out.size), h5⟩)
  clear h1 h2 h3 h4 h5
  refine hK.out _ _ (SC.out) ?_
  clear hK K
  refine planG_t (by rfl) (fun K hK => ?_)
  go_simp
  refine (tell_any g4 D4 [].flatten 0 true w17 P.out PD.out.2 (by simp) 40 (by decide)).mono ?_
  rw [show takeN 40 = 40 from rfl, show tellS [].flatten 0 40 = Y from YE.out.symm]
  rintro e w18 ⟨v, rfl, ho, _, hg⟩
  obtain ⟨A6, k6, rfl, hr6, _, _, _⟩ := ho.read
  rw [YL.out]
  have R6 := Lib.hid hr6
  have SC := Lib.hid (show Below w13.heap.size w13 w18 ∧ Below w16.heap.size w16 w18 from ⟨SC.out.1.trans (grown_below hg SC.out.1.size (by rintro q ⟨⟩; exact Nat.le_trans SB.out.size PD.out.1)), SC.out.2.trans (grown_below hg SC.out.2.size (by rintro q ⟨⟩; exact PD.out.1))⟩)
  clear hr6 ho hg P
  refine hK.out _ _ (SC.out) ?_
  clear hK K
  refine planG_sw (fun W => (Below w13.heap.size w13 W ∧ Below w16.heap.size w16 W) ∧ Below w18.heap.size w18 W) (fun W h => h.1) ?_
  have SD := Lib.hid (And.intro SC.out (Below.refl w18.heap.size w18))
  refine planG_q (by rfl) (SD.out) (fun W hW => run_str 22 9 (.tmp 99) rfl Try.underlying22 Try.underlying5 Try.underlying9 (R6.out.keep hW.2) 40 k6 YL.out rfl) ?_
  simp only [Act.put, List.setIfInBounds_toArray, List.set_cons_zero, List.set_cons_succ]
  refine planG_q (by rfl) (SD.out) (fun W hW => run_eqstr_true 9 9 (.tmp 97) (.tmp 100) rfl Y Y rfl rfl rfl W) ?_
  simp only [Act.put, List.setIfInBounds_toArray, List.set_cons_zero, List.set_cons_succ]
  refine planG_q (v := ?_) (by rfl) (SD.out) ?_ ?_
  rotate_left
  · intro W hW
    go_simp
    with_reducible rfl
  simp only [Act.put, List.setIfInBounds_toArray, List.set_cons_zero, List.set_cons_succ]
  refine planG_q (v := ?_) (by rfl) (SD.out) ?_ ?_
  rotate_left
  · intro W hW
    go_simp
    with_reducible rfl
  simp only [Act.put, List.setIfInBounds_toArray, List.set_cons_zero, List.set_cons_succ]
  refine planG_t (by rfl) (fun K hK => ?_)
  go_simp
  refine (drawOne_true _).mono ?_
  rintro e w19 ⟨rfl, hb⟩
  have SD := Lib.hid (show (Below w13.heap.size w13 w19 ∧ Below w16.heap.size w16 w19) ∧ Below w18.heap.size w18 w19 from ⟨⟨SD.out.1.1.trans (hb.mono SD.out.1.1.size), SD.out.1.2.trans (hb.mono SD.out.1.2.size)⟩, hb⟩)
  clear hb
  refine hK.out _ _ (SD.out) ?_
  clear hK K
  refine planG_q (v := ?_) (by rfl) (SD.out) ?_ ?_
  rotate_left
  · intro W hW
    go_simp
    with_reducible rfl
  simp only [Act.put, List.setIfInBounds_toArray, List.set_cons_zero, List.set_cons_succ]
  refine planG_q (v := ?_) (by rfl) (SD.out) ?_ ?_
  rotate_left
  · intro W hW
    go_simp
    with_reducible rfl
  simp only [Act.put, List.setIfInBounds_toArray, List.set_cons_zero, List.set_cons_succ]
  refine planG_nil ?_
  have BF := Lib.hid (S0B.out.trans (SD.out.1.1.mono S0B.out.size))
  go_wp2_with fail
  go_ret
  exact ⟨rfl, BF.out⟩
end Go.Proofs.Ytphpcegifdiofaa
