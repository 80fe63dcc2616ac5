/- The law WireBack, walked. -/
import Derived.Test.YtcmpiockcndejaaWireBackS
import Derived.Test.YtcmpiockcndejaaWireOne
namespace Go.Proofs.Ytcmpiockcndejaa
set_option linter.unusedVariables false
set_option linter.unusedSimpArgs false
open Go.RowKit
attribute [local go_sem ↓] Go.wp_at_zero Go.wp_at_succ

theorem Rdr.Dlt {g D : Nat} {s : RSt} {W : World} (h : Rdr g D s W) (hl : 0 < s.l.length) : D < W.heap.size := by
  obtain ⟨A, c, _, _, h3, h4⟩ := h.has
  obtain ⟨b, o, rfl, _⟩ := h3 0 hl
  have := h4 _ rfl
  rw [← this.2.2]
  exact this.2.1
theorem listL_length (ls : List (List UInt8)) : (listL ls).length = 2 + ls.flatten.length + 4 * ls.length := by
  have h : ∀ ls : List (List UInt8), (ls.map sizedL).flatten.length = ls.flatten.length + 4 * ls.length := by
    intro ls
    induction ls with
    | nil => rfl
    | cons x r ih => rw [List.map_cons, List.flatten_cons, List.length_append, ih, sizedL_length, List.flatten_cons, List.length_append, List.length_cons]; omega
  rw [listL, List.length_append, beL_length, h]
  omega
theorem mem_flat (ls : List (List UInt8)) (x : List UInt8) (h : x ∈ ls) : x.length ≤ ls.flatten.length := by
  induction ls with
  | nil => simp at h
  | cons y r ih =>
    rw [List.flatten_cons, List.length_append]
    rcases List.mem_cons.1 h with e | e
    · subst e; omega
    · have := ih e; omega
set_option maxRecDepth 100000 in
set_option maxHeartbeats 8000000 in
theorem wireBack_walk (w : World) (A : Option Addr) (c : Nat) (vs : List Value) (ls : List (List UInt8)) (hR : RdV w A vs) (hc : vs.length ≤ c) (hcm : c ≤ 9223372036854775807) (hall : All2 (SlB w) vs ls) (hlen : ls.length = vs.length) (hmx : ∀ l ∈ ls, l.length ≤ 9223372036854775807) (hz : vs.length ≤ 140737488351232) (x : UInt64)
    (A2 : Option Addr) (c2 : Nat) (l2 : List UInt8) (R2 : RdB w A2 l2) (n2 : l2.length ≤ c2) (m2 : c2 ≤ 9223372036854775807) (b2 : ∀ a, A2 = some a → a.block < w.heap.size) (z2 : l2.length ≤ 140737488351232) :
    Calls Try.prog 7 #[.slice A vs.length c, .int .u64 (x.toNat : Int), .slice A2 l2.length c2] w fun e w' => e = .returned (.bool true) ∧ Below w.heap.size w w' := by
  obtain ⟨i0, hi, hz0, hz1, hz2⟩ := info_parts (show (Try.prog.info? 5).map (fun i => (i.zero, i.size, i.bytes)) = some (some (.int .u8 0), 1, 1) by kernel_rfl)
  have I0 := Lib.hid hi
  have I2 := Lib.hid hz1
  have TB := Lib.hid (show ByteT Try.prog from ⟨Try.underlying23, by kernel_rfl⟩)
  obtain ⟨n, hn⟩ : ∃ n, n = vs.length := ⟨_, rfl⟩
  obtain ⟨k, hk⟩ : ∃ k, k = l2.length := ⟨_, rfl⟩
  rw [← hn] at hc hlen hz ⊢
  rw [← hk] at n2 z2 ⊢
  have NE := Lib.hid hn.symm
  have KL := Lib.hid hk.symm
  have H2 := Lib.hid R2
  have HR := Lib.hid hR
  have HA := Lib.hid hall
  have HX := Lib.hid hmx
  have NL := Lib.hid hlen
  have HC := Lib.hid hc
  have HZ := Lib.hid hz
  have nb : (n : Int) ≤ 140737488351232 := by omega
  have kb : (k : Int) ≤ 140737488351232 := by omega
  clear hi hz0 hz1 hz2 hn hk R2 n2 m2 b2 hR hc hcm hall hlen hmx hz z2
  go_enter Try.func7, Try.ntmps7
  go_wp2_with fail
  refine (few_any w A n c vs ls NE.out HR.out HA.out HZ.out HX.out).mono ?_
  rintro e w1 ⟨b, rfl, hw, hfew⟩
  rw [hw]
  clear hw w1
  rcases b with _ | _
  · clear hfew
    go_wp2_with fail
    go_ret
    exact ⟨rfl, Below.refl _ _⟩
  by_cases h1 : 400 < n
  · have hD : decide ((400 : Int) < (n : Int)) = true := by simp; omega
    clear hfew
    go_wp2_with fail
    go_ret
    exact ⟨rfl, Below.refl _ _⟩
  have hD1 : decide ((400 : Int) < (n : Int)) = false := by simp; omega
  by_cases h2 : 2000 < k
  · have hD : decide ((2000 : Int) < (k : Int)) = true := by simp; omega
    clear hfew
    go_wp2_with fail
    go_ret
    exact ⟨rfl, Below.refl _ _⟩
  have hD2 : decide ((2000 : Int) < (k : Int)) = false := by simp; omega
  have FW := Lib.hid (hfew rfl)
  have N4 := Lib.hid (show n ≤ 400 by omega)
  have K2 := Lib.hid (show k ≤ 2000 by omega)
  have X6 := Lib.hid (show ∀ y ∈ ls, y.length ≤ 65536 from fun y hy => by have := mem_flat ls y hy; have := FW.out; omega)
  clear hfew h1 h2
  go_upto_region 3 with fail
  clear hD1 hD2
  go_wp2_with fail
  refine (put_any w none 0 0 [] x 8 (by omega) rfl (RdB.nil _ _) (by omega)).mono ?_
  rw [show [] ++ beL (putN 8) x.toNat = beL 8 x.toNat by rfl]
  rintro e w1 ⟨v, rfl, ho, hb⟩
  obtain ⟨A0, c0, rfl, hr, hl, _, _⟩ := ho.read
  rw [beL_length] at hl ⊢
  have R8 := Lib.hid hr
  have S := Lib.hid hb
  clear ho hb hr hl
  go_wp2_with fail
  refine (wlist_any w1 A0 8 c0 (beL 8 x.toNat) (beL_length _ _) R8.out (by omega) A n c vs ls NE.out HC.out (HR.out.keep S.out) (HA.out.mono fun v l h => h.keep S.out) (by have := FW.out; omega) (by have := N4.out; omega)).mono ?_
  obtain ⟨b, hb⟩ : ∃ b, b = beL 8 x.toNat ++ listL ls := ⟨_, rfl⟩
  rw [← hb]
  obtain ⟨N, hN⟩ : ∃ N, N = b.length := ⟨_, rfl⟩
  have N8 := Lib.hid (show 10 ≤ N ∧ N ≤ 20000 by
    have h1 := listL_length ls
    have h2 := congrArg List.length hb
    rw [List.length_append, beL_length] at h2
    have := FW.out; have := NL.out; have := N4.out
    omega)
  have nb2 : (N : Int) ≤ 20000 := by have := N8.out; omega
  have nb1 : (10 : Int) ≤ (N : Int) := by have := N8.out; omega
  have BE := Lib.hid hb
  have BL := Lib.hid hN.symm
  clear hb hN
  rintro e w2 ⟨v, rfl, ho, hb⟩
  obtain ⟨Ab, cb, rfl, hr, hl, _, _⟩ := ho.read
  rw [BL.out] at hl ⊢
  have RB := Lib.hid hr
  have CB := Lib.hid hl
  have S := Lib.hid (S.out.trans (hb.mono S.out.size))
  have W1 := Lib.hid (Below.refl w2.heap.size w2)
  clear ho hb hr hl R8
  go_wp2_with (refine app_list rfl TB.out (.tmp 31) (.tmp 32) rfl w2.heap.size _ [] b Ab N cb rfl rfl BL.out (World.ownsRow_made w2 #[] 0 (Nat.le_refl _) (Nat.zero_le _) rfl) (RB.out.keep (below_new _ _)) ?s1 ?s2 ?_)
  case s1 => simp
  case s2 => have := N8.out; simp; omega
  have W1 := Lib.hid (show Below w2.heap.size w2 (w2.alloc (.cells #[] 5)) from below_new _ _)
  have O := Lib.hid (show OwnB (w2.alloc (.cells #[] 5)) w2.heap.size (.slice (some ⟨w2.heap.size, 0, none⟩) 0 0) [] from World.ownsRow_made w2 #[] 0 (Nat.le_refl _) (Nat.zero_le _) rfl)
  intro v1 w3 ho hg _
  have W1 := Lib.hid (below_own W1.out O.out hg)
  have O := Lib.hid ho
  clear ho hg
  go_wp2_with (refine app_list rfl TB.out (.tmp 33) (.tmp 34) rfl w2.heap.size _ b l2 A2 k c2 rfl rfl KL.out O.out ((H2.out.keep S.out).keep W1.out) W1.out.size (by have := N8.out; have := BL.out; have := K2.out; omega) ?_)
  intro v2 w4 ho hg _
  have W1 := Lib.hid (below_own W1.out O.out hg)
  obtain ⟨Am, cm, rfl, hr, hl, _, _⟩ := ho.read
  have ML := Lib.hid (show (b ++ l2).length = N + k by rw [List.length_append, BL.out, KL.out])
  rw [ML.out] at hl ⊢
  have RM := Lib.hid hr
  clear ho hg hr hl O
  go_wp2_with fail
  refine (rnew_any w4 Am (N + k) cm (b ++ l2) ML.out RM.out (by have := N8.out; have := K2.out; omega)).mono ?_
  rintro e w5 ⟨g, D, rfl, hg, hD', hr, hb⟩
  have R := Lib.hid hr
  have GW := Lib.hid (show w2.heap.size ≤ g from Nat.le_trans W1.out.size hg)
  have DW := Lib.hid (show D < w5.heap.size from hr.Dlt (by show 0 < (b ++ l2).length; rw [ML.out]; have := N8.out; omega))
  have W1 := Lib.hid (W1.out.trans (hb.mono W1.out.size))
  clear hg hD' hr hb RM
  obtain ⟨X, hX⟩ : ∃ X, X = x.toNat := ⟨_, rfl⟩
  have NX := Lib.hid (show numS ⟨b ++ l2, 0⟩ 8 = (⟨listL ls ++ l2, 0⟩, X) by
    have := numS_beL x.toNat 8 (by omega) (by omega) (listL ls ++ l2)
    rw [Nat.mod_eq_of_lt (by have := x.toNat_lt; omega)] at this
    rw [BE.out, List.append_assoc, hX]
    exact this)
  rw [← hX]
  clear hX
  go_wp2_with fail
  refine (num_any g D ⟨b ++ l2, 0⟩ 8 (by omega) w5 R.out).mono ?_
  rw [NX.out]
  rintro e w6 ⟨rfl, hr, hg⟩
  have R := Lib.hid hr
  have DW := Lib.hid (Nat.lt_of_lt_of_le DW.out hg.size)
  have W1 := Lib.hid (W1.out.trans (grown_below hg W1.out.size (by rintro q ⟨⟩; exact GW.out)))
  clear hr hg
  go_wp2_with fail
  refine (rlist_any g D ⟨listL ls ++ l2, 0⟩ 400 (by omega) w6 R.out DW.out).mono ?_
  rw [show listS ⟨listL ls ++ l2, 0⟩ 400 = (⟨l2, 0⟩, ls) from listS_all ls l2 400 (by rw [NL.out]; exact N4.out) (by rw [NL.out]; have := N4.out; omega) X6.out]
  rintro e w7 ⟨⟨Ar, cr, vr, rfl, hcr, hrv, hra⟩, hr, hg⟩
  have R := Lib.hid hr
  have W1 := Lib.hid (W1.out.trans (grown_below hg W1.out.size (by rintro q ⟨⟩; exact GW.out)))
  rw [show vr.length = n by rw [hra.length, NL.out]] at hcr ⊢
  have RR := Lib.hid hrv
  have RA := Lib.hid hra
  clear hcr hrv hra hr hg
  go_wp2_with fail
  refine (left_any g D ⟨l2, 0⟩ w7 R.out).mono ?_
  rw [show ((⟨l2, 0⟩ : RSt).l.length) = k from KL.out]
  rintro e w8 ⟨rfl, hw⟩
  rw [hw]
  clear hw w8
  go_wp2_with fail
  refine (wrong_any g D ⟨l2, 0⟩ w7 R.out).mono ?_
  rintro e w8 ⟨rfl, hw⟩
  rw [hw]
  clear hw w8
  go_wp2_with fail
  go_loopw [11] (fun i wr => ∃ j : Nat, j ≤ n ∧ i = .int .i64 (j : Int) ∧ Below w7.heap.size w7 wr) (fun i _ => n - (intOf i).toNat)
  case atStart => exact ⟨0, by omega, rfl, Below.refl _ _⟩
  case round =>
    obtain ⟨j, hj, rfl, hbel⟩ := hrel
    have S7 := Lib.hid hbel
    clear hbel
    by_cases hlt : j < n
    · have hD : decide ((j : Int) < (n : Int)) = true := by simp; omega
      have jb : (j : Int) < (n : Int) := by omega
      obtain ⟨y, hl⟩ : ∃ l, ls[j]? = some l := ⟨_, List.getElem?_eq_getElem (by rw [NL.out]; exact hlt)⟩
      obtain ⟨v1, hv1, A1', c1', rfl, hc1', hR1'⟩ := RA.out.get j y hl
      obtain ⟨v2, hv2, A2', c2', rfl, hc2', hR2'⟩ := HA.out.get j y hl
      obtain ⟨b1, o1, rfl, hcell1⟩ := (RR.out.keep (S7.out.trans (Below.refl _ _).drew)) j _ hv1
      obtain ⟨b2, o2, rfl, hcell2⟩ := (((HR.out.keep S.out).keep W1.out).keep (S7.out.trans (Below.refl _ _).drew)) j _ hv2
      have T := Lib.hid (show ((wr.drew).cell? ⟨b1, o1 + j, none⟩ = some (.slice A1' y.length c1') ∧ RdB wr.drew A1' y) ∧ ((wr.drew).cell? ⟨b2, o2 + j, none⟩ = some (.slice A2' y.length c2') ∧ RdB wr.drew A2' y) from
        ⟨⟨hcell1, hR1'.keep (S7.out.trans (Below.refl _ _).drew)⟩, ⟨hcell2, ((hR2'.keep S.out).keep W1.out).keep (S7.out.trans (Below.refl _ _).drew)⟩⟩)
      obtain ⟨m, hm⟩ : ∃ m, m = y.length := ⟨_, rfl⟩
      rw [← hm] at T
      have ME := Lib.hid hm.symm
      clear hl hv1 hc1' hR1' hv2 hc2' hR2' hcell1 hcell2 hm
      go_upto_region 12 with fail
      refine wp_region_road (fun W => (W.cell? ⟨b1, o1 + j, none⟩ = some (.slice A1' m c1') ∧ RdB W A1' y) ∧ (W.cell? ⟨b2, o2 + j, none⟩ = some (.slice A2' m c2') ∧ RdB W A2' y)) [(true, 0), (true, 1), (true, 2), (true, 3), (true, 4), (true, 5), (true, 6), (true, 7), (true, 8), (true, 9), (true, 10)] (by kernel_rfl) (by kernel_rfl) (fun _ _ d _ _ h => by cases d <;> exact h) ?_
      simp only [List.filterMap_cons, List.filterMap_nil, List.getElem?_toArray, List.getElem?_cons_zero, List.getElem?_cons_succ, Option.map_some]
      refine planG_q (v := ?_) (by rfl) (T.out) ?_ ?_
      rotate_left
      · intro W hW
        go_simp
        with_reducible rfl
      simp only [Act.put, List.setIfInBounds_toArray, List.set_cons_zero, List.set_cons_succ]
      refine planG_q (v := ?_) (by rfl) (T.out) ?_ ?_
      rotate_left
      · intro W hW
        go_simp
        with_reducible rfl
      simp only [Act.put, List.setIfInBounds_toArray, List.set_cons_zero, List.set_cons_succ]
      refine planG_q (v := ?_) (by rfl) (T.out) ?_ ?_
      rotate_left
      · intro W hW
        go_simp
        with_reducible rfl
      simp only [Act.put, List.setIfInBounds_toArray, List.set_cons_zero, List.set_cons_succ]
      refine planG_q (by rfl) (T.out) (fun W hW => run_cell 23 (.tmp 71) rfl _ Try.underlying23 rfl rfl hW.1.1) ?_
      simp only [Act.put, List.setIfInBounds_toArray, List.set_cons_zero, List.set_cons_succ]
      refine planG_q (by rfl) (T.out) (fun W hW => run_str 23 9 (.tmp 72) rfl Try.underlying23 Try.underlying5 Try.underlying9 hW.1.2 m c1' ME.out rfl) ?_
      simp only [Act.put, List.setIfInBounds_toArray, List.set_cons_zero, List.set_cons_succ]
      refine planG_q (v := ?_) (by rfl) (T.out) ?_ ?_
      rotate_left
      · intro W hW
        go_simp
        with_reducible rfl
      simp only [Act.put, List.setIfInBounds_toArray, List.set_cons_zero, List.set_cons_succ]
      refine planG_q (v := ?_) (by rfl) (T.out) ?_ ?_
      rotate_left
      · intro W hW
        go_simp
        with_reducible rfl
      simp only [Act.put, List.setIfInBounds_toArray, List.set_cons_zero, List.set_cons_succ]
      refine planG_q (v := ?_) (by rfl) (T.out) ?_ ?_
      rotate_left
      · intro W hW
        go_simp
        with_reducible rfl
      simp only [Act.put, List.setIfInBounds_toArray, List.set_cons_zero, List.set_cons_succ]
      refine planG_q (by rfl) (T.out) (fun W hW => run_cell 23 (.tmp 76) rfl _ Try.underlying23 rfl rfl hW.2.1) ?_
      simp only [Act.put, List.setIfInBounds_toArray, List.set_cons_zero, List.set_cons_succ]
      refine planG_q (by rfl) (T.out) (fun W hW => run_str 23 9 (.tmp 77) rfl Try.underlying23 Try.underlying5 Try.underlying9 hW.2.2 m c2' ME.out rfl) ?_
      simp only [Act.put, List.setIfInBounds_toArray, List.set_cons_zero, List.set_cons_succ]
      refine planG_q (by rfl) (T.out) (fun W hW => run_neqstr_false 9 9 (.tmp 73) (.tmp 78) rfl y y rfl rfl rfl W) ?_
      simp only [Act.put, List.setIfInBounds_toArray, List.set_cons_zero, List.set_cons_succ]
      refine planG_nil ?_
      go_wp2_with fail
      go_roundw
      case rel => exact ⟨j + 1, by omega, by go_num, S7.out.trans (Below.refl _ _).drew⟩
      case measure => simp [intOf]; omega
    · have hD : decide ((j : Int) < (n : Int)) = false := by simp; omega
      have W1 := Lib.hid (W1.out.trans (S7.out.mono W1.out.size))
      obtain ⟨m, hm⟩ : ∃ m, N = m + 1 := ⟨N - 1, by have := N8.out; omega⟩
      have e7 : (N : Int) - 1 = (m : Int) := by omega
      have NM := Lib.hid hm
      have hcut := cut_to (P := Try.prog) 23 5 Try.underlying23 I0.out I2.out Ab N cb m (by have := CB.out; omega)
      have LM := Lib.hid (show (b.take m).length = m by rw [List.length_take, BL.out]; have := NM.out; omega)
      have TE := Lib.hid (show b.take m = beL 8 x.toNat ++ (listL ls).dropLast by rw [BE.out]; exact laid_cut _ _ _ (by rw [← BE.out, BL.out, NM.out]))
      clear hm
      go_wp2_with fail
      clear hcut
      refine (rnew_any wr Ab m cb (b.take m) LM.out ((RB.out.keep W1.out).take m) (by have := NM.out; have := N8.out; omega)).mono ?_
      rw [TE.out]
      rintro e w8 ⟨g2, D2, rfl, hg, hD', hr, hb⟩
      have R2 := Lib.hid hr
      have GW2 := Lib.hid (show w2.heap.size ≤ g2 from Nat.le_trans W1.out.size hg)
      have DW2 := Lib.hid (show D2 < w8.heap.size from hr.Dlt (by show 0 < (beL 8 x.toNat ++ _).length; rw [List.length_append, beL_length]; omega))
      have W1 := Lib.hid (W1.out.trans (hb.mono W1.out.size))
      clear hg hD' hr hb
      have N2 := Lib.hid (show numS ⟨beL 8 x.toNat ++ (listL ls).dropLast, 0⟩ 8 = (⟨(listL ls).dropLast, 0⟩, X) by
        have h1 := numS_beL x.toNat 8 (by omega) (by omega) (listL ls ++ l2)
        have h2 := numS_beL x.toNat 8 (by omega) (by omega) (listL ls).dropLast
        have h3 := NX.out
        rw [BE.out, List.append_assoc] at h3
        have h4 := h1.symm.trans h3
        injection h4 with h4 h5
        rw [h5] at h2
        exact h2)
      go_wp2_with fail
      refine (num_any g2 D2 _ 8 (by omega) w8 R2.out).mono ?_
      rw [N2.out]
      rintro e w9 ⟨rfl, hr, hg⟩
      have R2 := Lib.hid hr
      have DW2 := Lib.hid (Nat.lt_of_lt_of_le DW2.out hg.size)
      have W1 := Lib.hid (W1.out.trans (grown_below hg W1.out.size (by rintro q ⟨⟩; exact GW2.out)))
      clear hr hg
      go_wp2_with fail
      refine (rlist_any g2 D2 ⟨(listL ls).dropLast, 0⟩ 400 (by omega) w9 R2.out DW2.out).mono ?_
      rw [show listS ⟨(listL ls).dropLast, 0⟩ 400 = (⟨[], 10⟩, []) from listS_cut ls 400 (by rw [NL.out]; exact N4.out) (by rw [NL.out]; have := N4.out; omega) X6.out]
      rintro e w10 ⟨⟨Aq, cq, vq, rfl, hcq, hrq, hraq⟩, hr, hg⟩
      have R2 := Lib.hid hr
      have W1 := Lib.hid (W1.out.trans (grown_below hg W1.out.size (by rintro q ⟨⟩; exact GW2.out)))
      rw [show vq.length = 0 from hraq.length]
      clear hcq hrq hraq hr hg
      go_wp2_with fail
      refine (wrong_any g2 D2 ⟨[], 10⟩ w10 R2.out).mono ?_
      rintro e w11 ⟨rfl, hw⟩
      rw [hw]
      clear hw w11
      go_wp2_with fail
      refine (wireOne_true _).mono ?_
      rintro e w11 ⟨rfl, hb⟩
      have W1 := Lib.hid (W1.out.trans (hb.mono W1.out.size))
      clear hb
      go_wp2_with fail
      go_ret
      exact ⟨rfl, S.out.trans (W1.out.mono S.out.size)⟩
end Go.Proofs.Ytcmpiockcndejaa
