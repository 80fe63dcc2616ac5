/- The law ChunkBack, walked. -/
import Derived.Test.YtihllbhmnkckaaaDoorUnpadL
import Derived.Test.YtihllbhmnkckaaaDoorChunkOne
namespace Go.Proofs.YtihllbhmnkckaaaDoor
set_option linter.unusedVariables false
set_option linter.unusedSimpArgs false
open Go.RowKit
attribute [local go_sem ↓] Go.wp_at_zero Go.wp_at_succ

theorem u8_inc_ne (x : UInt8) : x + 1 ≠ x := by
  intro h
  have h2 := congrArg UInt8.toNat h
  rw [UInt8.toNat_add] at h2
  have := x.toNat_lt
  have e : (1 : UInt8).toNat = 1 := rfl
  rw [e] at h2
  omega
theorem u8_inc (x : UInt8) : ((x.toNat : Int) + 1) % 256 = ((x + 1).toNat : Int) := by
  rw [UInt8.toNat_add]
  have e : (1 : UInt8).toNat = 1 := rfl
  rw [e]
  omega
theorem run_neqstr_t {P : Program} {o : Oper} {a : Act} (t t2 : TypeId) (x y : Operand) (ho : o.op = .binOp .neq t x y t2) (l l' : List UInt8) (h : l ≠ l') (hx : a.eval x = .string (strB l)) (hy : a.eval y = .string (strB l')) (W : World) : (execOp a.eval o).run P W = .ok (.value (.bool true)) W := by
  have e : ((strB l).toList == (strB l').toList) = false := by rw [strB_beq]; simpa using h
  unfold execOp
  simp only [ho, hx, hy, Sem.run_bind, Sem.run_pure]
  go_simp
theorem RdB.put {w : World} {g : Nat} {l : List UInt8} (h : RdB w (some ⟨g, 0, none⟩) l) (i : Nat) (hi : i < l.length) (y : UInt8) : RdB (w.setCell ⟨g, i, none⟩ (.int .u8 (y.toNat : Int))) (some ⟨g, 0, none⟩) (l.set i y) := by
  intro j hj
  rw [List.length_set] at hj
  refine ⟨g, 0, rfl, ?_⟩
  obtain ⟨b, o, e, hc⟩ := h j hj
  cases e
  obtain ⟨b', o', e', hci⟩ := h i hi
  cases e'
  rw [Nat.zero_add] at hc hci ⊢
  by_cases hij : i = j
  · subst hij
    rw [World.cell?_setCell_same _ _ _ (by rw [hci])]
    simp [List.getD_eq_getElem?_getD, hi]
  · rw [World.cell?_setCell_other _ _ _ _ (by simp <;> omega), hc]
    simp [List.getD_eq_getElem?_getD, List.getElem?_set, hij]
theorem OwnB.blk' {w : World} {base : Nat} {v : Value} {l : List UInt8} (h : OwnB w base v l) (hl : l ≠ []) :
    ∃ g cap cur, v = .slice (some ⟨g, 0, none⟩) l.length cap ∧ base ≤ g ∧ w.heap[g]? = some (.cells cur 5 (0, 0)) ∧ l.length ≤ cap ∧ RdB w (some ⟨g, 0, none⟩) l := by
  have h' := h
  rcases h'.2 with ⟨hv, hn⟩ | ⟨g, cap, cur, hv, hb, hh, hnc, hcm, hcs, _⟩
  · exact absurd (List.eq_nil_of_length_eq_zero hn) hl
  · refine ⟨g, cap, cur, hv, hb, hh, hnc, fun j hj => ⟨g, 0, rfl, ?_⟩⟩
    have := h.cells (g := g) (by rw [hv]; rfl) j _ (B8_get l j hj)
    rwa [add_at] at this
theorem UnpadP.get {w : World} {r : Option (List UInt8)} {e : Ending} {w' : World} (h : UnpadP w r e w') : ∃ A m c, e = .returned (.tuple #[.slice A m c, .int .i64 (if r.isSome then 0 else 11)]) ∧ RdB w' A (r.getD []) ∧ (r.getD []).length = m ∧ Below w.heap.size w w' := by
  cases r with
  | none =>
    obtain ⟨he, hb⟩ := h.no
    exact ⟨none, 0, 0, he, fun j hj => absurd hj (by simp), rfl, hb⟩
  | some t =>
    obtain ⟨⟨v, he, ho⟩, hb⟩ := h.yes
    obtain ⟨A, c, rfl, hr, hc, _, _⟩ := ho.read
    exact ⟨A, _, c, he, hr, rfl, hb⟩
set_option maxRecDepth 100000 in
set_option maxHeartbeats 8000000 in
theorem chunkBack_walk (w : World) (A0 : Option Addr) (c0 : Nat) (l0 : List UInt8) (hR0 : RdB w A0 l0) (hlc0 : l0.length ≤ c0) (hcm0 : c0 ≤ 9223372036854775807) (hlt0 : ∀ a, A0 = some a → a.block < w.heap.size)
    (A1 : Option Addr) (c1 : Nat) (l1 : List UInt8) (hR1 : RdB w A1 l1) (hlc1 : l1.length ≤ c1) (hcm1 : c1 ≤ 9223372036854775807) (hlt1 : ∀ a, A1 = some a → a.block < w.heap.size) :
    Calls Tryd.prog 3 #[.slice A0 l0.length c0, .slice A1 l1.length c1] w fun e w' => e = .returned (.bool true) ∧ Below w.heap.size w w' := by
  have TB := Lib.hid (show ByteT Tryd.prog from ⟨Tryd.underlying22, by kernel_rfl⟩)
  obtain ⟨i0, hi0, hz0, hz1, hz2⟩ := info_parts (show (Tryd.prog.info? 5).map (fun i => (i.zero, i.size, i.bytes)) = some (some (.int .u8 0), 1, 1) by kernel_rfl)
  have I0 := Lib.hid hi0
  have I1 := Lib.hid hz1
  obtain ⟨q0, hq0⟩ : ∃ q, q = l0.length := ⟨_, rfl⟩
  obtain ⟨q1, hq1⟩ : ∃ q, q = l1.length := ⟨_, rfl⟩
  rw [← hq0, ← hq1]
  have Q0 := Lib.hid hq0.symm
  have Q1 := Lib.hid hq1.symm
  have R0 := Lib.hid hR0
  have R1 := Lib.hid hR1
  have L0 := Lib.hid hlt0
  have L1 := Lib.hid hlt1
  have s0 : (q0 : Int) ≤ 9223372036854775807 := by omega
  have s1 : (q1 : Int) ≤ 9223372036854775807 := by omega
  clear hi0 hz0 hz1 hz2 hR0 hlc0 hcm0 hlt0 hR1 hlc1 hcm1 hlt1 hq0 hq1
  by_cases h0 : 5000 < q0
  · have hD : decide ((5000 : Int) < (q0 : Int)) = true := by simp; omega
    have hD2 : decide (5000 < q0) = true := by simp; omega
    clear h0
    go_enter Tryd.func3, Tryd.ntmps3
    go_wp2_with fail
    go_ret
    exact ⟨rfl, Below.refl _ _⟩
  by_cases h1 : 5000 < q1
  · have hD : decide ((5000 : Int) < (q0 : Int)) = false := by simp; omega
    have hD2 : decide (5000 < q0) = false := by simp; omega
    have hE : decide ((5000 : Int) < (q1 : Int)) = true := by simp; omega
    have hE2 : decide (5000 < q1) = true := by simp; omega
    clear h0 h1
    go_enter Tryd.func3, Tryd.ntmps3
    go_wp2_with fail
    go_ret
    exact ⟨rfl, Below.refl _ _⟩
  have hD : decide ((5000 : Int) < (q0 : Int)) = false := by simp; omega
  have hD2 : decide (5000 < q0) = false := by simp; omega
  have hE : decide ((5000 : Int) < (q1 : Int)) = false := by simp; omega
  have hE2 : decide (5000 < q1) = false := by simp; omega
  have b0 : (q0 : Int) ≤ 5000 := by omega
  have b1 : (q1 : Int) ≤ 5000 := by omega
  obtain ⟨X, hX⟩ : ∃ X, X = padL l0 := ⟨_, rfl⟩
  obtain ⟨Y, hY⟩ : ∃ Y, Y = padL l1 := ⟨_, rfl⟩
  obtain ⟨p, hp⟩ : ∃ p, p = padN q0 := ⟨_, rfl⟩
  obtain ⟨p1, hp1⟩ : ∃ p, p = padN q1 := ⟨_, rfl⟩
  have P := Lib.hid hp
  have P1 := Lib.hid hp1
  have XL := Lib.hid (show X.length = p by rw [hX, padL_length _ (by rw [Q0.out]; omega), Q0.out, hp])
  have YL := Lib.hid (show Y.length = p1 by rw [hY, padL_length _ (by rw [Q1.out]; omega), Q1.out, hp1])
  have XE := Lib.hid hX
  have YE := Lib.hid hY
  have PG := Lib.hid (show q0 + 4 ≤ p by rw [hp]; exact padN_ge _ (by omega))
  have PL := Lib.hid (show p ≤ 5300 by rw [hp]; unfold padN; rw [if_pos (by omega)]; omega)
  have PL1 := Lib.hid (show p1 ≤ 5300 by rw [hp1]; unfold padN; rw [if_pos (by omega)]; omega)
  have pb : (p : Int) ≤ 5300 := by have := PL.out; omega
  have pb1 : (p1 : Int) ≤ 5300 := by have := PL1.out; omega
  have U0 := Lib.hid (show unpadS X = some l0 by rw [hX]; exact unpad_pad _ (by rw [Q0.out]; omega))
  have U1 := Lib.hid (show unpadS (X ++ [0]) = none by rw [hX]; exact unpad_more _ (by rw [Q0.out]; omega) 0)
  have B0 := Lib.hid (show q0 ≤ 5000 by omega)
  have B1 := Lib.hid (show q1 ≤ 5000 by omega)
  clear h0 h1 hX hY hp hp1
  go_enter Tryd.func3, Tryd.ntmps3
  go_wp2_with fail
  refine (pad_any w A0 q0 c0 l0 Q0.out R0.out L0.out (by have := B0.out; omega)).mono ?_
  rw [← XE.out]
  rintro e w1 ⟨v, rfl, ho, hb⟩
  obtain ⟨Ax, cx, rfl, hrx, hcx, _, hbx⟩ := ho.read
  rw [XL.out]
  have RX := Lib.hid hrx
  have CX := Lib.hid hcx
  have S := Lib.hid hb
  clear ho hb hrx hcx hbx
  go_wp2_with fail
  refine (pad_any w1 A1 q1 c1 l1 Q1.out (R1.out.keep S.out) (fun a e => Nat.lt_of_lt_of_le (L1.out a e) S.out.size) (by have := B1.out; omega)).mono ?_
  rw [← YE.out]
  rintro e w2 ⟨v, rfl, ho, hb⟩
  obtain ⟨Ay, cy, rfl, hry, hcy, _, hby⟩ := ho.read
  rw [YL.out]
  have RX := Lib.hid (RX.out.keep hb)
  have S := Lib.hid (S.out.trans (hb.mono S.out.size))
  clear ho hb hry hcy hby
  obtain ⟨β, hβ⟩ : ∃ β : Bool, ((p : Int) == (p1 : Int)) = β := ⟨_, rfl⟩
  obtain ⟨β2, hβ2⟩ : ∃ β : Bool, (p == p1) = β := ⟨_, rfl⟩
  have hP0 : ((p : Int) == 0) = false := by simp; have := PG.out; omega
  go_wp2_with fail
  refine (padded_any w2 (q0 : Int)).mono ?_
  rw [padI_nat, ← P.out]
  rintro e wd ⟨rfl, hw⟩
  rw [hw]
  clear hw wd
  go_wp2_with fail
  refine (padded_any w2 (q1 : Int)).mono ?_
  rw [padI_nat, ← P1.out]
  rintro e wd ⟨rfl, hw⟩
  rw [hw]
  clear hw wd
  go_wp2_with fail
  refine (unpad_any w2 Ax p cx X XL.out RX.out (by have := PL.out; omega)).mono ?_
  rw [U0.out]
  rintro e w3 hp
  obtain ⟨⟨v, rfl, ho⟩, hb⟩ := hp.yes
  obtain ⟨Au, cu, rfl, hru, _, _, _⟩ := ho.read
  rw [Q0.out]
  have RU := Lib.hid hru
  have RX := Lib.hid (RX.out.keep hb)
  have S := Lib.hid (S.out.trans (hb.mono S.out.size))
  clear hp ho hb hru
  go_wp2_with (refine app_list rfl TB.out (.tmp 66) (.tmp 67) rfl w3.heap.size _ [] X Ax p cx rfl rfl XL.out (World.ownsRow_made w3 #[] 0 (Nat.le_refl _) (Nat.zero_le _) rfl) (RX.out.keep (below_new _ _)) (by simp) (by simp; omega) ?_)
  intro v1 w4 ho hg _
  have S4 := Lib.hid (Below.trans (below_new w3 (.cells #[] 5)) (grown_below hg (by rw [ha_size]; omega) (show ∀ x, (Value.slice (some ⟨w3.heap.size, 0, none⟩) 0 0).ownBlock = some x → w3.heap.size ≤ x from fun x e => by simp [Value.ownBlock] at e; omega)))
  have O := Lib.hid ho
  clear ho hg
  go_wp2_with (refine app_list rfl TB.out (.tmp 68) (.tmp 69) rfl w3.heap.size v1 X [0] (some ⟨w4.heap.size, 0, none⟩) 1 1 rfl rfl rfl (O.out.alloc _) (RdB.one (y := 0) (row_cell (fr := (0, 0)) (ha_new w4 _ _ rfl) 0 rfl)) (by rw [ha_size]; have := S4.out.size; omega) (by rw [XL.out]; have := PL.out; omega) ?_)
  intro v2 w5 ho hg _
  have S5 := Lib.hid ((S4.out.alloc S4.out.size _).trans (grown_below hg (by rw [ha_size]; have := S4.out.size; omega) (fun x e => (O.out.lt x e).1)))
  obtain ⟨Am, cm, rfl, hrm, _, _, _⟩ := ho.read
  have ML := Lib.hid (show (X ++ [0]).length = p + 1 by rw [List.length_append, XL.out]; rfl)
  rw [ML.out]
  have RM := Lib.hid hrm
  have RX := Lib.hid (RX.out.keep S5.out)
  have RU := Lib.hid (RU.out.keep S5.out)
  have S := Lib.hid (S.out.trans (S5.out.mono S.out.size))
  clear ho hg hrm O S4 S5
  go_wp2_with fail
  refine (unpad_any w5 Am (p + 1) cm (X ++ [0]) ML.out RM.out (by have := PL.out; omega)).mono ?_
  rw [U1.out]
  rintro e w6 hp
  obtain ⟨rfl, hb⟩ := hp.no
  have RX := Lib.hid (RX.out.keep hb)
  have RU := Lib.hid (RU.out.keep hb)
  have S := Lib.hid (S.out.trans (hb.mono S.out.size))
  clear hp hb
  go_wp2_with (refine app_list rfl TB.out (.tmp 74) (.tmp 75) rfl w6.heap.size _ [] X Ax p cx rfl rfl XL.out (World.ownsRow_made w6 #[] 0 (Nat.le_refl _) (Nat.zero_le _) rfl) (RX.out.keep (below_new _ _)) (by simp) (by simp; omega) ?_)
  intro v3 w7 ho hg _
  have S7 := Lib.hid (Below.trans (below_new w6 (.cells #[] 5)) (grown_below hg (by rw [ha_size]; omega) (show ∀ x, (Value.slice (some ⟨w6.heap.size, 0, none⟩) 0 0).ownBlock = some x → w6.heap.size ≤ x from fun x e => by simp [Value.ownBlock] at e; omega)))
  obtain ⟨g, cap, cur, rfl, hg1, hgr, hcap, hRd⟩ := ho.blk' (by intro h; have h1 := XL.out; rw [h] at h1; have := PG.out; simp at h1; omega)
  rw [XL.out] at hcap ⊢
  obtain ⟨k, hk⟩ : ∃ k, p = k + 1 := ⟨p - 1, by have := PG.out; omega⟩
  have e1 : (p : Int) - 1 = (k : Int) := by omega
  have kb : (k : Int) ≤ 5300 := by omega
  have kp : (k : Int) < (p : Int) := by omega
  have kp2 : k < p := by omega
  have KE := Lib.hid hk
  obtain ⟨x, hx⟩ : ∃ x, x = X.getD k 0 := ⟨_, rfl⟩
  have XK := Lib.hid hx
  obtain ⟨_, _, e', hc⟩ := hRd k (by rw [XL.out]; exact kp2)
  cases e'
  rw [Nat.zero_add, ← hx] at hc
  have hf := row_free hgr k
  have G1 := Lib.hid hg1
  have GR := Lib.hid hgr
  have RD := Lib.hid hRd
  have GC := Lib.hid hcap
  clear ho hg hg1 hgr hcap hRd hx hk
  go_upto_region 11 with fail
  rw [u8_inc]
  obtain ⟨w8, hw8⟩ : ∃ w8, w8 = w7.setCell ⟨g, k, none⟩ (.int .u8 ((x + 1).toNat : Int)) := ⟨_, rfl⟩
  rw [← hw8]
  have G8 := Lib.hid (show w7.grownBy w8 (some g) by rw [hw8]; exact grown_set (World.grownBy.refl _ _) _ _)
  have R8 := Lib.hid (show RdB w8 (some ⟨g, 0, none⟩) (X.set k (x + 1)) by rw [hw8]; exact RD.out.put k (by rw [XL.out]; have := KE.out; omega) _)
  have B8' := Lib.hid (show Below w6.heap.size w6 w8 from S7.out.trans (grown_below G8.out S7.out.size (by rintro x ⟨⟩; exact G1.out)))
  have RU := Lib.hid (RU.out.keep B8'.out)
  have S := Lib.hid (S.out.trans (B8'.out.mono S.out.size))
  obtain ⟨hA, hB⟩ := unpad_other l0 (by rw [Q0.out]; have := B0.out; omega) (x + 1) (by rw [← XE.out, XL.out, show p - 1 = k by have := KE.out; omega, ← XK.out]; exact u8_inc_ne x)
  rw [← XE.out, XL.out, show p - 1 = k by have := KE.out; omega, Q0.out] at hA hB
  have HA := Lib.hid hA
  have HB := Lib.hid hB
  clear hw8 hA hB hc hf
  go_wp2_with fail
  by_cases hfill : q0 + 4 = p
  · have hF : ((q0 : Int) + 4 == (p : Int)) = true := by simp; omega
    obtain ⟨v, hv, hne⟩ := HA.out hfill
    have V := Lib.hid hv
    have NE := Lib.hid hne
    clear hfill hv hne
    refine (unpad_any w8 (some ⟨g, 0, none⟩) p cap (X.set k (x + 1)) (by rw [List.length_set, XL.out]) R8.out (by have := PL.out; omega)).mono ?_
    rw [V.out]
    rintro e w9 hp
    obtain ⟨⟨vv, rfl, ho⟩, hb⟩ := hp.yes
    obtain ⟨Av, cv, rfl, hrv, _, _, _⟩ := ho.read
    obtain ⟨m, hm⟩ : ∃ m, m = v.length := ⟨_, rfl⟩
    rw [← hm]
    have VL := Lib.hid hm.symm
    have RV := Lib.hid hrv
    have RU := Lib.hid (RU.out.keep hb)
    have S := Lib.hid (S.out.trans (hb.mono S.out.size))
    have RB := Lib.hid (R0.out.keep S.out)
    clear hp ho hb hrv hm
    go_wp2_with (first
      | (refine wpList_valg rfl (run_str 22 9 (.tmp 103) rfl Tryd.underlying22 Tryd.underlying5 Tryd.underlying9 RU.out q0 cu Q0.out rfl) ?_)
      | (refine wpList_valg rfl (run_str 22 9 (.tmp 105) rfl Tryd.underlying22 Tryd.underlying5 Tryd.underlying9 RB.out q0 c0 Q0.out rfl) ?_)
      | (refine wpList_valg rfl (run_eqstr_true 9 9 (.tmp 104) (.tmp 106) rfl l0 l0 rfl rfl rfl _) ?_)
      | (refine wpList_valg rfl (run_str 22 9 (.tmp 123) rfl Tryd.underlying22 Tryd.underlying5 Tryd.underlying9 RV.out m cv VL.out rfl) ?_)
      | (refine wpList_valg rfl (run_str 22 9 (.tmp 125) rfl Tryd.underlying22 Tryd.underlying5 Tryd.underlying9 RB.out q0 c0 Q0.out rfl) ?_)
      | (refine wpList_valg rfl (run_neqstr_t 9 9 (.tmp 124) (.tmp 126) rfl v l0 NE.out rfl rfl _) ?_))
    refine (chunkOne_true w9).mono ?_
    rintro e w10 ⟨rfl, hb⟩
    have BF := Lib.hid (S.out.trans (hb.mono S.out.size))
    clear hb
    go_wp2_with fail
    go_ret
    exact ⟨rfl, BF.out⟩
  · have hF : ((q0 : Int) + 4 == (p : Int)) = false := by simp; omega
    have V := Lib.hid (HB.out hfill)
    clear hfill
    refine (unpad_any w8 (some ⟨g, 0, none⟩) p cap (X.set k (x + 1)) (by rw [List.length_set, XL.out]) R8.out (by have := PL.out; omega)).mono ?_
    rw [V.out]
    rintro e w9 hp
    obtain ⟨rfl, hb⟩ := hp.no
    have RU := Lib.hid (RU.out.keep hb)
    have S := Lib.hid (S.out.trans (hb.mono S.out.size))
    have RB := Lib.hid (R0.out.keep S.out)
    clear hp hb
    go_wp2_with (first
      | (refine wpList_valg rfl (run_str 22 9 (.tmp 103) rfl Tryd.underlying22 Tryd.underlying5 Tryd.underlying9 RU.out q0 cu Q0.out rfl) ?_)
      | (refine wpList_valg rfl (run_str 22 9 (.tmp 105) rfl Tryd.underlying22 Tryd.underlying5 Tryd.underlying9 RB.out q0 c0 Q0.out rfl) ?_)
      | (refine wpList_valg rfl (run_eqstr_true 9 9 (.tmp 104) (.tmp 106) rfl l0 l0 rfl rfl rfl _) ?_))
    refine (chunkOne_true w9).mono ?_
    rintro e w10 ⟨rfl, hb⟩
    have BF := Lib.hid (S.out.trans (hb.mono S.out.size))
    clear hb
    go_wp2_with fail
    go_ret
    exact ⟨rfl, BF.out⟩
end Go.Proofs.YtihllbhmnkckaaaDoor
