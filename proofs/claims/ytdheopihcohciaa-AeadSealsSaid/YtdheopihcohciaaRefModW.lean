/- What is left by the prime: walked. No condition but those each theorem states. -/
import Derived.Test.YtdheopihcohciaaRefModP
import Derived.Deep.CutBlock
namespace Go.Proofs.Ytdheopihcohciaa
set_option linter.unusedVariables false
set_option linter.unusedSimpArgs false
open Go.RowKit
attribute [local go_sem ↓] Go.wp_at_zero Go.wp_at_succ

theorem OwnV.block {w : World} {base : Nat} {e : TypeId} {v : Value} {l : List Value} (h : OwnV w base e v l) (hl : l ≠ []) :
    ∃ g cap cur, v = .slice (some ⟨g, 0, none⟩) l.length cap ∧ base ≤ g ∧ w.heap[g]? = some (.cells cur e (0, 0)) ∧ l.length ≤ cap ∧ cur.toList.take l.length = l ∧ cap ≤ maxLen ∧ cur.size = cap := by
  rcases h.2 with ⟨hv, hn⟩ | ⟨g, cap, cur, hv, hb, hh, hnc, hcm, hcs, ht⟩
  · exact absurd (List.eq_nil_of_length_eq_zero hn) hl
  · exact ⟨g, cap, cur, hv, hb, hh, hnc, by simpa using ht, hcm, by simpa using hcs⟩
theorem OwnV.put {w : World} {base : Nat} {e : TypeId} {g cap : Nat} {l : List Value} {cur : Array Value} (hb : base ≤ g) (hh : w.heap[g]? = some (.cells cur e (0, 0))) (hnc : l.length ≤ cap) (ht : cur.toList.take l.length = l) (hcm : cap ≤ maxLen) (hcs : cur.size = cap) (i : Nat) (x : Value) :
    OwnV (w.setCell ⟨g, i, none⟩ x) base e (.slice (some ⟨g, 0, none⟩) l.length cap) (l.set i x) := by
  refine ⟨by simp, .inr ⟨g, cap, cur.setIfInBounds i x, by simp, hb, heap_setCell_same _ _ _ _ _ _ hh, by simpa using hnc, hcm, by simpa using hcs, ?_⟩⟩
  rw [Nat.mul_one, List.length_set, Array.toList_setIfInBounds, List.take_set, ht]
theorem lowL_17 (l : List Nat) (h : 17 ≤ l.length) : lowL l = (l.take 17).set 16 (l.getD 16 0 % 4) := by
  unfold lowL
  have e : l.take 17 = l.take 16 ++ [l.getD 16 0] := by
    rw [show 17 = 16 + 1 from rfl, List.take_add_one, List.getElem?_eq_getElem (by omega)]
    simp [List.getD_eq_getElem?_getD, show 16 < l.length by omega]
  have e2 : (l.take 16).length = 16 := by rw [List.length_take]; omega
  rw [if_neg (by omega), e, List.set_append_right _ _ (by omega), e2]
  rfl
theorem lowL_few (l : List Nat) (h : l.length < 17) : lowL l = l.take 17 := by
  unfold lowL
  rw [if_pos h, List.take_of_length_le (by omega)]
theorem below_new2 (w : World) (o : Obj) : Below w.heap.size w (w.alloc o) := (Below.refl _ _).alloc (Nat.le_refl _) _
set_option maxRecDepth 100000 in
set_option maxHeartbeats 8000000 in
theorem mod_any (l0 : List Nat) (hd0 : ∀ d ∈ l0, d ≤ 255) (hx0 : valB l0 < 256 ^ 37) (A0 : Option Addr) (n0 c0 : Nat) (hn0 : l0.length = n0) (hm0 : n0 ≤ 60) (w : World) (hR0 : RdV w A0 (NumV l0)) :
    Calls Try.prog 37 #[.slice A0 n0 c0] w fun e w' => ∃ A c n o, e = .returned (.slice A n c) ∧ o.length = n ∧ n ≤ 37 ∧ RdV w' A (NumV o) ∧ (∀ d ∈ o, d ≤ 255) ∧ valB o = valB l0 % PN ∧ Below w.heap.size w w' := by
  have NT := Lib.hid numT
  obtain ⟨x0, hxx⟩ : ∃ x, x = valB l0 := ⟨_, rfl⟩
  have XE := Lib.hid hxx.symm
  have XB := Lib.hid (show x0 < 256 ^ 37 by rw [hxx]; exact hx0)
  have HD0 := Lib.hid hd0
  have HN0 := Lib.hid hn0
  have HM0 := Lib.hid hm0
  have HR0 := Lib.hid hR0
  rw [← hxx]
  clear hxx hx0 hd0 hn0 hm0 hR0
  go_enter Try.func37, Try.ntmps37
  go_wp2_with fail
  go_loopw [0, 3] (fun u i wr => ∃ (k : Nat) (l : List Nat) (A : Option Addr) (n c : Nat), k ≤ 8 ∧ i = .int .i64 (k : Int) ∧ u = .slice A n c ∧ l.length = n ∧ (n ≤ 60 ∧ (1 ≤ k → n ≤ 45) ∧ (2 ≤ k → n ≤ 37)) ∧ RdV wr A (NumV l) ∧ (∀ d ∈ l, d ≤ 255) ∧ valB l = foldK k x0 ∧ Below w.heap.size w wr) (fun _ i _ => 8 - (intOf i).toNat)
  case atStart => exact ⟨0, l0, A0, n0, c0, by omega, rfl, rfl, HN0.out, ⟨HM0.out, fun h => by omega, fun h => by omega⟩, HR0.out, HD0.out, XE.out, Below.refl _ _⟩
  case round =>
    obtain ⟨k, l, A, n, c, hk, rfl, rfl, hn, hm, hr, hd, hv, hb⟩ := hrel
    obtain ⟨wo, hwo⟩ : ∃ x : World, x = wr := ⟨_, rfl⟩
    rw [← hwo] at hr hb ⊢
    clear hwo wr
    have K := Lib.hid hk
    have N := Lib.hid hn
    have MK := Lib.hid hm
    have M := Lib.hid hm.1
    have R := Lib.hid hr
    have D := Lib.hid hd
    have V := Lib.hid hv
    have S := Lib.hid hb
    have nb : (n : Int) ≤ 60 := by omega
    clear hk hn hm hr hd hv hb
    by_cases hlt : k < 8
    · have hD : decide ((k : Int) < 8) = true := by simp; omega
      have K8 := Lib.hid hlt
      go_upto_block 2 with fail
      clear hD
      go_cut [4] (fun u wx => OwnV wx wo.heap.size 3 u (NumV (l.take 17)) ∧ Below wo.heap.size wo wx)
      case first =>
        go_wp2_with fail
        go_loopw [4, 6] (fun u i wq => ∃ j : Nat, j ≤ n ∧ j ≤ 17 ∧ i = .int .i64 (j : Int) ∧ OwnV wq wo.heap.size 3 u (NumV (l.take j)) ∧ Below wo.heap.size wo wq) (fun _ i _ => 17 - (intOf i).toNat)
        case atStart => exact ⟨0, by omega, by omega, rfl, OwnV.nil _ _ _, Below.refl _ _⟩
        case round =>
          obtain ⟨j, hj, hj17, rfl, ho, hb⟩ := hrel
          have J := Lib.hid (And.intro hj hj17)
          have O := Lib.hid ho
          have S2 := Lib.hid hb
          clear hj hj17 ho hb
          by_cases h17 : j < 17
          · have hE : decide ((j : Int) < 17) = true := by simp; omega
            by_cases hjn : j < n
            · have hF : decide ((j : Int) < (n : Int)) = true := by simp; omega
              have hF2 : decide (j < n) = true := by simp; omega
              have jb : (j : Int) < (n : Int) := by omega
              have J17 := Lib.hid h17
              obtain ⟨d, hd⟩ : ∃ d, d = l.getD j 0 := ⟨_, rfl⟩
              obtain ⟨b, o, rfl, hc⟩ := (R.out.keep S2.out) j _ (NumV_get l j (by rw [N.out]; exact hjn))
              rw [← hd] at hc
              have TE := Lib.hid (show NumV (l.take (j + 1)) = NumV (l.take j) ++ [.int .i64 (d : Int)] by
                rw [List.take_add_one, List.getElem?_eq_getElem (by rw [N.out]; exact hjn), hd, NumV_append]
                simp [NumV, List.getD_eq_getElem?_getD, N.out, hjn])
              clear hd h17
              go_wp2_with (refine appV_list rfl NT.out (.tmp 23) (.tmp 28) rfl wo.heap.size _ (NumV (l.take j)) [.int .i64 (d : Int)] (some ⟨wr.heap.size, 0, none⟩) 1 1 rfl rfl rfl (O.out.alloc _) (RdV.one (row_cell (fr := (0, 0)) (ha_new wr _ _ rfl) 0 rfl)) (by intro u hu; simp at hu; subst hu; rfl) ?c1 ?c2 ?c3 ?_)
              case c1 => have := S2.out.size; rw [ha_size]; omega
              case c2 => rw [NumV_length, List.length_take]; have := J17.out; omega
              case c3 => rw [NumV_length, List.length_take]; have := J17.out; omega
              intro v2 w2 ho hg _
              have B2 : Below wo.heap.size wo (wr.alloc (.cells #[.int .i64 (d : Int)] 3)) := S2.out.alloc S2.out.size _
              have S3 := Lib.hid (B2.trans (grown_below hg (by rw [ha_size]; have := S2.out.size; omega) (fun q e => (O.out.lt q e).1)))
              have O2 := Lib.hid (show OwnV w2 wo.heap.size 3 v2 (NumV (l.take (j + 1))) by rw [TE.out]; exact ho)
              clear ho hg B2 hE hF hF2 hc
              go_wp2_with fail
              go_roundw
              case rel => exact ⟨j + 1, by omega, by have := J17.out; omega, by go_num, O2.out, S3.out⟩
              case measure => have := J17.out; simp [intOf]; omega
            · have hF : decide ((j : Int) < (n : Int)) = false := by simp; omega
              have hF2 : decide (j < n) = false := by simp; omega
              have TE := Lib.hid (show l.take j = l.take 17 by rw [List.take_of_length_le (by rw [N.out]; omega), List.take_of_length_le (by rw [N.out]; omega)])
              go_wp2_with fail
              go_meet
              exact ⟨by rw [← TE.out]; exact O.out, S2.out⟩
          · have hE : decide ((j : Int) < 17) = false := by simp; omega
            have TE := Lib.hid (show j = 17 by have := J.out; omega)
            go_wp2_with fail
            go_meet
            exact ⟨by have := O.out; rwa [TE.out] at this, S2.out⟩
      case rest =>
      obtain ⟨ho, hb⟩ := hcut
      have O := Lib.hid ho
      have S2 := Lib.hid hb
      obtain ⟨A4, c4, hu, _⟩ := ho.read
      obtain ⟨q, hq⟩ : ∃ q, q = min n 17 := ⟨_, rfl⟩
      have QL := Lib.hid (show (NumV (l.take 17)).length = q by rw [NumV_length, List.length_take, N.out, hq]; omega)
      rw [QL.out] at hu
      rw [hu] at O ⊢
      have QE := Lib.hid hq
      have qb : (q : Int) ≤ 17 := by omega
      clear ho hb hu hq
      go_upto_if 32 with fail
      go_cut [4] (fun u wx => OwnV wx wo.heap.size 3 u (NumV (lowL l)) ∧ Below wo.heap.size wo wx)
      case first =>
        by_cases h17 : q = 17
        · obtain ⟨g, cap, cur, hv, hgb, hh, hnc, ht, hcm, hcs⟩ := O.out.block (by intro h; have := QL.out; rw [h] at this; simp at this; omega)
          rw [QL.out] at hv
          cases hv
          subst h17
          obtain ⟨d, hd⟩ : ∃ d, d = l.getD 16 0 := ⟨_, rfl⟩
          have DE := Lib.hid hd
          have N17 := Lib.hid (show 17 ≤ l.length by rw [N.out]; have := QE.out; omega)
          have hc : wc.cell? ⟨g, 16, none⟩ = some (.int .i64 (d : Int)) := by
            refine row_cell hh 16 ?_
            have h2 := NumV_get (l.take 17) 16 (by rw [List.length_take]; have := N17.out; omega)
            rw [← ht, QL.out, List.getElem?_take, if_pos (by omega)] at h2
            rw [← Array.getElem?_toList, h2, hd]
            simp [List.getD_eq_getElem?_getD, List.getElem?_take]
          have hf := row_free hh 16
          have db : (d : Int) ≤ 255 := by have := getD_le D.out 16; omega
          obtain ⟨d4, hd4⟩ : ∃ x, x = d % 4 := ⟨_, rfl⟩
          have OP := Lib.hid (OwnV.put hgb hh hnc ht hcm hcs 16 (.int .i64 (d4 : Int)))
          have GB := Lib.hid hgb
          have em : ((d : Int) % 4) = (d4 : Int) := by omega
          have E4 := Lib.hid hd4
          clear hd4
          rw [QL.out] at OP
          clear hd hh hnc ht hcm hcs hgb
          go_wp2_with fail
          go_meet
          refine ⟨?_, S2.out.trans (grown_below (grown_set (World.grownBy.refl _ (some g)) _ _) S2.out.size (by rintro x ⟨⟩; exact GB.out))⟩
          have := OP.out
          rw [lowL_17 l N17.out, ← DE.out, ← E4.out]
          have e3 : NumV ((l.take 17).set 16 d4) = (NumV (l.take 17)).set 16 (.int .i64 (d4 : Int)) := by simp [NumV, List.map_set]
          rw [e3]
          exact this
        · have hE : decide ((q : Int) = 17) = false := by simp; omega
          have hE2 : ((q : Int) == 17) = false := by simp; omega
          have LE := Lib.hid (show lowL l = l.take 17 from lowL_few l (by rw [N.out]; have := QE.out; omega))
          clear h17
          go_wp2_with fail
          go_meet
          exact ⟨by rw [LE.out]; exact O.out, S2.out⟩
      case rest =>
      obtain ⟨ho, hb⟩ := hcut
      obtain ⟨A4, c4, rfl, hr4, hl4, _, hb4⟩ := ho.read
      have QL := Lib.hid (show (NumV (lowL l)).length = q by rw [NumV_length, lowL_length, N.out, QE.out])
      rw [QL.out] at hl4 ⊢
      have RL := Lib.hid hr4
      have LB := Lib.hid hb4
      have SC := Lib.hid hb
      obtain ⟨wm, hwm⟩ : ∃ x : World, x = wc := ⟨_, rfl⟩
      rw [← hwm] at RL LB SC ⊢
      clear hwm hb ho hr4 hl4 hb4 O S2 wc
      obtain ⟨m, hm⟩ : ∃ m, m = n - 16 := ⟨_, rfl⟩
      have ME := Lib.hid hm
      clear hm
      go_upto_region 11 with fail
      go_wp2_with fail
      go_loopw [5, 7] (fun u i wq => ∃ j : Nat, j ≤ m ∧ i = .int .i64 ((16 + j : Nat) : Int) ∧ OwnV wq wm.heap.size 3 u (NumV (tabN (highF l) j)) ∧ Below wm.heap.size wm wq) (fun _ i _ => 100 - (intOf i).toNat)
      case atStart => exact ⟨0, by omega, rfl, OwnV.nil _ _ _, Below.refl _ _⟩
      case round =>
        obtain ⟨j, hj, rfl, ho, hb⟩ := hrel
        have J := Lib.hid hj
        have O := Lib.hid ho
        have S2 := Lib.hid hb
        obtain ⟨i, hi⟩ : ∃ i, i = 16 + j := ⟨_, rfl⟩
        rw [← hi]
        have IE := Lib.hid hi
        have ib : (i : Int) ≤ 100 := by have := ME.out; omega
        clear hj ho hb hi
        by_cases hin : i < n
        · have hF : decide ((i : Int) < (n : Int)) = true := by simp; omega
          have hF2 : decide (i < n) = true := by simp; omega
          obtain ⟨p, hp⟩ : ∃ p, p = l.getD i 0 := ⟨_, rfl⟩
          obtain ⟨r, hr⟩ : ∃ r, r = l.getD (i + 1) 0 := ⟨_, rfl⟩
          obtain ⟨h, hh⟩ : ∃ h, h = p / 4 + r % 4 * 64 := ⟨_, rfl⟩
          have HE := Lib.hid (show highF l j = h by rw [hh, hp, hr, IE.out]; rfl)
          have DA := Lib.hid (digit_any l A n c N.out i wr ((R.out.keep SC.out).keep S2.out))
          have DB := Lib.hid (digit_any l A n c N.out (i + 1) wr ((R.out.keep SC.out).keep S2.out))
          rw [← hp] at DA
          rw [← hr] at DB
          have pb : (p : Int) ≤ 255 := by have := getD_le D.out i; omega
          have rb : (r : Int) ≤ 255 := by have := getD_le D.out (i + 1); omega
          have eh : (p : Int) / 4 + (r : Int) % 4 * 64 = (h : Int) := by omega
          clear hp hr hh
          have HJ := Lib.hid (show j < m by have := ME.out; have := IE.out; omega)
          go_wp2_with fail
          refine DA.out.mono ?_
          rintro e w1 ⟨rfl, hw⟩
          rw [hw]
          clear hw w1
          go_wp2_with fail
          refine DB.out.mono ?_
          rintro e w1 ⟨rfl, hw⟩
          rw [hw]
          clear hw w1
          go_wp2_with (refine appV_list rfl NT.out (.tmp 45) (.tmp 57) rfl wm.heap.size _ (NumV (tabN (highF l) j)) [.int .i64 (h : Int)] (some ⟨wr.heap.size, 0, none⟩) 1 1 rfl rfl rfl (O.out.alloc _) (RdV.one (row_cell (fr := (0, 0)) (ha_new wr _ _ rfl) 0 rfl)) (by intro u hu; simp at hu; subst hu; rfl) ?c1 ?c2 ?c3 ?_)
          case c1 => have := S2.out.size; rw [ha_size]; omega
          case c2 => rw [NumV_length, tabN_length]; have := HJ.out; have := ME.out; omega
          case c3 => rw [NumV_length, tabN_length]; have := HJ.out; have := ME.out; omega
          intro v2 w2 ho hg _
          have B2 : Below wm.heap.size wm (wr.alloc (.cells #[.int .i64 (h : Int)] 3)) := S2.out.alloc S2.out.size _
          have S3 := Lib.hid (B2.trans (grown_below hg (by rw [ha_size]; have := S2.out.size; omega) (fun q e => (O.out.lt q e).1)))
          have O2 := Lib.hid (show OwnV w2 wm.heap.size 3 v2 (NumV (tabN (highF l) (j + 1))) by rw [tabN_succ, HE.out, NumV_append]; exact ho)
          clear ho hg B2 hF hF2 eh
          go_wp2_with fail
          go_roundw
          case rel => exact ⟨j + 1, by have := HJ.out; omega, by have := IE.out; go_num, O2.out, S3.out⟩
          case measure => simp [intOf]; omega
        · have hF : decide ((i : Int) < (n : Int)) = false := by simp; omega
          have hF2 : decide (i < n) = false := by simp; omega
          have JM := Lib.hid (show j = m by have := J.out; have := ME.out; have := IE.out; omega)
          obtain ⟨A5, c5, hu5, hr5, _, _, _⟩ := O.out.read
          have HLN := Lib.hid (show (NumV (tabN (highF l) j)).length = m by rw [NumV_length, tabN_length, JM.out])
          rw [HLN.out] at hu5
          rw [hu5]
          have R5 := Lib.hid (show RdV wr A5 (NumV (tabN (highF l) m)) by rw [JM.out] at hr5; exact hr5)
          clear hu5 hr5 O hin
          go_upto_region 15 with fail
          clear hF hF2
          go_wp2_with fail
          have RF := Lib.hid (RdV.row (w := wr.alloc (.cells #[.int .i64 5] 3)) (g := wr.heap.size) (l := NumV [5]) (t := 3) (fr := (0, 0)) (ha_new wr _ _ rfl))
          have B2 := Lib.hid (below_new2 wr (.cells #[.int .i64 5] 3))
          obtain ⟨hx, hhx⟩ : ∃ h, h = valB l / M130 := ⟨_, rfl⟩
          have HV := Lib.hid (show valB (tabN (highF l) m) = hx by rw [hhx]; exact high_val l m (by rw [N.out]; have := ME.out; omega) D.out)
          have LV := Lib.hid (show valB (lowL l) = valB l % M130 from lowL_val l D.out)
          have HX := Lib.hid hhx
          clear hhx
          refine (ntim_any (tabN (highF l) m) [5] (tabN_le (highF_le l D.out) m) (by decide) A5 m c5 (tabN_length _ _) (some ⟨wr.heap.size, 0, none⟩) 1 1 rfl (by have := ME.out; omega) (by omega) _ (R5.out.keep B2.out) RF.out).mono ?_
          rw [HV.out]
          rintro e w2 ⟨v, o, rfl, ho, hdg, hb⟩
          obtain ⟨A6, c6, rfl, hr6, _, _, _⟩ := ho.read
          rw [NumV_length]
          have R6 := Lib.hid hr6
          have T6 := Lib.hid hdg
          have B3 := Lib.hid (B2.out.trans (hb.mono (by rw [ha_size]; omega)))
          have RL2 := Lib.hid (((RL.out.keep S2.out).keep B3.out))
          clear ho hr6 hdg hb
          have X37 := Lib.hid (show valB l < 256 ^ 37 by rw [V.out]; exact Nat.lt_of_le_of_lt (foldK_le _ _) XB.out)
          have FM := Lib.hid (show valB (lowL l) + hx * valB [5] = foldK (k + 1) x0 by
            have e5 : valB [5] = 5 := rfl
            rw [LV.out, HX.out, e5, Nat.mul_comm, V.out]
            rfl)
          have OL := Lib.hid (show o.length ≤ max (m + 1) 37 by
            have := T6.out.few (by
              have h1 : hx * valB [5] ≤ foldK (k + 1) x0 := by rw [← FM.out]; omega
              have h2 := foldK_le (k + 1) x0
              have := XB.out
              omega)
            have e1 : ([5] : List Nat).length = 1 := rfl
            omega)
          have OL6 := Lib.hid (show o.length ≤ 60 by have := OL.out; have := ME.out; have := M.out; omega)
          go_wp2_with fail
          refine (nsum_any (lowL l) o (lowL_dig l D.out) T6.out.d255 A4 q c4 (by rw [← NumV_length]; exact QL.out) A6 o.length c6 rfl (by omega) (by have := OL6.out; omega) w2 RL2.out R6.out).mono ?_
          rw [T6.out.val, FM.out]
          rintro e w3 ⟨v, o3, rfl, ho, hdg, hb⟩
          obtain ⟨A7, c7, rfl, hr7, _, _, _⟩ := ho.read
          rw [NumV_length]
          have R7 := Lib.hid hr7
          have T7 := Lib.hid hdg
          have B4 := Lib.hid (SC.out.trans ((S2.out.mono SC.out.size).trans ((B3.out.mono (Nat.le_trans SC.out.size S2.out.size)).trans (hb.mono (Nat.le_trans SC.out.size (Nat.le_trans S2.out.size B3.out.size))))))
          have O3L := Lib.hid (show o3.length ≤ 60 ∧ (1 ≤ k + 1 → o3.length ≤ 45) ∧ (2 ≤ k + 1 → o3.length ≤ 37) by
            have := hdg.few (Nat.lt_of_le_of_lt (foldK_le _ _) XB.out)
            have := OL.out
            have := ME.out
            have := M.out
            have h45 := MK.out.2.1
            refine ⟨by omega, fun _ => by omega, fun h => ?_⟩
            have := h45 (by omega)
            omega)
          clear ho hr7 hdg hb
          go_wp2_with fail
          go_roundw
          case rel => exact ⟨k + 1, o3, A7, o3.length, c7, by have := K8.out; omega, by go_num, rfl, rfl, O3L.out, R7.out, T7.out.d255, T7.out.val, S.out.trans (B4.out.mono S.out.size)⟩
          case measure => have := K8.out; simp [intOf]; omega
    · have hD : decide ((k : Int) < 8) = false := by simp; omega
      have K8 := Lib.hid (show k = 8 by have := K.out; omega)
      have Y0 := Lib.hid (show valB l < M130 by rw [V.out, K8.out]; exact foldK_lt x0 XB.out)
      have Y1 := Lib.hid (show valB l % PN = x0 % PN by rw [V.out]; exact foldK_mod _ _)
      clear hlt
      go_wp2_with fail
      clear hD
      go_loopw [0, 8] (fun u i wq => ∃ (t : Nat) (o : List Nat) (A : Option Addr) (n c : Nat), t ≤ 1 ∧ i = .int .i64 (t : Int) ∧ u = .slice A n c ∧ o.length = n ∧ n ≤ 37 ∧ RdV wq A (NumV o) ∧ (∀ d ∈ o, d ≤ 255) ∧ valB o % PN = x0 % PN ∧ valB o < M130 ∧ (t = 1 → valB o < PN) ∧ Below w.heap.size w wq) (fun _ i _ => 2 - (intOf i).toNat)
      case atStart => exact ⟨0, l, A, n, c, by omega, rfl, rfl, N.out, MK.out.2.2 (by have := K8.out; omega), R.out, D.out, Y1.out, Y0.out, fun h => by omega, S.out⟩
      case round =>
        obtain ⟨t, o, A9, n9, c9, ht, rfl, rfl, hn, hm, hr, hd, hy1, hy0, ht1, hb⟩ := hrel
        have T := Lib.hid ht
        have N9 := Lib.hid hn
        have M9 := Lib.hid hm
        have R9 := Lib.hid hr
        have D9 := Lib.hid hd
        have P1 := Lib.hid hy1
        have P0 := Lib.hid hy0
        have T1 := Lib.hid ht1
        have S9 := Lib.hid hb
        have tb : (t : Int) ≤ 1 := by omega
        have hE : decide ((t : Int) < 2) = true := by simp; omega
        clear ht hn hm hr hd hy1 hy0 ht1 hb
        go_wp2_with fail
        refine (prime_any wr).mono ?_
        rintro e w1 ⟨v, rfl, ho, hb⟩
        obtain ⟨Ap, cp, rfl, hrp, _, _, _⟩ := ho.read
        have PL := Lib.hid (show (NumV primeL).length = 17 from rfl)
        rw [PL.out]
        have RP := Lib.hid hrp
        have R9 := Lib.hid (R9.out.keep hb)
        have S9 := Lib.hid (S9.out.trans (hb.mono S9.out.size))
        clear ho hrp hb
        go_wp2_with fail
        refine (below_any o primeL D9.out primeL_dig A9 n9 c9 N9.out Ap 17 cp rfl (by have := M9.out; omega) (by omega) w1 R9.out RP.out).mono ?_
        rw [primeL_val]
        by_cases hlt : valB o < PN
        · have hF := Lib.hid (show decide (valB o < PN) = true from decide_eq_true hlt)
          have FIN := Lib.hid (show valB o = x0 % PN by rw [← P1.out, Nat.mod_eq_of_lt hlt])
          clear hlt
          rw [hF.out]
          rintro e w2 ⟨rfl, hw⟩
          rw [hw]
          clear hw w2
          go_wp2_with fail
          go_ret
          exact ⟨A9, c9, n9, o, rfl, N9.out, M9.out, R9.out, D9.out, FIN.out, S9.out⟩
        · have hF := Lib.hid (show decide (valB o < PN) = false from decide_eq_false hlt)
          have GE := Lib.hid (show valB primeL ≤ valB o by rw [primeL_val]; omega)
          have T0 := Lib.hid (show t = 0 by have := T.out; by_cases h : t = 1; · exact absurd (T1.out h) hlt
                                            · omega)
          have NX := Lib.hid (show (valB o - PN) % PN = x0 % PN ∧ valB o - PN < PN by
            have h1 := P0.out
            have h2 := M130_PN
            have h3 : 5 < PN := by decide
            refine ⟨?_, by omega⟩
            rw [← P1.out, Nat.mod_eq_sub_mod (show valB o ≥ PN by omega)])
          clear hlt
          rw [hF.out]
          rintro e w2 ⟨rfl, hw⟩
          rw [hw]
          clear hw w2
          go_wp2_with fail
          refine (prime_any w1).mono ?_
          rintro e w3 ⟨v, rfl, ho, hb⟩
          obtain ⟨Ap, cp, rfl, hrp, _, _, _⟩ := ho.read
          rw [PL.out]
          have RP := Lib.hid hrp
          have R9 := Lib.hid (R9.out.keep hb)
          have S9 := Lib.hid (S9.out.trans (hb.mono S9.out.size))
          clear ho hrp hb
          go_wp2_with fail
          refine (less_any o primeL D9.out primeL_dig GE.out A9 n9 c9 N9.out Ap 17 cp rfl (by have := M9.out; omega) (by omega) w3 R9.out RP.out).mono ?_
          rw [primeL_val]
          rintro e w4 ⟨v, o2, rfl, ho, hl2, hd2, hv2, hb⟩
          obtain ⟨A2, c2, rfl, hr2, _, _, _⟩ := ho.read
          rw [NumV_length, hl2]
          have R2 := Lib.hid hr2
          have L2 := Lib.hid hl2
          have D2 := Lib.hid hd2
          have V2 := Lib.hid hv2
          have S9 := Lib.hid (S9.out.trans (hb.mono S9.out.size))
          clear ho hr2 hl2 hd2 hv2 hb hE
          go_wp2_with fail
          go_roundw
          case rel => exact ⟨1, o2, A2, n9, c2, by omega, by rw [T0.out]; go_num, rfl, L2.out, M9.out, R2.out, D2.out, by rw [V2.out]; exact NX.out.1, by rw [V2.out]; have := NX.out.2; have := M130_PN; omega, fun _ => by rw [V2.out]; exact NX.out.2, S9.out⟩
          case measure => have := T0.out; simp [intOf]; omega
end Go.Proofs.Ytdheopihcohciaa
