/- The reference's reader: texts. No condition but those each theorem states. -/
import Derived.Test.YtcmpiockcndejaaRefRdSz
namespace Go.Proofs.Ytcmpiockcndejaa
set_option linter.unusedVariables false
set_option linter.unusedSimpArgs false
open Go.RowKit
attribute [local go_sem ↓] Go.wp_at_zero Go.wp_at_succ

theorem sizedS_few (s : RSt) : (sizedS s).1.l.length ≤ s.l.length := by
  unfold sizedS
  split
  · simp
  · exact Nat.le_trans (takeS_few _ _) (numS_few _ _)
set_option maxRecDepth 100000 in
set_option maxHeartbeats 4000000 in
theorem rlist2_any (w : World) (s : RSt) (hl : s.l.length ≤ 100000) (most : Int) (hm : -9223372036854775808 ≤ most ∧ most ≤ 9223372036854775807) :
    Calls Try.prog 26 #[refV s, .int .i64 most] w fun e w' => ∃ v, e = .returned (.tuple #[refV (listS s most).1, v]) ∧ OwnV w' w.heap.size 9 v (StrV (listS s most).2) ∧ Below w.heap.size w w' := by
  have TS := Lib.hid (show SlT Try.prog 41 9 (.string (strB [])) 16 from ⟨Try.underlying41, by kernel_rfl, rfl⟩)
  have HL := Lib.hid hl
  obtain ⟨T, hT⟩ : ∃ T, T = numS s 2 := ⟨_, rfl⟩
  have TL := Lib.hid (show T.1.l.length ≤ 100000 by rw [hT]; exact Nat.le_trans (numS_few s 2) hl)
  have TB := Lib.hid (show T.2 ≤ 65535 by rw [hT]; have : (numS s 2).2 < 256 ^ 2 := numS_small s 2 (by omega); omega)
  have HE := Lib.hid (show headS s most = if T.1.e = 0 ∧ most < (T.2 : Int) then (⟨[], 3⟩, T.2) else T by rw [hT]; rfl)
  have N0 := Lib.hid (show T.1.e ≠ 0 → T.2 = 0 from fun h => by rw [hT] at h ⊢; exact numS_bad_val s 2 h)
  have TE := Lib.hid hT
  clear hl hT
  obtain ⟨F, hF⟩ : ∃ F, F = listS s most := ⟨_, rfl⟩
  rw [← hF]
  have FE := Lib.hid (show F = if (oftenS (headS s most).2 (headS s most).1 []).1.e = 0 then oftenS (headS s most).2 (headS s most).1 [] else ((oftenS (headS s most).2 (headS s most).1 []).1, []) by rw [hF]; rfl)
  clear hF
  rw [show refV s = .agg #[.string (strB s.l), .int .i64 (s.e : Int)] from rfl]
  go_enter Try.func26, Try.ntmps26
  go_wp2_with fail
  refine (rnum_any _ s HL.out 2 (by omega)).mono ?_
  rw [← TE.out]
  rintro e w1 ⟨rfl, hb⟩
  have R2 := Lib.hid (show RefB w1 (w.heap.size + 1) ⟨[], 0⟩ from below_block hb (by simp) (ha_new _ _ (w.heap.size + 1) (by simp)))
  have S := Lib.hid ((below2 w _ _).trans (hb.mono (by simp; omega)))
  have SZ := Lib.hid (show w.heap.size + 2 ≤ w1.heap.size by have := hb.size; simp at this; omega)
  clear hb TE
  obtain ⟨t, n⟩ := T
  simp only
  have TL := Lib.hid (show t.l.length ≤ 100000 from TL.out)
  have TB := Lib.hid (show n ≤ 65535 from TB.out)
  have nb : (n : Int) ≤ 65535 := by have := TB.out; omega
  have HE := Lib.hid (show headS s most = if t.e = 0 ∧ most < (n : Int) then (⟨[], 3⟩, n) else (t, n) from HE.out)
  have N0 := Lib.hid (show t.e ≠ 0 → n = 0 from N0.out)
  go_upto_region 2 with (first
    | (refine wpList_store_ref rfl rfl (.tmp 6) (.tmp 15) rfl w1.heap.size t rfl rfl ⟨[], 0⟩ (ha_new _ _ _ rfl) ?_; intro w2 hr hg hsz))
  obtain ⟨G, hG⟩ : ∃ G, G = w1.heap.size := ⟨_, rfl⟩
  rw [← hG] at hr hg ⊢
  have R2 := Lib.hid ((R2.out.keep (below_new _ _)).grown hg (by have := row_lt R2.out; rw [hG]; simp; omega))
  have RT := Lib.hid hr
  have S := Lib.hid (show Below w.heap.size w w2 from (S.out.trans ((below_new w1 _).mono S.out.size)).trans (grown_below hg (by have := S.out.size; simp; omega) (by rintro k ⟨⟩; have := S.out.size; omega)))
  have NG := Lib.hid (show w.heap.size + 1 < G by have := SZ.out; omega)
  have GW := Lib.hid (show G < w2.heap.size from row_lt hr)
  have c1 := hr.cell1
  clear hr hg hsz hG
  by_cases he : t.e = 0
  · have hE : ((t.e : Int) == 0) = true := by simp; omega
    have hE2 : ((t.e : Int) != 0) = false := by simp; omega
    have T0 := Lib.hid he
    clear he
    by_cases h6 : most < (n : Int)
    · have hD : decide (most < (n : Int)) = true := by simp; omega
      have FV := Lib.hid (show F = (⟨[], 3⟩, []) by
        have hh : headS s most = (⟨[], 3⟩, n) := by rw [HE.out, if_pos ⟨T0.out, h6⟩]
        rw [FE.out, hh]
        simp only
        rw [oftenS_bad n ⟨[], 3⟩ [] (by simp)]
        simp)
      go_wp2_with (refine wpList_load_ref rfl (.tmp 6) rfl G rfl t RT.out ?_)
      refine (rwrong_any _ t 3).mono ?_
      rintro e w3 ⟨rfl, hb⟩
      have R2 := Lib.hid (R2.out.keep hb)
      have S := Lib.hid (S.out.trans (hb.mono S.out.size))
      clear hb
      go_wp2_with (refine wpList_store_ref rfl rfl (.tmp 4) (.tmp 26) rfl (w.heap.size + 1) ⟨[], 3⟩ rfl rfl _ R2.out ?_; intro w4 hr hg hsz)
      refine ret_ref (w.heap.size + 1) ⟨[], 3⟩ _ rfl rfl rfl rfl hr ⟨_, by rw [FV.out], by rw [FV.out]; exact OwnV.nil _ _ _, S.out.trans (grown_below hg S.out.size (by rintro k ⟨⟩; omega))⟩
    · have hD : decide (most < (n : Int)) = false := by simp; omega
      have FV := Lib.hid (show F = if (oftenS n t []).1.e = 0 then oftenS n t [] else ((oftenS n t []).1, []) by
        have hh : headS s most = (t, n) := by rw [HE.out, if_neg (fun h => h6 h.2)]
        rw [FE.out, hh])
      clear h6
      go_wp2_with fail
      go_loopw [8, 9] (fun v i wr => ∃ (j : Nat) (cur : RSt) (acc : List (List UInt8)), j ≤ n ∧ i = .int .i64 (j : Int) ∧ acc.length = j ∧ cur.e = 0 ∧ cur.l.length ≤ 100000 ∧ oftenS n t [] = oftenS (n - j) cur acc ∧ RefB wr G cur ∧ RefB wr (w.heap.size + 1) ⟨[], 0⟩ ∧ OwnV wr w2.heap.size 9 v (StrV acc) ∧ Below w.heap.size w wr ∧ w2.heap.size ≤ wr.heap.size) (fun _ i _ => n - (intOf i).toNat)
      case atStart => exact ⟨0, t, [], by omega, rfl, rfl, T0.out, TL.out, rfl, RT.out, R2.out, OwnV.nil _ _ _, S.out, Nat.le_refl _⟩
      case round =>
        obtain ⟨j, cur, acc, hj, rfl, hacc, hce, hcl, hof, hrc, hr2, ho, hbel, hsz⟩ := hrel
        have J := Lib.hid hj
        have AC := Lib.hid hacc
        have CE := Lib.hid hce
        have CL := Lib.hid hcl
        have OF := Lib.hid hof
        have RC := Lib.hid hrc
        have R2 := Lib.hid hr2
        have O := Lib.hid ho
        have S := Lib.hid hbel
        have Z2 := Lib.hid hsz
        have jb : (j : Int) ≤ 65535 := by omega
        clear hacc hce hcl hof hrc hr2 ho hbel hsz c1 hE hE2 hD
        by_cases hlt : j < n
        · have hD : decide ((j : Int) < (n : Int)) = true := by simp; omega
          go_upto_region 11 with (refine wpList_load_ref rfl (.tmp 6) rfl G rfl cur RC.out ?_)
          refine (rsz2_any _ cur CL.out).mono ?_
          obtain ⟨z, hz⟩ : ∃ z, z = sizedS cur := ⟨_, rfl⟩
          rw [← hz]
          have ZL := Lib.hid (show z.1.l.length ≤ 100000 by rw [hz]; exact Nat.le_trans (sizedS_few cur) CL.out)
          have OF := Lib.hid (show oftenS n t [] = oftenS (n - (j + 1)) z.1 (acc ++ [z.2]) by rw [OF.out, show n - j = (n - (j + 1)) + 1 by omega, oftenS, if_pos CE.out, hz])
          clear hz
          rintro e w3 ⟨rfl, hb⟩
          have RC := Lib.hid (RC.out.keep hb)
          have R2 := Lib.hid (R2.out.keep hb)
          have O := Lib.hid (O.out.below hb)
          have S := Lib.hid (S.out.trans (hb.mono S.out.size))
          have Z2 := Lib.hid (Nat.le_trans Z2.out hb.size)
          clear hb
          obtain ⟨y, x⟩ := z
          simp only
          have ZL := Lib.hid (show y.l.length ≤ 100000 from ZL.out)
          have OF := Lib.hid (show oftenS n t [] = oftenS (n - (j + 1)) y (acc ++ [x]) from OF.out)
          go_upto_region 11 with (refine wpList_store_ref rfl rfl (.tmp 10) (.tmp 36) rfl w3.heap.size y rfl rfl ⟨[], 0⟩ (ha_new _ _ _ rfl) ?_; intro w4 hr hg hsz)
          obtain ⟨G2, hG⟩ : ∃ G2, G2 = w3.heap.size := ⟨_, rfl⟩
          rw [← hG] at hr hg ⊢
          have hgb := (below_new w3 (.cells #[.string ⟨#[]⟩, .int .i64 0] 46)).trans (grown_below hg (by simp) (by rintro k ⟨⟩; omega))
          have RY := Lib.hid hr
          have RC := Lib.hid (RC.out.keep hgb)
          have R2 := Lib.hid (R2.out.keep hgb)
          have O := Lib.hid (O.out.below hgb)
          have S := Lib.hid (S.out.trans (hgb.mono S.out.size))
          have Z2 := Lib.hid (Nat.le_trans Z2.out hgb.size)
          have c1 := hr.cell1
          clear hr hg hsz hG hgb
          by_cases he : y.e = 0
          · have hE : ((y.e : Int) == 0) = true := by simp; omega
            have hE2 : ((y.e : Int) != 0) = false := by simp; omega
            have Y0 := Lib.hid he
            clear he
            go_upto_region 14 with (first
              | (refine wpList_load_ref rfl (.tmp 10) rfl G2 rfl y RY.out ?_)
              | (refine wpList_store_ref rfl rfl (.tmp 6) (.tmp 42) rfl G y rfl rfl _ RC.out ?_; intro w5 hr hg hsz))
            have RC := Lib.hid hr
            have R2 := Lib.hid (R2.out.grown hg (by have := NG.out; simp; omega))
            have O := Lib.hid (O.out.grown hg (by
              rcases hq : u8.ownBlock with _ | k
              · exact .inl rfl
              · exact .inr (fun e => by injection e with e; have := (O.out.lt k hq).1; have := GW.out; omega)))
            have S := Lib.hid (S.out.trans (grown_below hg S.out.size (by rintro k ⟨⟩; have := NG.out; omega)))
            have Z2 := Lib.hid (show w2.heap.size ≤ w5.heap.size by rw [hsz]; exact Z2.out)
            clear hr hg hsz c1 hE hE2
            have LT := Lib.hid (fun k (e : u8.ownBlock = some k) => O.out.lt k e)
            have AL := Lib.hid (show (StrV acc).length ≤ 65535 by rw [StrV_length, AC.out]; omega)
            go_wp2_with (refine appV_list rfl TS.out (.tmp 43) (.tmp 45) rfl w2.heap.size u8 (StrV acc) [.string (strB x)] (some ⟨w5.heap.size, 0, none⟩) 1 1 rfl rfl rfl (O.out.alloc _) (RdV.one (row_cell (fr := (0, 0)) (ha_new _ _ _ rfl) 0 rfl)) (by intro u hu; simp at hu; subst hu; rfl) ?e1 ?e2 ?e3 ?_)
            case e1 => have := Z2.out; simp; omega
            case e2 => have := AL.out; omega
            case e3 => have := AL.out; omega
            intro v3 w6 ho hg _
            have RC := Lib.hid ((RC.out.keep (below_new w5 _)).grown hg (fun e => by have := (LT.out G e.symm).1; have := GW.out; omega))
            have R2 := Lib.hid ((R2.out.keep (below_new w5 _)).grown hg (fun e => by have := (LT.out (w.heap.size + 1) e.symm).1; have := GW.out; have := NG.out; omega))
            have S := Lib.hid ((S.out.trans ((below_new w5 _).mono S.out.size)).trans (grown_below hg (by have := S.out.size; simp; omega) (fun k e => by have := (LT.out k e).1; have := GW.out; have := NG.out; omega)))
            have Z2 := Lib.hid (show w2.heap.size ≤ w6.heap.size by have := hg.size; simp at this; have := Z2.out; omega)
            have O := Lib.hid (show OwnV w6 w2.heap.size 9 v3 (StrV (acc ++ [x])) by rw [StrV_append]; exact ho)
            clear ho hg
            go_wp2_with fail
            go_roundw
            case rel => exact ⟨j + 1, y, acc ++ [x], by omega, by go_num, by rw [List.length_append, AC.out]; rfl, Y0.out, ZL.out, OF.out, RC.out, R2.out, O.out, S.out, Z2.out⟩
            case measure => simp [intOf]; omega
          · have hE : ((y.e : Int) == 0) = false := by simp; omega
            have hE2 : ((y.e : Int) != 0) = true := by simp; omega
            have FV := Lib.hid (show F = (y, []) by rw [FV.out, OF.out, oftenS_bad _ _ _ he, if_neg he])
            clear he
            go_wp2_with (first
              | (refine wpList_load_ref rfl (.tmp 10) rfl G2 rfl y RY.out ?_)
              | (refine wpList_store_ref rfl rfl (.tmp 4) (.tmp 41) rfl (w.heap.size + 1) y rfl rfl _ R2.out ?_; intro w5 hr hg hsz))
            refine ret_ref (w.heap.size + 1) y _ rfl rfl rfl rfl hr ⟨_, by rw [FV.out], by rw [FV.out]; exact OwnV.nil _ _ _, S.out.trans (grown_below hg S.out.size (by rintro k ⟨⟩; omega))⟩
        · have hD : decide ((j : Int) < (n : Int)) = false := by simp; omega
          have FV := Lib.hid (show F = (cur, acc) by rw [FV.out, OF.out, show n - j = 0 by omega, oftenS, if_pos CE.out])
          go_wp2_with (first
            | (refine wpList_load_ref rfl (.tmp 6) rfl G rfl cur RC.out ?_)
            | (refine wpList_store_ref rfl rfl (.tmp 4) (.tmp 47) rfl (w.heap.size + 1) cur rfl rfl _ R2.out ?_; intro w5 hr hg hsz))
          refine ret_ref (w.heap.size + 1) cur _ rfl rfl rfl rfl hr ⟨_, by rw [FV.out], ?_, S.out.trans (grown_below hg S.out.size (by rintro k ⟨⟩; omega))⟩
          rw [FV.out]
          exact (O.out.grown hg (by
            rcases hq : u8.ownBlock with _ | k
            · exact .inl rfl
            · exact .inr (fun e => by injection e with e; have := (O.out.lt k hq).1; have := GW.out; have := NG.out; omega))).mono (by have := GW.out; have := NG.out; omega)
  · have hE : ((t.e : Int) == 0) = false := by simp; omega
    have hE2 : ((t.e : Int) != 0) = true := by simp; omega
    have FV := Lib.hid (show F = (t, []) by
      have h0 := N0.out he
      have hh : headS s most = (t, n) := by rw [HE.out, if_neg (fun h => he h.1)]
      rw [FE.out, hh]
      simp only
      rw [h0, oftenS, if_neg he])
    clear he
    go_wp2_with (first
      | (refine wpList_load_ref rfl (.tmp 6) rfl G rfl t RT.out ?_)
      | (refine wpList_store_ref rfl rfl (.tmp 4) (.tmp 20) rfl (w.heap.size + 1) t rfl rfl _ R2.out ?_; intro w3 hr hg hsz))
    refine ret_ref (w.heap.size + 1) t _ rfl rfl rfl rfl hr ⟨_, by rw [FV.out], by rw [FV.out]; exact OwnV.nil _ _ _, S.out.trans (grown_below hg S.out.size (by rintro k ⟨⟩; omega))⟩
end Go.Proofs.Ytcmpiockcndejaa
