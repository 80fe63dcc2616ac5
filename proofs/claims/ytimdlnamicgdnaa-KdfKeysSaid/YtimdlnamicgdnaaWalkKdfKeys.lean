/- The law KdfKeys, walked. -/
import Derived.Test.YtimdlnamicgdnaaWalkKdfMacs
import Derived.Deep.CutBlock
namespace Go.Proofs.Ytimdlnamicgdnaa
set_option linter.unusedVariables false
set_option linter.unusedSimpArgs false
open Go.RowKit
attribute [local go_sem ↓] Go.wp_at_zero Go.wp_at_succ

theorem keyK_hash (key : List UInt8) (h : 64 < key.length) : keyK (hashL key) = keyK key := by
  rw [keyK, if_neg (by rw [hashL_length]; omega), keyK, if_pos h]
theorem macL_hash (key l : List UInt8) (h : 64 < key.length) : macL (hashL key) l = macL key l := by rw [macL, keyK_hash key h, macL]
theorem macL_zero (key l : List UInt8) (h : key.length < 64) : macL (key ++ [0]) l = macL key l := by
  have e1 : keyK (key ++ [0]) = key ++ [0] := by rw [keyK, if_neg (by simp; omega)]
  have e2 : keyK key = key := by rw [keyK, if_neg (by omega)]
  have e3 : padK (key ++ [0]) = padK key := by
    unfold padK
    rw [List.length_append, List.length_singleton, List.append_assoc]
    congr 1
    rw [show 64 - key.length = (64 - (key.length + 1)) + 1 by omega, List.replicate_succ]
    rfl
  rw [macL, e1, e3, macL, e2]
set_option maxRecDepth 100000 in
set_option maxHeartbeats 8000000 in
theorem kdfKeys_walk (w : World) (A0 : Option Addr) (c0 : Nat) (l0 : List UInt8) (R0 : RdB w A0 l0) (n0 : l0.length ≤ c0) (m0 : c0 ≤ 9223372036854775807) (b0 : ∀ a, A0 = some a → a.block < w.heap.size) (z0 : l0.length ≤ 140737488351232)
    (A : Option Addr) (c : Nat) (vs : List Value) (ls : List (List UInt8)) (hR : RdV w A vs) (hc : vs.length ≤ c) (hcm : c ≤ 9223372036854775807) (hall : All2 (SlB w) vs ls) (hlen : ls.length = vs.length) (hmx : ∀ l ∈ ls, l.length ≤ 9223372036854775807) (hz : vs.length ≤ 140737488351232) :
    Calls Try.prog 4 #[.slice A0 l0.length c0, .slice A vs.length c] w fun e w' => e = .returned (.bool true) ∧ Below w.heap.size w w' := by
  obtain ⟨i0, hi, hz0, hz1, hz2⟩ := info_parts (show (Try.prog.info? 5).map (fun i => (i.zero, i.size, i.bytes)) = some (some (.int .u8 0), 1, 1) by kernel_rfl)
  have I0 := Lib.hid hi
  obtain ⟨n, hn⟩ : ∃ n, n = vs.length := ⟨_, rfl⟩
  rw [← hn] at hc hlen hz ⊢
  have HR := Lib.hid hR
  have HA := Lib.hid hall
  have NL := Lib.hid hlen
  have TB := Lib.hid (show ByteT Try.prog from ⟨Try.underlying22, by kernel_rfl⟩)
  have TV := Lib.hid (show SlT Try.prog 29 22 (.slice none 0 0) 24 from ⟨Try.underlying29, by kernel_rfl, rfl⟩)
  have G0 := Lib.hid n0
  have H0 := Lib.hid (R0.take 200)
  have nb : (n : Int) ≤ 140737488351232 := by omega
  clear hi hz0 hz1 hz2 n0 m0 R0 b0 hn hR hc hcm hall hlen hmx
  go_enter Try.func4, Try.ntmps4
  go_wp2_with fail
  refine (ktext_any _ A0 _ c0 l0 rfl G0.out 200 (by omega)).mono ?_
  obtain ⟨key, hkey⟩ : ∃ x, x = l0.take 200 := ⟨_, rfl⟩
  obtain ⟨k, hk⟩ : ∃ k, k = key.length := ⟨_, rfl⟩
  rw [← hkey, ← hk]
  rw [← hkey] at H0
  have KL := Lib.hid hk.symm
  have K0 := Lib.hid (show k ≤ 200 ∧ k ≤ c0 by have := G0.out; rw [hk, hkey, List.length_take]; omega)
  rintro e w ⟨rfl, rfl⟩
  clear hkey hk G0
  go_upto_block 0 with fail
  go_cut [5, 6] (fun u v wr => ∃ (j : Nat) (vs' : List Value), j ≤ 8 ∧ OwnV wr w.heap.size 22 v vs' ∧ All2 (SlB w) vs' (cutsL 200 ls j) ∧ OwnB wr w.heap.size u (cutsL 200 ls j).flatten ∧ Below w.heap.size w wr)
  case first =>
    go_wp2_with fail
    go_loopw [5, 6, 7] (fun u v i wr => ∃ (j : Nat) (vs' : List Value), j ≤ n ∧ j ≤ 8 ∧ i = .int .i64 (j : Int) ∧ OwnV wr w.heap.size 22 v vs' ∧ All2 (SlB w) vs' (cutsL 200 ls j) ∧ OwnB wr w.heap.size u (cutsL 200 ls j).flatten ∧ (∀ g, u.ownBlock = some g → v.ownBlock ≠ some g) ∧ Below w.heap.size w wr) (fun _ _ i _ => 8 - (intOf i).toNat)
    case atStart => exact ⟨0, [], by omega, by omega, rfl, OwnV.nil _ _ _, .nil, OwnB.nil _ _, by simp [Value.ownBlock], Below.refl _ _⟩
    case round =>
      obtain ⟨j, vs', hj, hj8, rfl, hov, hall', hob, hne, hbel⟩ := hrel
      have J := Lib.hid (And.intro hj hj8)
      have OV := Lib.hid hov
      have AV := Lib.hid hall'
      have OB := Lib.hid hob
      have NE := Lib.hid hne
      have S := Lib.hid hbel
      have VL := Lib.hid (show vs'.length ≤ 8 by rw [hall'.length, cutsL, List.length_map, List.length_take]; omega)
      have FL := Lib.hid (show (cutsL 200 ls j).flatten.length ≤ 1600 by have := cutsL_flat 200 ls j; omega)
      clear hj hj8 hov hall' hob hne hbel
      by_cases hlt : j < n
      · have hD : decide ((j : Int) < (n : Int)) = true := by simp; omega
        by_cases hlt2 : j < 8
        · have hD2 : decide ((j : Int) < 8) = true := by simp; omega
          obtain ⟨l, hl⟩ : ∃ l, ls[j]? = some l := ⟨_, List.getElem?_eq_getElem (by rw [NL.out]; exact hlt)⟩
          obtain ⟨v, hv, A', c', rfl, hc', hR'⟩ := HA.out.get j l hl
          have HV := Lib.hid hv
          obtain ⟨b, o, rfl, hcell⟩ := (HR.out.keep S.out) j _ hv
          obtain ⟨m, hm⟩ : ∃ m, m = l.length := ⟨_, rfl⟩
          rw [← hm] at hcell hc' HV
          have LE := Lib.hid hm.symm
          have R1 := Lib.hid hR'
          have C1 := Lib.hid hc'
          have CS := Lib.hid (cutsL_succ 200 ls j l hl)
          obtain ⟨x, hx⟩ : ∃ x, x = l.take 200 := ⟨_, rfl⟩
          obtain ⟨q, hq⟩ : ∃ q, q = x.length := ⟨_, rfl⟩
          have XE := Lib.hid hx
          have QE := Lib.hid hq.symm
          have QB := Lib.hid (show q ≤ 200 ∧ q ≤ c' by rw [hq, hx, List.length_take]; omega)
          have RX := Lib.hid (show RdB w A' x by rw [hx]; exact hR'.take _)
          rw [← hx] at CS
          clear hl hv hc' hR' hm hx hq
          go_wp2_with fail
          refine (ktext_any _ A' m c' l LE.out C1.out 200 (by omega)).mono ?_
          rw [← XE.out, QE.out]
          rintro e w1 ⟨rfl, hw1⟩
          rw [hw1]
          clear hw1 w1
          go_wp2_with (refine appV_list rfl TV.out (.tmp 22) (.tmp 28) rfl w.heap.size u6 vs' [.slice A' q c'] (some ⟨wr.heap.size, 0, none⟩) 1 1 rfl rfl rfl (OV.out.alloc _) (RdV.one (row_cell (fr := (0, 0)) (ha_new _ _ _ rfl) 0 rfl)) (by intro u hu; simp at hu; subst hu; rfl) ?d1 ?d2 ?d3 ?_)
          case d1 => have := S.out.size; simp; omega
          case d2 => have := VL.out; omega
          case d3 => have := VL.out; omega
          intro v1 w2 ho hg hat
          have B2 := Lib.hid (show Below w.heap.size w (wr.alloc (.cells #[.slice A' q c'] 22)) from S.out.alloc S.out.size _)
          have OB2 := Lib.hid ((OB.out.alloc (.cells #[.slice A' q c'] 22)).grown hg (by
            rcases hq : u5.ownBlock with _ | g
            · exact .inl rfl
            · exact .inr (fun h => NE.out g hq h.symm)))
          have S := Lib.hid (B2.out.trans (grown_below hg B2.out.size (fun g e => (OV.out.lt g e).1)))
          have NE := Lib.hid (show ∀ g, u5.ownBlock = some g → v1.ownBlock ≠ some g by
            intro g hg' he
            rcases hat with h | h
            · exact NE.out g hg' (h ▸ he)
            · rw [h] at he
              injection he with he
              have := (OB.out.lt g hg').2
              try simp at he
              omega)
          have OV2 := Lib.hid ho
          have AV2 := Lib.hid (show All2 (SlB w) (vs' ++ [.slice A' q c']) (cutsL 200 ls (j + 1)) by rw [CS.out]; exact AV.out.snoc ⟨A', c', by rw [QE.out], by rw [QE.out]; exact QB.out.2, RX.out⟩)
          obtain ⟨b', o', e', hcell'⟩ := (HR.out.keep S.out) j _ HV.out
          injection e' with e'
          injection e' with e1 e2
          subst e1 e2
          clear ho hg hat OV AV OB B2 hcell
          go_wp2_with fail
          refine (ktext_any _ A' m c' l LE.out C1.out 200 (by omega)).mono ?_
          rw [← XE.out, QE.out]
          rintro e w1 ⟨rfl, hw1⟩
          rw [hw1]
          clear hw1 w1
          go_wp2_with (refine app_list rfl TB.out (.tmp 30) (.tmp 35) rfl w.heap.size u5 _ x A' q c' rfl rfl QE.out OB2.out (RX.out.keep S.out) S.out.size (by have := FL.out; have := QB.out.1; omega) ?_)
          intro v3 w3 ho hg hat
          have OV3 := Lib.hid (OV2.out.grown hg (by
            rcases hq : v1.ownBlock with _ | g
            · exact .inl rfl
            · exact .inr (fun h => NE.out g h.symm hq)))
          have NE := Lib.hid (show ∀ g, v3.ownBlock = some g → v1.ownBlock ≠ some g by
            intro g hg' he
            rcases hat with h | h
            · exact NE.out g (h ▸ hg') he
            · rw [h] at hg'
              injection hg' with hg'
              have := (OV2.out.lt g he).2
              omega)
          have S := Lib.hid (below_own S.out OB2.out hg)
          have OB3 := Lib.hid (show OwnB w3 w.heap.size v3 (cutsL 200 ls (j + 1)).flatten by rw [CS.out, List.flatten_append]; simpa using ho)
          clear ho hg hat OV2 OB2 hcell'
          go_wp2_with fail
          go_roundw
          case rel => exact ⟨j + 1, _, by omega, by omega, by go_num, OV3.out, AV2.out, OB3.out, NE.out, S.out⟩
          case measure => simp [intOf]; omega
        · have hD2 : decide ((j : Int) < 8) = false := by simp; omega
          go_wp2_with fail
          go_meet
          exact ⟨j, vs', J.out.2, OV.out, AV.out, OB.out, S.out⟩
      · have hD : decide ((j : Int) < (n : Int)) = false := by simp; omega
        go_wp2_with fail
        go_meet
        exact ⟨j, vs', J.out.2, OV.out, AV.out, OB.out, S.out⟩
  case rest =>
  obtain ⟨j, vs', hj8, hov, hall', hob, hbel⟩ := hcut
  obtain ⟨wr, hwr⟩ : ∃ wr : World, wr = wc := ⟨_, rfl⟩
  rw [← hwr] at hov hob hbel ⊢
  clear hwr wc
  have OV := Lib.hid hov
  have AV := Lib.hid hall'
  have OB := Lib.hid hob
  have S := Lib.hid hbel
  have VL := Lib.hid (show vs'.length ≤ 8 by rw [hall'.length, cutsL, List.length_map, List.length_take]; omega)
  have FL := Lib.hid (show (cutsL 200 ls j).flatten.length ≤ 1600 by have := cutsL_flat 200 ls j; omega)
  clear hj8 hov hall' hob hbel
  obtain ⟨al, hal⟩ : ∃ al, al = (cutsL 200 ls j).flatten := ⟨_, rfl⟩
  obtain ⟨Aa, ca, rfl, hr, hl, _, _⟩ := OB.out.read
  rw [← hal] at hr hl FL ⊢
  obtain ⟨a, ha⟩ : ∃ a, a = al.length := ⟨_, rfl⟩
  rw [← ha] at hl FL ⊢
  have AE := Lib.hid hal
  have AL := Lib.hid ha.symm
  have AC := Lib.hid hl
  obtain ⟨Ap, cp, rfl, hr2, hl2, _, _⟩ := OV.out.read
  obtain ⟨p, hp⟩ : ∃ p, p = vs'.length := ⟨_, rfl⟩
  rw [← hp] at hl2 ⊢
  have PL := Lib.hid hp.symm
  have P8 := Lib.hid (show p ≤ 8 by rw [hp]; exact VL.out)
  obtain ⟨wb, hwb⟩ : ∃ wb : World, wb = wr := ⟨_, rfl⟩
  have RA := Lib.hid (show RdB wb Aa al by rw [hwb]; exact hr)
  have RP := Lib.hid (show RdV wb Ap vs' by rw [hwb]; exact hr2)
  have S := Lib.hid (show Below w.heap.size w wb by rw [hwb]; exact S.out)
  rw [← hwb]
  clear hal ha hr hl hp hr2 hl2 hwb OB OV VL
  go_wp2_with fail
  generalize hB : Array.size (World.heap wb) = NB
  generalize hw : World.alloc wb _ = w2
  obtain ⟨hv, hb⟩ := built_rows hw hB
  have V := Lib.hid hv
  have SB := Lib.hid hb
  have S := Lib.hid (S.out.trans (hb.mono S.out.size))
  clear hB hw hv hb
  refine (mac_any _ A0 k c0 key KL.out K0.out.2 (H0.out.keep S.out) (by have := K0.out.1; omega) (some ⟨NB, 0, none⟩) 1 1 _ [al] rfl V.out (.cons ⟨Aa, ca, by rw [AL.out], by rw [AL.out]; exact AC.out, RA.out.keep SB.out⟩ .nil) (by have := FL.out; simp [AL.out]; omega) (by omega)).mono ?_
  rw [show [al].flatten = al by simp]
  obtain ⟨X, hX⟩ : ∃ X, X = macL key al := ⟨_, rfl⟩
  rw [← hX]
  have XE := Lib.hid hX
  have XL := Lib.hid (show X.length = 32 by rw [hX, macL_length])
  have ZX := Lib.hid (show (Try.prog.info? 24).map (·.size) = some (W8 X).size by rw [W8_size, XL.out]; kernel_rfl)
  rintro e w3 ⟨rfl, hb⟩
  have S := Lib.hid (S.out.trans (hb.mono S.out.size))
  have SB := Lib.hid (SB.out.trans (hb.mono SB.out.size))
  clear hX hb V
  go_upto_region 10 with (refine wpList_store_new rfl rfl 24 (.tmp 8) (.tmp 40) rfl (W8 X) rfl rfl ZX.out ?c1 (W8_one _) ?_)
  case c1 => rw [W8_size, XL.out]; rfl
  generalize hM : Array.size (World.heap w3) = M
  generalize hw : World.alloc w3 _ = w4
  have S := Lib.hid (show OneB w 24 M X w4.drew from ⟨(by rw [← hw]; exact S.out.alloc S.out.size _ : Below w.heap.size w w4).drew, by rw [← hw]; exact ha_new _ _ _ hM.symm⟩)
  have SB := Lib.hid (show Below wb.heap.size wb w4.drew from (by rw [← hw]; exact SB.out.alloc SB.out.size _ : Below wb.heap.size wb w4).drew)
  clear hM hw
  refine wp_region_road (OneB w 24 M X) [(true, 0), (true, 1), (true, 3), (false, 2), (true, 4)] (by kernel_rfl) (by kernel_rfl) (fun _ _ d _ _ h => by cases d <;> exact h) ?_
  simp only [List.filterMap_cons, List.filterMap_nil, List.getElem?_toArray, List.getElem?_cons_zero, List.getElem?_cons_succ, Option.map_some]
  refine planG_q (v := ?_) (by rfl) (S.out) ?_ ?_
  rotate_left
  · intro W hW
    go_simp
    with_reducible rfl
  simp only [Act.put, List.setIfInBounds_toArray, List.set_cons_zero, List.set_cons_succ]
  refine planG_q (v := ?_) (by rfl) (S.out) ?_ ?_
  rotate_left
  · intro W hW
    go_simp
    with_reducible rfl
  simp only [Act.put, List.setIfInBounds_toArray, List.set_cons_zero, List.set_cons_succ]
  refine planG_q (by rfl) (S.out) (fun W hW => run_load_row 24 (.tmp 8) rfl M rfl 24 (W8 X) (0, 0) _ hW.b Try.underlying24 rfl ZX.out) ?_
  simp only [Act.put, List.setIfInBounds_toArray, List.set_cons_zero, List.set_cons_succ]
  refine planG_t (by rfl) (fun K hK => ?_)
  go_simp
  refine (mac_any _ A0 k c0 key KL.out K0.out.2 (H0.out.keep S.out.bel) (by have := K0.out.1; omega) Ap p cp vs' (cutsL 200 ls j) PL.out (RP.out.keep SB.out) (AV.out.mono fun v l h => h.keep S.out.bel) (by rw [← AE.out]; have := FL.out; have := AL.out; omega) (by have := P8.out; omega)).mono ?_
  rw [← AE.out, ← XE.out]
  rintro e w5 ⟨rfl, hb⟩
  have S := Lib.hid (S.out.keep hb)
  have SB := Lib.hid (SB.out.trans (hb.mono SB.out.size))
  clear hb
  refine hK.out _ _ (S.out) ?_
  clear hK K
  refine planG_q (by rfl) (S.out) (fun W hW => run_neq_arr_false 24 _ (.tmp 43) (.tmp 44) rfl 5 32 Try.underlying24 Try.underlying5 (by kernel_rfl) (by kernel_rfl) X X XL.out rfl rfl rfl W) ?_
  simp only [Act.put, List.setIfInBounds_toArray, List.set_cons_zero, List.set_cons_succ]
  refine planG_nil ?_
  by_cases h64 : 64 < k
  · have hD : decide ((64 : Int) < (k : Int)) = true := by simp; omega
    go_wp2_with fail
    refine (shaSum_any _ A0 k c0 key KL.out K0.out.2 (H0.out.keep S.out.bel) (by have := K0.out.1; omega)).mono ?_
    obtain ⟨Y, hY⟩ : ∃ Y, Y = hashL key := ⟨_, rfl⟩
    rw [← hY]
    have YE := Lib.hid (show macL Y al = X by rw [hY, macL_hash key al (by rw [KL.out]; exact h64), XE.out])
    have YL := Lib.hid (show Y.length = 32 by rw [hY, hashL_length])
    have ZY := Lib.hid (show (Try.prog.info? 24).map (·.size) = some (W8 Y).size by rw [W8_size, YL.out]; kernel_rfl)
    rintro e w6 ⟨rfl, hb⟩
    have S := Lib.hid (S.out.keep hb)
    have SB := Lib.hid (SB.out.trans (hb.mono SB.out.size))
    clear hY hb hD
    go_upto_region 14 with (refine wpList_store_new rfl rfl 24 (.tmp 9) (.tmp 50) rfl (W8 Y) rfl rfl ZY.out ?c2 (W8_one _) ?_)
    case c2 => rw [W8_size, YL.out]; rfl
    generalize hM : Array.size (World.heap w6) = M2
    generalize hw : World.alloc w6 _ = w7
    have hb : Below w6.heap.size w6 w7 := by rw [← hw]; exact below_new _ _
    have S := Lib.hid ((S.out.keep hb).keep (Below.refl _ _).drew)
    have SB := Lib.hid (SB.out.trans ((hb.mono SB.out.size).trans (Below.refl _ _).drew))
    have Y7 := Lib.hid (show w7.drew.heap[M2]? = some (.cells (W8 Y) 24 (0, 0)) by show w7.heap[M2]? = _; rw [← hw]; exact ha_new _ _ _ hM.symm)
    clear hM hw hb
    refine wp_region_road (OneB w 24 M X) [(true, 0), (true, 1), (true, 4), (false, 2), (false, 3), (true, 5), (true, 6), (false, 7), (true, 8), (true, 9)] (by kernel_rfl) (by kernel_rfl) (fun _ _ d _ _ h => by cases d <;> exact h) ?_
    simp only [List.filterMap_cons, List.filterMap_nil, List.getElem?_toArray, List.getElem?_cons_zero, List.getElem?_cons_succ, Option.map_some]
    generalize w7.drew = w7 at S SB Y7 ⊢
    refine planG_q (by rfl) (S.out) (fun W hW => run_arr_all 24 (.tmp 9) rfl 32 5 Try.underlying24 I0.out M2 rfl _) ?_
    simp only [Act.put, List.setIfInBounds_toArray, List.set_cons_zero, List.set_cons_succ]
    refine planG_q (v := ?_) (by rfl) (S.out) ?_ ?_
    rotate_left
    · intro W hW
      go_simp
      with_reducible rfl
    simp only [Act.put, List.setIfInBounds_toArray, List.set_cons_zero, List.set_cons_succ]
    refine planG_q (by rfl) (S.out) (fun W hW => run_load_row 24 (.tmp 8) rfl M rfl 24 (W8 X) (0, 0) _ hW.b Try.underlying24 rfl ZX.out) ?_
    simp only [Act.put, List.setIfInBounds_toArray, List.set_cons_zero, List.set_cons_succ]
    refine planG_t (by rfl) (fun K hK => ?_)
    go_simp
    generalize hB : Array.size (World.heap _) = NC
    generalize hw : World.alloc _ _ = w8
    obtain ⟨hv, hb⟩ := built_rows hw hB
    have V := Lib.hid hv
    have S := Lib.hid (S.out.keep hb)
    have SB := Lib.hid (SB.out.trans (hb.mono SB.out.size))
    have Y8 := Lib.hid (below_block hb (row_lt Y7.out) Y7.out)
    clear hB hw hv hb Y7
    refine hK.out _ _ (S.out) ?_
    clear hK K
    refine planG_t (by rfl) (fun K hK => ?_)
    go_simp
    refine (mac_any _ (some ⟨M2, 0, none⟩) 32 32 Y YL.out (Nat.le_refl _) (RdB.row Y8.out) (by omega) (some ⟨NC, 0, none⟩) 1 1 _ [al] rfl V.out (.cons ⟨Aa, ca, by rw [AL.out], by rw [AL.out]; exact AC.out, RA.out.keep SB.out⟩ .nil) (by have := FL.out; simp [AL.out]; omega) (by omega)).mono ?_
    rw [show [al].flatten = al by simp, YE.out]
    rintro e w9 ⟨rfl, hb⟩
    have S := Lib.hid (S.out.keep hb)
    clear hb V
    refine hK.out _ _ (S.out) ?_
    clear hK K
    refine planG_q (by rfl) (S.out) (fun W hW => run_eq_arr_true 24 _ (.tmp 54) (.tmp 55) rfl 5 32 Try.underlying24 Try.underlying5 (by kernel_rfl) (by kernel_rfl) X X XL.out rfl rfl rfl W) ?_
    simp only [Act.put, List.setIfInBounds_toArray, List.set_cons_zero, List.set_cons_succ]
    refine planG_q (v := ?_) (by rfl) (S.out) ?_ ?_
    rotate_left
    · intro W hW
      go_simp
      with_reducible rfl
    simp only [Act.put, List.setIfInBounds_toArray, List.set_cons_zero, List.set_cons_succ]
    refine planG_t (by rfl) (fun K hK => ?_)
    go_simp
    refine (kdfOne_true _).mono ?_
    rintro e w10 ⟨rfl, hb⟩
    have S := Lib.hid (S.out.keep hb)
    clear hb
    refine hK.out _ _ (S.out) ?_
    clear hK K
    refine planG_q (v := ?_) (by rfl) (S.out) ?_ ?_
    rotate_left
    · intro W hW
      go_simp
      with_reducible rfl
    simp only [Act.put, List.setIfInBounds_toArray, List.set_cons_zero, List.set_cons_succ]
    refine planG_q (v := ?_) (by rfl) (S.out) ?_ ?_
    rotate_left
    · intro W hW
      go_simp
      with_reducible rfl
    simp only [Act.put, List.setIfInBounds_toArray, List.set_cons_zero, List.set_cons_succ]
    refine planG_nil ?_
    go_wp2_with fail
    go_ret
    exact ⟨rfl, S.out.bel⟩
  · have hD : decide ((64 : Int) < (k : Int)) = false := by simp; omega
    by_cases he64 : k = 64
    · have hE : ((k : Int) == 64) = true := by simp; omega
      go_upto_region 15 with fail
      have S := Lib.hid (S.out.keep (Below.refl _ _).drew)
      refine wp_region_tree (OneB w 24 M X) (.q 0 (.q 1 (.q 2 (.q 3 (.q 5 (.q 9 (.q 12 (.three 4 (.three 6 (.two 7 (.two 8 (.t 10 (.t 11 (.q 13 (.q 14 (.q 15 (.t 16 (.q 17 (.q 18 .done)))))))) 10 (.t 8 (.t 11 (.q 13 (.q 14 (.q 15 (.t 16 (.q 17 (.q 18 .done))))))))) 10 (.t 7 (.t 8 (.t 11 (.q 13 (.q 14 (.q 15 (.t 16 (.q 17 (.q 18 .done)))))))))) 7 (.two 6 (.two 8 (.t 10 (.t 11 (.q 13 (.q 14 (.q 15 (.t 16 (.q 17 (.q 18 .done)))))))) 10 (.t 8 (.t 11 (.q 13 (.q 14 (.q 15 (.t 16 (.q 17 (.q 18 .done))))))))) 10 (.t 6 (.t 8 (.t 11 (.q 13 (.q 14 (.q 15 (.t 16 (.q 17 (.q 18 .done)))))))))) 10 (.two 6 (.t 7 (.t 8 (.t 11 (.q 13 (.q 14 (.q 15 (.t 16 (.q 17 (.q 18 .done))))))))) 7 (.t 6 (.t 8 (.t 11 (.q 13 (.q 14 (.q 15 (.t 16 (.q 17 (.q 18 .done))))))))))) 7 (.two 4 (.two 6 (.two 8 (.t 10 (.t 11 (.q 13 (.q 14 (.q 15 (.t 16 (.q 17 (.q 18 .done)))))))) 10 (.t 8 (.t 11 (.q 13 (.q 14 (.q 15 (.t 16 (.q 17 (.q 18 .done))))))))) 10 (.t 6 (.t 8 (.t 11 (.q 13 (.q 14 (.q 15 (.t 16 (.q 17 (.q 18 .done)))))))))) 10 (.t 4 (.t 6 (.t 8 (.t 11 (.q 13 (.q 14 (.q 15 (.t 16 (.q 17 (.q 18 .done))))))))))) 10 (.two 4 (.two 6 (.t 7 (.t 8 (.t 11 (.q 13 (.q 14 (.q 15 (.t 16 (.q 17 (.q 18 .done))))))))) 7 (.t 6 (.t 8 (.t 11 (.q 13 (.q 14 (.q 15 (.t 16 (.q 17 (.q 18 .done)))))))))) 7 (.t 4 (.t 6 (.t 8 (.t 11 (.q 13 (.q 14 (.q 15 (.t 16 (.q 17 (.q 18 .done))))))))))))))))))) (by kernel_rfl) (by kernel_rfl) (fun _ _ d _ _ h => by cases d <;> exact h) ?_
      refine road_q (v := ?_) rfl rfl (S.out) ?_ ?_
      rotate_left
      · intro W hW
        go_simp
        with_reducible rfl
      simp only [Act.put, List.setIfInBounds_toArray, List.set_cons_zero, List.set_cons_succ]
      refine road_q (v := ?_) rfl rfl (S.out) ?_ ?_
      rotate_left
      · intro W hW
        go_simp
        with_reducible rfl
      simp only [Act.put, List.setIfInBounds_toArray, List.set_cons_zero, List.set_cons_succ]
      refine road_q (v := ?_) rfl rfl (S.out) ?_ ?_
      rotate_left
      · intro W hW
        go_simp
        with_reducible rfl
      simp only [Act.put, List.setIfInBounds_toArray, List.set_cons_zero, List.set_cons_succ]
      refine road_q (v := ?_) rfl rfl (S.out) ?_ ?_
      rotate_left
      · intro W hW
        go_simp
        with_reducible rfl
      simp only [Act.put, List.setIfInBounds_toArray, List.set_cons_zero, List.set_cons_succ]
      refine road_qs rfl rfl (S.out) ?_
      simp only [Act.put, List.setIfInBounds_toArray, List.set_cons_zero, List.set_cons_succ]
      refine road_qs rfl rfl (S.out) ?_
      simp only [Act.put, List.setIfInBounds_toArray, List.set_cons_zero, List.set_cons_succ]
      refine road_qs rfl rfl (S.out) ?_
      simp only [Act.put, List.setIfInBounds_toArray, List.set_cons_zero, List.set_cons_succ]
      refine road_three ?_ ?_ ?_
      ·
        refine road_ts rfl rfl (S.out) ?_
        simp only [Act.put, List.setIfInBounds_toArray, List.set_cons_zero, List.set_cons_succ]
        refine road_three ?_ ?_ ?_
        ·
          refine road_ts rfl rfl (S.out) ?_
          simp only [Act.put, List.setIfInBounds_toArray, List.set_cons_zero, List.set_cons_succ]
          refine road_two ?_ ?_
          ·
            refine road_ts rfl rfl (S.out) ?_
            simp only [Act.put, List.setIfInBounds_toArray, List.set_cons_zero, List.set_cons_succ]
            refine road_two ?_ ?_
            ·
              refine road_ts rfl rfl (S.out) ?_
              simp only [Act.put, List.setIfInBounds_toArray, List.set_cons_zero, List.set_cons_succ]
              refine road_ts rfl rfl (S.out) ?_
              simp only [Act.put, List.setIfInBounds_toArray, List.set_cons_zero, List.set_cons_succ]
              refine road_ts rfl rfl (S.out) ?_
              simp only [Act.put, List.setIfInBounds_toArray, List.set_cons_zero, List.set_cons_succ]
              refine road_qs rfl rfl (S.out) ?_
              simp only [Act.put, List.setIfInBounds_toArray, List.set_cons_zero, List.set_cons_succ]
              refine road_q (v := ?_) rfl rfl (S.out) ?_ ?_
              rotate_left
              · intro W hW
                go_simp
                with_reducible rfl
              simp only [Act.put, List.setIfInBounds_toArray, List.set_cons_zero, List.set_cons_succ]
              refine road_q (v := ?_) rfl rfl (S.out) ?_ ?_
              rotate_left
              · intro W hW
                go_simp
                with_reducible rfl
              simp only [Act.put, List.setIfInBounds_toArray, List.set_cons_zero, List.set_cons_succ]
              refine road_t rfl rfl (fun K hK => ?_)
              go_simp
              refine (kdfOne_true _).mono ?_
              rintro e w10 ⟨rfl, hb⟩
              have S := Lib.hid (S.out.keep hb)
              clear hb
              refine hK.out _ _ (S.out) ?_
              clear hK K
              refine road_q (v := ?_) rfl rfl (S.out) ?_ ?_
              rotate_left
              · intro W hW
                go_simp
                with_reducible rfl
              simp only [Act.put, List.setIfInBounds_toArray, List.set_cons_zero, List.set_cons_succ]
              refine road_q (v := ?_) rfl rfl (S.out) ?_ ?_
              rotate_left
              · intro W hW
                go_simp
                with_reducible rfl
              simp only [Act.put, List.setIfInBounds_toArray, List.set_cons_zero, List.set_cons_succ]
              refine road_done ?_
              go_wp2_with fail
              go_ret
              exact ⟨rfl, S.out.bel⟩
            ·
              refine road_ts rfl rfl (S.out) ?_
              simp only [Act.put, List.setIfInBounds_toArray, List.set_cons_zero, List.set_cons_succ]
              refine road_ts rfl rfl (S.out) ?_
              simp only [Act.put, List.setIfInBounds_toArray, List.set_cons_zero, List.set_cons_succ]
              refine road_ts rfl rfl (S.out) ?_
              simp only [Act.put, List.setIfInBounds_toArray, List.set_cons_zero, List.set_cons_succ]
              refine road_qs rfl rfl (S.out) ?_
              simp only [Act.put, List.setIfInBounds_toArray, List.set_cons_zero, List.set_cons_succ]
              refine road_q (v := ?_) rfl rfl (S.out) ?_ ?_
              rotate_left
              · intro W hW
                go_simp
                with_reducible rfl
              simp only [Act.put, List.setIfInBounds_toArray, List.set_cons_zero, List.set_cons_succ]
              refine road_q (v := ?_) rfl rfl (S.out) ?_ ?_
              rotate_left
              · intro W hW
                go_simp
                with_reducible rfl
              simp only [Act.put, List.setIfInBounds_toArray, List.set_cons_zero, List.set_cons_succ]
              refine road_t rfl rfl (fun K hK => ?_)
              go_simp
              refine (kdfOne_true _).mono ?_
              rintro e w10 ⟨rfl, hb⟩
              have S := Lib.hid (S.out.keep hb)
              clear hb
              refine hK.out _ _ (S.out) ?_
              clear hK K
              refine road_q (v := ?_) rfl rfl (S.out) ?_ ?_
              rotate_left
              · intro W hW
                go_simp
                with_reducible rfl
              simp only [Act.put, List.setIfInBounds_toArray, List.set_cons_zero, List.set_cons_succ]
              refine road_q (v := ?_) rfl rfl (S.out) ?_ ?_
              rotate_left
              · intro W hW
                go_simp
                with_reducible rfl
              simp only [Act.put, List.setIfInBounds_toArray, List.set_cons_zero, List.set_cons_succ]
              refine road_done ?_
              go_wp2_with fail
              go_ret
              exact ⟨rfl, S.out.bel⟩
          ·
            refine road_ts rfl rfl (S.out) ?_
            simp only [Act.put, List.setIfInBounds_toArray, List.set_cons_zero, List.set_cons_succ]
            refine road_ts rfl rfl (S.out) ?_
            simp only [Act.put, List.setIfInBounds_toArray, List.set_cons_zero, List.set_cons_succ]
            refine road_ts rfl rfl (S.out) ?_
            simp only [Act.put, List.setIfInBounds_toArray, List.set_cons_zero, List.set_cons_succ]
            refine road_ts rfl rfl (S.out) ?_
            simp only [Act.put, List.setIfInBounds_toArray, List.set_cons_zero, List.set_cons_succ]
            refine road_qs rfl rfl (S.out) ?_
            simp only [Act.put, List.setIfInBounds_toArray, List.set_cons_zero, List.set_cons_succ]
            refine road_q (v := ?_) rfl rfl (S.out) ?_ ?_
            rotate_left
            · intro W hW
              go_simp
              with_reducible rfl
            simp only [Act.put, List.setIfInBounds_toArray, List.set_cons_zero, List.set_cons_succ]
            refine road_q (v := ?_) rfl rfl (S.out) ?_ ?_
            rotate_left
            · intro W hW
              go_simp
              with_reducible rfl
            simp only [Act.put, List.setIfInBounds_toArray, List.set_cons_zero, List.set_cons_succ]
            refine road_t rfl rfl (fun K hK => ?_)
            go_simp
            refine (kdfOne_true _).mono ?_
            rintro e w10 ⟨rfl, hb⟩
            have S := Lib.hid (S.out.keep hb)
            clear hb
            refine hK.out _ _ (S.out) ?_
            clear hK K
            refine road_q (v := ?_) rfl rfl (S.out) ?_ ?_
            rotate_left
            · intro W hW
              go_simp
              with_reducible rfl
            simp only [Act.put, List.setIfInBounds_toArray, List.set_cons_zero, List.set_cons_succ]
            refine road_q (v := ?_) rfl rfl (S.out) ?_ ?_
            rotate_left
            · intro W hW
              go_simp
              with_reducible rfl
            simp only [Act.put, List.setIfInBounds_toArray, List.set_cons_zero, List.set_cons_succ]
            refine road_done ?_
            go_wp2_with fail
            go_ret
            exact ⟨rfl, S.out.bel⟩
        ·
          refine road_ts rfl rfl (S.out) ?_
          simp only [Act.put, List.setIfInBounds_toArray, List.set_cons_zero, List.set_cons_succ]
          refine road_two ?_ ?_
          ·
            refine road_ts rfl rfl (S.out) ?_
            simp only [Act.put, List.setIfInBounds_toArray, List.set_cons_zero, List.set_cons_succ]
            refine road_two ?_ ?_
            ·
              refine road_ts rfl rfl (S.out) ?_
              simp only [Act.put, List.setIfInBounds_toArray, List.set_cons_zero, List.set_cons_succ]
              refine road_ts rfl rfl (S.out) ?_
              simp only [Act.put, List.setIfInBounds_toArray, List.set_cons_zero, List.set_cons_succ]
              refine road_ts rfl rfl (S.out) ?_
              simp only [Act.put, List.setIfInBounds_toArray, List.set_cons_zero, List.set_cons_succ]
              refine road_qs rfl rfl (S.out) ?_
              simp only [Act.put, List.setIfInBounds_toArray, List.set_cons_zero, List.set_cons_succ]
              refine road_q (v := ?_) rfl rfl (S.out) ?_ ?_
              rotate_left
              · intro W hW
                go_simp
                with_reducible rfl
              simp only [Act.put, List.setIfInBounds_toArray, List.set_cons_zero, List.set_cons_succ]
              refine road_q (v := ?_) rfl rfl (S.out) ?_ ?_
              rotate_left
              · intro W hW
                go_simp
                with_reducible rfl
              simp only [Act.put, List.setIfInBounds_toArray, List.set_cons_zero, List.set_cons_succ]
              refine road_t rfl rfl (fun K hK => ?_)
              go_simp
              refine (kdfOne_true _).mono ?_
              rintro e w10 ⟨rfl, hb⟩
              have S := Lib.hid (S.out.keep hb)
              clear hb
              refine hK.out _ _ (S.out) ?_
              clear hK K
              refine road_q (v := ?_) rfl rfl (S.out) ?_ ?_
              rotate_left
              · intro W hW
                go_simp
                with_reducible rfl
              simp only [Act.put, List.setIfInBounds_toArray, List.set_cons_zero, List.set_cons_succ]
              refine road_q (v := ?_) rfl rfl (S.out) ?_ ?_
              rotate_left
              · intro W hW
                go_simp
                with_reducible rfl
              simp only [Act.put, List.setIfInBounds_toArray, List.set_cons_zero, List.set_cons_succ]
              refine road_done ?_
              go_wp2_with fail
              go_ret
              exact ⟨rfl, S.out.bel⟩
            ·
              refine road_ts rfl rfl (S.out) ?_
              simp only [Act.put, List.setIfInBounds_toArray, List.set_cons_zero, List.set_cons_succ]
              refine road_ts rfl rfl (S.out) ?_
              simp only [Act.put, List.setIfInBounds_toArray, List.set_cons_zero, List.set_cons_succ]
              refine road_ts rfl rfl (S.out) ?_
              simp only [Act.put, List.setIfInBounds_toArray, List.set_cons_zero, List.set_cons_succ]
              refine road_qs rfl rfl (S.out) ?_
              simp only [Act.put, List.setIfInBounds_toArray, List.set_cons_zero, List.set_cons_succ]
              refine road_q (v := ?_) rfl rfl (S.out) ?_ ?_
              rotate_left
              · intro W hW
                go_simp
                with_reducible rfl
              simp only [Act.put, List.setIfInBounds_toArray, List.set_cons_zero, List.set_cons_succ]
              refine road_q (v := ?_) rfl rfl (S.out) ?_ ?_
              rotate_left
              · intro W hW
                go_simp
                with_reducible rfl
              simp only [Act.put, List.setIfInBounds_toArray, List.set_cons_zero, List.set_cons_succ]
              refine road_t rfl rfl (fun K hK => ?_)
              go_simp
              refine (kdfOne_true _).mono ?_
              rintro e w10 ⟨rfl, hb⟩
              have S := Lib.hid (S.out.keep hb)
              clear hb
              refine hK.out _ _ (S.out) ?_
              clear hK K
              refine road_q (v := ?_) rfl rfl (S.out) ?_ ?_
              rotate_left
              · intro W hW
                go_simp
                with_reducible rfl
              simp only [Act.put, List.setIfInBounds_toArray, List.set_cons_zero, List.set_cons_succ]
              refine road_q (v := ?_) rfl rfl (S.out) ?_ ?_
              rotate_left
              · intro W hW
                go_simp
                with_reducible rfl
              simp only [Act.put, List.setIfInBounds_toArray, List.set_cons_zero, List.set_cons_succ]
              refine road_done ?_
              go_wp2_with fail
              go_ret
              exact ⟨rfl, S.out.bel⟩
          ·
            refine road_ts rfl rfl (S.out) ?_
            simp only [Act.put, List.setIfInBounds_toArray, List.set_cons_zero, List.set_cons_succ]
            refine road_ts rfl rfl (S.out) ?_
            simp only [Act.put, List.setIfInBounds_toArray, List.set_cons_zero, List.set_cons_succ]
            refine road_ts rfl rfl (S.out) ?_
            simp only [Act.put, List.setIfInBounds_toArray, List.set_cons_zero, List.set_cons_succ]
            refine road_ts rfl rfl (S.out) ?_
            simp only [Act.put, List.setIfInBounds_toArray, List.set_cons_zero, List.set_cons_succ]
            refine road_qs rfl rfl (S.out) ?_
            simp only [Act.put, List.setIfInBounds_toArray, List.set_cons_zero, List.set_cons_succ]
            refine road_q (v := ?_) rfl rfl (S.out) ?_ ?_
            rotate_left
            · intro W hW
              go_simp
              with_reducible rfl
            simp only [Act.put, List.setIfInBounds_toArray, List.set_cons_zero, List.set_cons_succ]
            refine road_q (v := ?_) rfl rfl (S.out) ?_ ?_
            rotate_left
            · intro W hW
              go_simp
              with_reducible rfl
            simp only [Act.put, List.setIfInBounds_toArray, List.set_cons_zero, List.set_cons_succ]
            refine road_t rfl rfl (fun K hK => ?_)
            go_simp
            refine (kdfOne_true _).mono ?_
            rintro e w10 ⟨rfl, hb⟩
            have S := Lib.hid (S.out.keep hb)
            clear hb
            refine hK.out _ _ (S.out) ?_
            clear hK K
            refine road_q (v := ?_) rfl rfl (S.out) ?_ ?_
            rotate_left
            · intro W hW
              go_simp
              with_reducible rfl
            simp only [Act.put, List.setIfInBounds_toArray, List.set_cons_zero, List.set_cons_succ]
            refine road_q (v := ?_) rfl rfl (S.out) ?_ ?_
            rotate_left
            · intro W hW
              go_simp
              with_reducible rfl
            simp only [Act.put, List.setIfInBounds_toArray, List.set_cons_zero, List.set_cons_succ]
            refine road_done ?_
            go_wp2_with fail
            go_ret
            exact ⟨rfl, S.out.bel⟩
        ·
          refine road_ts rfl rfl (S.out) ?_
          simp only [Act.put, List.setIfInBounds_toArray, List.set_cons_zero, List.set_cons_succ]
          refine road_two ?_ ?_
          ·
            refine road_ts rfl rfl (S.out) ?_
            simp only [Act.put, List.setIfInBounds_toArray, List.set_cons_zero, List.set_cons_succ]
            refine road_ts rfl rfl (S.out) ?_
            simp only [Act.put, List.setIfInBounds_toArray, List.set_cons_zero, List.set_cons_succ]
            refine road_ts rfl rfl (S.out) ?_
            simp only [Act.put, List.setIfInBounds_toArray, List.set_cons_zero, List.set_cons_succ]
            refine road_ts rfl rfl (S.out) ?_
            simp only [Act.put, List.setIfInBounds_toArray, List.set_cons_zero, List.set_cons_succ]
            refine road_qs rfl rfl (S.out) ?_
            simp only [Act.put, List.setIfInBounds_toArray, List.set_cons_zero, List.set_cons_succ]
            refine road_q (v := ?_) rfl rfl (S.out) ?_ ?_
            rotate_left
            · intro W hW
              go_simp
              with_reducible rfl
            simp only [Act.put, List.setIfInBounds_toArray, List.set_cons_zero, List.set_cons_succ]
            refine road_q (v := ?_) rfl rfl (S.out) ?_ ?_
            rotate_left
            · intro W hW
              go_simp
              with_reducible rfl
            simp only [Act.put, List.setIfInBounds_toArray, List.set_cons_zero, List.set_cons_succ]
            refine road_t rfl rfl (fun K hK => ?_)
            go_simp
            refine (kdfOne_true _).mono ?_
            rintro e w10 ⟨rfl, hb⟩
            have S := Lib.hid (S.out.keep hb)
            clear hb
            refine hK.out _ _ (S.out) ?_
            clear hK K
            refine road_q (v := ?_) rfl rfl (S.out) ?_ ?_
            rotate_left
            · intro W hW
              go_simp
              with_reducible rfl
            simp only [Act.put, List.setIfInBounds_toArray, List.set_cons_zero, List.set_cons_succ]
            refine road_q (v := ?_) rfl rfl (S.out) ?_ ?_
            rotate_left
            · intro W hW
              go_simp
              with_reducible rfl
            simp only [Act.put, List.setIfInBounds_toArray, List.set_cons_zero, List.set_cons_succ]
            refine road_done ?_
            go_wp2_with fail
            go_ret
            exact ⟨rfl, S.out.bel⟩
          ·
            refine road_ts rfl rfl (S.out) ?_
            simp only [Act.put, List.setIfInBounds_toArray, List.set_cons_zero, List.set_cons_succ]
            refine road_ts rfl rfl (S.out) ?_
            simp only [Act.put, List.setIfInBounds_toArray, List.set_cons_zero, List.set_cons_succ]
            refine road_ts rfl rfl (S.out) ?_
            simp only [Act.put, List.setIfInBounds_toArray, List.set_cons_zero, List.set_cons_succ]
            refine road_ts rfl rfl (S.out) ?_
            simp only [Act.put, List.setIfInBounds_toArray, List.set_cons_zero, List.set_cons_succ]
            refine road_qs rfl rfl (S.out) ?_
            simp only [Act.put, List.setIfInBounds_toArray, List.set_cons_zero, List.set_cons_succ]
            refine road_q (v := ?_) rfl rfl (S.out) ?_ ?_
            rotate_left
            · intro W hW
              go_simp
              with_reducible rfl
            simp only [Act.put, List.setIfInBounds_toArray, List.set_cons_zero, List.set_cons_succ]
            refine road_q (v := ?_) rfl rfl (S.out) ?_ ?_
            rotate_left
            · intro W hW
              go_simp
              with_reducible rfl
            simp only [Act.put, List.setIfInBounds_toArray, List.set_cons_zero, List.set_cons_succ]
            refine road_t rfl rfl (fun K hK => ?_)
            go_simp
            refine (kdfOne_true _).mono ?_
            rintro e w10 ⟨rfl, hb⟩
            have S := Lib.hid (S.out.keep hb)
            clear hb
            refine hK.out _ _ (S.out) ?_
            clear hK K
            refine road_q (v := ?_) rfl rfl (S.out) ?_ ?_
            rotate_left
            · intro W hW
              go_simp
              with_reducible rfl
            simp only [Act.put, List.setIfInBounds_toArray, List.set_cons_zero, List.set_cons_succ]
            refine road_q (v := ?_) rfl rfl (S.out) ?_ ?_
            rotate_left
            · intro W hW
              go_simp
              with_reducible rfl
            simp only [Act.put, List.setIfInBounds_toArray, List.set_cons_zero, List.set_cons_succ]
            refine road_done ?_
            go_wp2_with fail
            go_ret
            exact ⟨rfl, S.out.bel⟩
      ·
        refine road_ts rfl rfl (S.out) ?_
        simp only [Act.put, List.setIfInBounds_toArray, List.set_cons_zero, List.set_cons_succ]
        refine road_two ?_ ?_
        ·
          refine road_ts rfl rfl (S.out) ?_
          simp only [Act.put, List.setIfInBounds_toArray, List.set_cons_zero, List.set_cons_succ]
          refine road_two ?_ ?_
          ·
            refine road_ts rfl rfl (S.out) ?_
            simp only [Act.put, List.setIfInBounds_toArray, List.set_cons_zero, List.set_cons_succ]
            refine road_two ?_ ?_
            ·
              refine road_ts rfl rfl (S.out) ?_
              simp only [Act.put, List.setIfInBounds_toArray, List.set_cons_zero, List.set_cons_succ]
              refine road_ts rfl rfl (S.out) ?_
              simp only [Act.put, List.setIfInBounds_toArray, List.set_cons_zero, List.set_cons_succ]
              refine road_ts rfl rfl (S.out) ?_
              simp only [Act.put, List.setIfInBounds_toArray, List.set_cons_zero, List.set_cons_succ]
              refine road_qs rfl rfl (S.out) ?_
              simp only [Act.put, List.setIfInBounds_toArray, List.set_cons_zero, List.set_cons_succ]
              refine road_q (v := ?_) rfl rfl (S.out) ?_ ?_
              rotate_left
              · intro W hW
                go_simp
                with_reducible rfl
              simp only [Act.put, List.setIfInBounds_toArray, List.set_cons_zero, List.set_cons_succ]
              refine road_q (v := ?_) rfl rfl (S.out) ?_ ?_
              rotate_left
              · intro W hW
                go_simp
                with_reducible rfl
              simp only [Act.put, List.setIfInBounds_toArray, List.set_cons_zero, List.set_cons_succ]
              refine road_t rfl rfl (fun K hK => ?_)
              go_simp
              refine (kdfOne_true _).mono ?_
              rintro e w10 ⟨rfl, hb⟩
              have S := Lib.hid (S.out.keep hb)
              clear hb
              refine hK.out _ _ (S.out) ?_
              clear hK K
              refine road_q (v := ?_) rfl rfl (S.out) ?_ ?_
              rotate_left
              · intro W hW
                go_simp
                with_reducible rfl
              simp only [Act.put, List.setIfInBounds_toArray, List.set_cons_zero, List.set_cons_succ]
              refine road_q (v := ?_) rfl rfl (S.out) ?_ ?_
              rotate_left
              · intro W hW
                go_simp
                with_reducible rfl
              simp only [Act.put, List.setIfInBounds_toArray, List.set_cons_zero, List.set_cons_succ]
              refine road_done ?_
              go_wp2_with fail
              go_ret
              exact ⟨rfl, S.out.bel⟩
            ·
              refine road_ts rfl rfl (S.out) ?_
              simp only [Act.put, List.setIfInBounds_toArray, List.set_cons_zero, List.set_cons_succ]
              refine road_ts rfl rfl (S.out) ?_
              simp only [Act.put, List.setIfInBounds_toArray, List.set_cons_zero, List.set_cons_succ]
              refine road_ts rfl rfl (S.out) ?_
              simp only [Act.put, List.setIfInBounds_toArray, List.set_cons_zero, List.set_cons_succ]
              refine road_qs rfl rfl (S.out) ?_
              simp only [Act.put, List.setIfInBounds_toArray, List.set_cons_zero, List.set_cons_succ]
              refine road_q (v := ?_) rfl rfl (S.out) ?_ ?_
              rotate_left
              · intro W hW
                go_simp
                with_reducible rfl
              simp only [Act.put, List.setIfInBounds_toArray, List.set_cons_zero, List.set_cons_succ]
              refine road_q (v := ?_) rfl rfl (S.out) ?_ ?_
              rotate_left
              · intro W hW
                go_simp
                with_reducible rfl
              simp only [Act.put, List.setIfInBounds_toArray, List.set_cons_zero, List.set_cons_succ]
              refine road_t rfl rfl (fun K hK => ?_)
              go_simp
              refine (kdfOne_true _).mono ?_
              rintro e w10 ⟨rfl, hb⟩
              have S := Lib.hid (S.out.keep hb)
              clear hb
              refine hK.out _ _ (S.out) ?_
              clear hK K
              refine road_q (v := ?_) rfl rfl (S.out) ?_ ?_
              rotate_left
              · intro W hW
                go_simp
                with_reducible rfl
              simp only [Act.put, List.setIfInBounds_toArray, List.set_cons_zero, List.set_cons_succ]
              refine road_q (v := ?_) rfl rfl (S.out) ?_ ?_
              rotate_left
              · intro W hW
                go_simp
                with_reducible rfl
              simp only [Act.put, List.setIfInBounds_toArray, List.set_cons_zero, List.set_cons_succ]
              refine road_done ?_
              go_wp2_with fail
              go_ret
              exact ⟨rfl, S.out.bel⟩
          ·
            refine road_ts rfl rfl (S.out) ?_
            simp only [Act.put, List.setIfInBounds_toArray, List.set_cons_zero, List.set_cons_succ]
            refine road_ts rfl rfl (S.out) ?_
            simp only [Act.put, List.setIfInBounds_toArray, List.set_cons_zero, List.set_cons_succ]
            refine road_ts rfl rfl (S.out) ?_
            simp only [Act.put, List.setIfInBounds_toArray, List.set_cons_zero, List.set_cons_succ]
            refine road_ts rfl rfl (S.out) ?_
            simp only [Act.put, List.setIfInBounds_toArray, List.set_cons_zero, List.set_cons_succ]
            refine road_qs rfl rfl (S.out) ?_
            simp only [Act.put, List.setIfInBounds_toArray, List.set_cons_zero, List.set_cons_succ]
            refine road_q (v := ?_) rfl rfl (S.out) ?_ ?_
            rotate_left
            · intro W hW
              go_simp
              with_reducible rfl
            simp only [Act.put, List.setIfInBounds_toArray, List.set_cons_zero, List.set_cons_succ]
            refine road_q (v := ?_) rfl rfl (S.out) ?_ ?_
            rotate_left
            · intro W hW
              go_simp
              with_reducible rfl
            simp only [Act.put, List.setIfInBounds_toArray, List.set_cons_zero, List.set_cons_succ]
            refine road_t rfl rfl (fun K hK => ?_)
            go_simp
            refine (kdfOne_true _).mono ?_
            rintro e w10 ⟨rfl, hb⟩
            have S := Lib.hid (S.out.keep hb)
            clear hb
            refine hK.out _ _ (S.out) ?_
            clear hK K
            refine road_q (v := ?_) rfl rfl (S.out) ?_ ?_
            rotate_left
            · intro W hW
              go_simp
              with_reducible rfl
            simp only [Act.put, List.setIfInBounds_toArray, List.set_cons_zero, List.set_cons_succ]
            refine road_q (v := ?_) rfl rfl (S.out) ?_ ?_
            rotate_left
            · intro W hW
              go_simp
              with_reducible rfl
            simp only [Act.put, List.setIfInBounds_toArray, List.set_cons_zero, List.set_cons_succ]
            refine road_done ?_
            go_wp2_with fail
            go_ret
            exact ⟨rfl, S.out.bel⟩
        ·
          refine road_ts rfl rfl (S.out) ?_
          simp only [Act.put, List.setIfInBounds_toArray, List.set_cons_zero, List.set_cons_succ]
          refine road_ts rfl rfl (S.out) ?_
          simp only [Act.put, List.setIfInBounds_toArray, List.set_cons_zero, List.set_cons_succ]
          refine road_ts rfl rfl (S.out) ?_
          simp only [Act.put, List.setIfInBounds_toArray, List.set_cons_zero, List.set_cons_succ]
          refine road_ts rfl rfl (S.out) ?_
          simp only [Act.put, List.setIfInBounds_toArray, List.set_cons_zero, List.set_cons_succ]
          refine road_ts rfl rfl (S.out) ?_
          simp only [Act.put, List.setIfInBounds_toArray, List.set_cons_zero, List.set_cons_succ]
          refine road_qs rfl rfl (S.out) ?_
          simp only [Act.put, List.setIfInBounds_toArray, List.set_cons_zero, List.set_cons_succ]
          refine road_q (v := ?_) rfl rfl (S.out) ?_ ?_
          rotate_left
          · intro W hW
            go_simp
            with_reducible rfl
          simp only [Act.put, List.setIfInBounds_toArray, List.set_cons_zero, List.set_cons_succ]
          refine road_q (v := ?_) rfl rfl (S.out) ?_ ?_
          rotate_left
          · intro W hW
            go_simp
            with_reducible rfl
          simp only [Act.put, List.setIfInBounds_toArray, List.set_cons_zero, List.set_cons_succ]
          refine road_t rfl rfl (fun K hK => ?_)
          go_simp
          refine (kdfOne_true _).mono ?_
          rintro e w10 ⟨rfl, hb⟩
          have S := Lib.hid (S.out.keep hb)
          clear hb
          refine hK.out _ _ (S.out) ?_
          clear hK K
          refine road_q (v := ?_) rfl rfl (S.out) ?_ ?_
          rotate_left
          · intro W hW
            go_simp
            with_reducible rfl
          simp only [Act.put, List.setIfInBounds_toArray, List.set_cons_zero, List.set_cons_succ]
          refine road_q (v := ?_) rfl rfl (S.out) ?_ ?_
          rotate_left
          · intro W hW
            go_simp
            with_reducible rfl
          simp only [Act.put, List.setIfInBounds_toArray, List.set_cons_zero, List.set_cons_succ]
          refine road_done ?_
          go_wp2_with fail
          go_ret
          exact ⟨rfl, S.out.bel⟩
      ·
        refine road_ts rfl rfl (S.out) ?_
        simp only [Act.put, List.setIfInBounds_toArray, List.set_cons_zero, List.set_cons_succ]
        refine road_two ?_ ?_
        ·
          refine road_ts rfl rfl (S.out) ?_
          simp only [Act.put, List.setIfInBounds_toArray, List.set_cons_zero, List.set_cons_succ]
          refine road_two ?_ ?_
          ·
            refine road_ts rfl rfl (S.out) ?_
            simp only [Act.put, List.setIfInBounds_toArray, List.set_cons_zero, List.set_cons_succ]
            refine road_ts rfl rfl (S.out) ?_
            simp only [Act.put, List.setIfInBounds_toArray, List.set_cons_zero, List.set_cons_succ]
            refine road_ts rfl rfl (S.out) ?_
            simp only [Act.put, List.setIfInBounds_toArray, List.set_cons_zero, List.set_cons_succ]
            refine road_ts rfl rfl (S.out) ?_
            simp only [Act.put, List.setIfInBounds_toArray, List.set_cons_zero, List.set_cons_succ]
            refine road_qs rfl rfl (S.out) ?_
            simp only [Act.put, List.setIfInBounds_toArray, List.set_cons_zero, List.set_cons_succ]
            refine road_q (v := ?_) rfl rfl (S.out) ?_ ?_
            rotate_left
            · intro W hW
              go_simp
              with_reducible rfl
            simp only [Act.put, List.setIfInBounds_toArray, List.set_cons_zero, List.set_cons_succ]
            refine road_q (v := ?_) rfl rfl (S.out) ?_ ?_
            rotate_left
            · intro W hW
              go_simp
              with_reducible rfl
            simp only [Act.put, List.setIfInBounds_toArray, List.set_cons_zero, List.set_cons_succ]
            refine road_t rfl rfl (fun K hK => ?_)
            go_simp
            refine (kdfOne_true _).mono ?_
            rintro e w10 ⟨rfl, hb⟩
            have S := Lib.hid (S.out.keep hb)
            clear hb
            refine hK.out _ _ (S.out) ?_
            clear hK K
            refine road_q (v := ?_) rfl rfl (S.out) ?_ ?_
            rotate_left
            · intro W hW
              go_simp
              with_reducible rfl
            simp only [Act.put, List.setIfInBounds_toArray, List.set_cons_zero, List.set_cons_succ]
            refine road_q (v := ?_) rfl rfl (S.out) ?_ ?_
            rotate_left
            · intro W hW
              go_simp
              with_reducible rfl
            simp only [Act.put, List.setIfInBounds_toArray, List.set_cons_zero, List.set_cons_succ]
            refine road_done ?_
            go_wp2_with fail
            go_ret
            exact ⟨rfl, S.out.bel⟩
          ·
            refine road_ts rfl rfl (S.out) ?_
            simp only [Act.put, List.setIfInBounds_toArray, List.set_cons_zero, List.set_cons_succ]
            refine road_ts rfl rfl (S.out) ?_
            simp only [Act.put, List.setIfInBounds_toArray, List.set_cons_zero, List.set_cons_succ]
            refine road_ts rfl rfl (S.out) ?_
            simp only [Act.put, List.setIfInBounds_toArray, List.set_cons_zero, List.set_cons_succ]
            refine road_ts rfl rfl (S.out) ?_
            simp only [Act.put, List.setIfInBounds_toArray, List.set_cons_zero, List.set_cons_succ]
            refine road_qs rfl rfl (S.out) ?_
            simp only [Act.put, List.setIfInBounds_toArray, List.set_cons_zero, List.set_cons_succ]
            refine road_q (v := ?_) rfl rfl (S.out) ?_ ?_
            rotate_left
            · intro W hW
              go_simp
              with_reducible rfl
            simp only [Act.put, List.setIfInBounds_toArray, List.set_cons_zero, List.set_cons_succ]
            refine road_q (v := ?_) rfl rfl (S.out) ?_ ?_
            rotate_left
            · intro W hW
              go_simp
              with_reducible rfl
            simp only [Act.put, List.setIfInBounds_toArray, List.set_cons_zero, List.set_cons_succ]
            refine road_t rfl rfl (fun K hK => ?_)
            go_simp
            refine (kdfOne_true _).mono ?_
            rintro e w10 ⟨rfl, hb⟩
            have S := Lib.hid (S.out.keep hb)
            clear hb
            refine hK.out _ _ (S.out) ?_
            clear hK K
            refine road_q (v := ?_) rfl rfl (S.out) ?_ ?_
            rotate_left
            · intro W hW
              go_simp
              with_reducible rfl
            simp only [Act.put, List.setIfInBounds_toArray, List.set_cons_zero, List.set_cons_succ]
            refine road_q (v := ?_) rfl rfl (S.out) ?_ ?_
            rotate_left
            · intro W hW
              go_simp
              with_reducible rfl
            simp only [Act.put, List.setIfInBounds_toArray, List.set_cons_zero, List.set_cons_succ]
            refine road_done ?_
            go_wp2_with fail
            go_ret
            exact ⟨rfl, S.out.bel⟩
        ·
          refine road_ts rfl rfl (S.out) ?_
          simp only [Act.put, List.setIfInBounds_toArray, List.set_cons_zero, List.set_cons_succ]
          refine road_ts rfl rfl (S.out) ?_
          simp only [Act.put, List.setIfInBounds_toArray, List.set_cons_zero, List.set_cons_succ]
          refine road_ts rfl rfl (S.out) ?_
          simp only [Act.put, List.setIfInBounds_toArray, List.set_cons_zero, List.set_cons_succ]
          refine road_ts rfl rfl (S.out) ?_
          simp only [Act.put, List.setIfInBounds_toArray, List.set_cons_zero, List.set_cons_succ]
          refine road_ts rfl rfl (S.out) ?_
          simp only [Act.put, List.setIfInBounds_toArray, List.set_cons_zero, List.set_cons_succ]
          refine road_qs rfl rfl (S.out) ?_
          simp only [Act.put, List.setIfInBounds_toArray, List.set_cons_zero, List.set_cons_succ]
          refine road_q (v := ?_) rfl rfl (S.out) ?_ ?_
          rotate_left
          · intro W hW
            go_simp
            with_reducible rfl
          simp only [Act.put, List.setIfInBounds_toArray, List.set_cons_zero, List.set_cons_succ]
          refine road_q (v := ?_) rfl rfl (S.out) ?_ ?_
          rotate_left
          · intro W hW
            go_simp
            with_reducible rfl
          simp only [Act.put, List.setIfInBounds_toArray, List.set_cons_zero, List.set_cons_succ]
          refine road_t rfl rfl (fun K hK => ?_)
          go_simp
          refine (kdfOne_true _).mono ?_
          rintro e w10 ⟨rfl, hb⟩
          have S := Lib.hid (S.out.keep hb)
          clear hb
          refine hK.out _ _ (S.out) ?_
          clear hK K
          refine road_q (v := ?_) rfl rfl (S.out) ?_ ?_
          rotate_left
          · intro W hW
            go_simp
            with_reducible rfl
          simp only [Act.put, List.setIfInBounds_toArray, List.set_cons_zero, List.set_cons_succ]
          refine road_q (v := ?_) rfl rfl (S.out) ?_ ?_
          rotate_left
          · intro W hW
            go_simp
            with_reducible rfl
          simp only [Act.put, List.setIfInBounds_toArray, List.set_cons_zero, List.set_cons_succ]
          refine road_done ?_
          go_wp2_with fail
          go_ret
          exact ⟨rfl, S.out.bel⟩
    · have hE : ((k : Int) == 64) = false := by simp; omega
      have K64 := Lib.hid (show k < 64 by omega)
      have ME := Lib.hid (show macL (key ++ [0]) al = X by rw [macL_zero key al (by rw [KL.out]; exact K64.out), XE.out])
      go_upto_region 15 with fail
      have S := Lib.hid (S.out.keep (Below.refl _ _).drew)
      have SB := Lib.hid (SB.out.trans (Below.refl _ _).drew)
      refine wp_region_tree (OneB w 24 M X) (.q 0 (.q 1 (.q 2 (.q 3 (.q 5 (.q 9 (.q 12 (.three 4 (.three 6 (.two 7 (.two 8 (.t 10 (.t 11 (.q 13 (.q 14 (.q 15 (.t 16 (.q 17 (.q 18 .done)))))))) 10 (.t 8 (.t 11 (.q 13 (.q 14 (.q 15 (.t 16 (.q 17 (.q 18 .done))))))))) 10 (.t 7 (.t 8 (.t 11 (.q 13 (.q 14 (.q 15 (.t 16 (.q 17 (.q 18 .done)))))))))) 7 (.two 6 (.two 8 (.t 10 (.t 11 (.q 13 (.q 14 (.q 15 (.t 16 (.q 17 (.q 18 .done)))))))) 10 (.t 8 (.t 11 (.q 13 (.q 14 (.q 15 (.t 16 (.q 17 (.q 18 .done))))))))) 10 (.t 6 (.t 8 (.t 11 (.q 13 (.q 14 (.q 15 (.t 16 (.q 17 (.q 18 .done)))))))))) 10 (.two 6 (.t 7 (.t 8 (.t 11 (.q 13 (.q 14 (.q 15 (.t 16 (.q 17 (.q 18 .done))))))))) 7 (.t 6 (.t 8 (.t 11 (.q 13 (.q 14 (.q 15 (.t 16 (.q 17 (.q 18 .done))))))))))) 7 (.two 4 (.two 6 (.two 8 (.t 10 (.t 11 (.q 13 (.q 14 (.q 15 (.t 16 (.q 17 (.q 18 .done)))))))) 10 (.t 8 (.t 11 (.q 13 (.q 14 (.q 15 (.t 16 (.q 17 (.q 18 .done))))))))) 10 (.t 6 (.t 8 (.t 11 (.q 13 (.q 14 (.q 15 (.t 16 (.q 17 (.q 18 .done)))))))))) 10 (.t 4 (.t 6 (.t 8 (.t 11 (.q 13 (.q 14 (.q 15 (.t 16 (.q 17 (.q 18 .done))))))))))) 10 (.two 4 (.two 6 (.t 7 (.t 8 (.t 11 (.q 13 (.q 14 (.q 15 (.t 16 (.q 17 (.q 18 .done))))))))) 7 (.t 6 (.t 8 (.t 11 (.q 13 (.q 14 (.q 15 (.t 16 (.q 17 (.q 18 .done)))))))))) 7 (.t 4 (.t 6 (.t 8 (.t 11 (.q 13 (.q 14 (.q 15 (.t 16 (.q 17 (.q 18 .done))))))))))))))))))) (by kernel_rfl) (by kernel_rfl) (fun _ _ d _ _ h => by cases d <;> exact h) ?_
      generalize World.drew _ = wd at S SB ⊢
      have S0 := S
      have RA0 := Lib.hid (RA.out.keep SB.out)
      have D := Lib.hid (Below.refl wd.heap.size wd)
      refine road_q (v := ?_) rfl rfl (S.out) ?_ ?_
      rotate_left
      · intro W hW
        go_simp
        with_reducible rfl
      simp only [Act.put, List.setIfInBounds_toArray, List.set_cons_zero, List.set_cons_succ]
      refine road_q (v := ?_) rfl rfl (S.out) ?_ ?_
      rotate_left
      · intro W hW
        go_simp
        with_reducible rfl
      simp only [Act.put, List.setIfInBounds_toArray, List.set_cons_zero, List.set_cons_succ]
      refine road_q (v := ?_) rfl rfl (S.out) ?_ ?_
      rotate_left
      · intro W hW
        go_simp
        with_reducible rfl
      simp only [Act.put, List.setIfInBounds_toArray, List.set_cons_zero, List.set_cons_succ]
      refine road_q (v := ?_) rfl rfl (S.out) ?_ ?_
      rotate_left
      · intro W hW
        go_simp
        with_reducible rfl
      simp only [Act.put, List.setIfInBounds_toArray, List.set_cons_zero, List.set_cons_succ]
      refine road_q (v := ?_) rfl rfl (S.out) ?_ ?_
      rotate_left
      · intro W hW
        go_simp
        with_reducible rfl
      simp only [Act.put, List.setIfInBounds_toArray, List.set_cons_zero, List.set_cons_succ]
      refine road_q (v := ?_) rfl rfl (S.out) ?_ ?_
      rotate_left
      · intro W hW
        go_simp
        with_reducible rfl
      simp only [Act.put, List.setIfInBounds_toArray, List.set_cons_zero, List.set_cons_succ]
      refine road_q rfl rfl (S.out) (fun W hW => run_load_row 24 (.tmp 8) rfl M rfl 24 (W8 X) (0, 0) _ hW.b Try.underlying24 rfl ZX.out) ?_
      simp only [Act.put, List.setIfInBounds_toArray, List.set_cons_zero, List.set_cons_succ]
      refine road_three ?_ ?_ ?_
      ·
        refine road_t rfl rfl (fun K hK => ?_)
        go_simp
        generalize hB : Array.size (World.heap _) = N4
        generalize hw : World.alloc _ _ = wn
        obtain ⟨ho, _, hb⟩ := made_new hw hB D.out
        try have NE7 := Lib.hid (fresh_ne R7.out.lt1 hB)
        try have NE10 := Lib.hid (fresh_ne V.out.lt1 hB)
        try have O := Lib.hid (O.out.below hb)
        try have R7 := Lib.hid (R7.out.keep hb)
        try have V := Lib.hid (V.out.keep hb)
        have D := Lib.hid (D.out.trans (hb.mono D.out.size))
        have S := Lib.hid (S0.out.keep D.out)
        clear hb
        have O := Lib.hid ho
        clear hB hw ho
        refine hK.out _ _ (S.out) ?_
        clear hK K
        refine road_three ?_ ?_ ?_
        ·
          refine road_t rfl rfl (fun K hK => ?_)
          refine app_wp TB.out (.tmp 64) (.tmp 65) rfl wd.heap.size _ [] key A0 k c0 rfl rfl KL.out O.out (H0.out.keep S.out.bel) D.out.size (by have := K0.out.1; simp; omega) ?_
          intro vn wn ho hg hat
          try have NE7n := Lib.hid (ne_step NE7.out hat R7.out.lt1)
          try have NE10n := Lib.hid (ne_step NE10.out hat V.out.lt1)
          try have R7 := Lib.hid (R7.out.grown hg (fun g e a ea => by cases ea; exact NE7.out g e))
          try have V := Lib.hid (V.out.grown hg (fun g e a ea => by cases ea; exact NE10.out g e))
          try have NE7 := NE7n
          try have NE10 := NE10n
          have D := Lib.hid (below_own D.out O.out hg)
          have S := Lib.hid (S0.out.keep D.out)
          have O := Lib.hid ho
          clear ho hg hat
          refine hK.out _ _ (S.out) ?_
          clear hK K
          refine road_two ?_ ?_
          ·
            refine road_t rfl rfl (fun K hK => ?_)
            go_simp
            generalize hB : Array.size (World.heap _) = N7
            generalize hw : World.alloc _ _ = wn
            obtain ⟨hr, _, hb⟩ := built_one (x := 0) hw hB D.out
            try have NE7 := Lib.hid (fun g e => show N7 ≠ g by have := (O.out.lt g e).2; omega)
            try have O := Lib.hid (O.out.below hb)
            try have R7 := Lib.hid (R7.out.keep hb)
            try have V := Lib.hid (V.out.keep hb)
            have D := Lib.hid (D.out.trans (hb.mono D.out.size))
            have S := Lib.hid (S0.out.keep D.out)
            clear hb
            have R7 := Lib.hid hr
            clear hB hw hr
            refine hK.out _ _ (S.out) ?_
            clear hK K
            refine road_two ?_ ?_
            ·
              refine road_t rfl rfl (fun K hK => ?_)
              refine app_wp TB.out (.tmp 66) (.tmp 67) rfl wd.heap.size _ _ [0] (some ⟨N7, 0, none⟩) 1 1 rfl rfl rfl O.out R7.out D.out.size (by have := K0.out.1; have := KL.out; simp; omega) ?_
              intro vn wn ho hg hat
              try have NE7n := Lib.hid (ne_step NE7.out hat R7.out.lt1)
              try have NE10n := Lib.hid (ne_step NE10.out hat V.out.lt1)
              try have R7 := Lib.hid (R7.out.grown hg (fun g e a ea => by cases ea; exact NE7.out g e))
              try have V := Lib.hid (V.out.grown hg (fun g e a ea => by cases ea; exact NE10.out g e))
              try have NE7 := NE7n
              try have NE10 := NE10n
              have D := Lib.hid (below_own D.out O.out hg)
              have S := Lib.hid (S0.out.keep D.out)
              have O := Lib.hid ho
              clear ho hg hat
              refine hK.out _ _ (S.out) ?_
              clear hK K
              refine road_t rfl rfl (fun K hK => ?_)
              go_simp
              generalize hB : Array.size (World.heap _) = N10
              generalize hw : World.alloc _ _ = wn
              obtain ⟨hv, hb⟩ := built_rows hw hB
              try have NE10 := Lib.hid (fun g e => show N10 ≠ g by have := (O.out.lt g e).2; omega)
              try have O := Lib.hid (O.out.below hb)
              try have R7 := Lib.hid (R7.out.keep hb)
              try have V := Lib.hid (V.out.keep hb)
              have D := Lib.hid (D.out.trans (hb.mono D.out.size))
              have S := Lib.hid (S0.out.keep D.out)
              clear hb
              have V := Lib.hid hv
              clear hB hw hv
              refine hK.out _ _ (S.out) ?_
              clear hK K
              obtain ⟨A8, c8, rfl, hr, hl, _, _⟩ := O.out.read
              have LE := Lib.hid (show ([] ++ key ++ [0]).length = k + 1 by have := KL.out; simp; omega)
              rw [LE.out] at hl ⊢
              have R8 := Lib.hid hr
              have L8 := Lib.hid hl
              clear hr hl
              refine road_t rfl rfl (fun K hK => ?_)
              go_simp
              refine (mac_any _ A8 (k + 1) c8 ([] ++ key ++ [0]) LE.out L8.out R8.out (by have := K0.out.1; omega) (some ⟨N10, 0, none⟩) 1 1 _ [al] rfl V.out (.cons ⟨Aa, ca, by rw [AL.out], by rw [AL.out]; exact AC.out, RA0.out.keep D.out⟩ .nil) (by have := FL.out; simp [AL.out]; omega) (by omega)).mono ?_
              rw [show [al].flatten = al by simp, show [] ++ key ++ [0] = key ++ [0] by simp, ME.out]
              rintro e w9 ⟨rfl, hb⟩
              have S := Lib.hid (S.out.keep hb)
              clear hb V O R8
              refine hK.out _ _ (S.out) ?_
              clear hK K
              refine road_q rfl rfl (S.out) (fun W hW => run_eq_arr_true 24 _ (.tmp 71) (.tmp 72) rfl 5 32 Try.underlying24 Try.underlying5 (by kernel_rfl) (by kernel_rfl) X X XL.out rfl rfl rfl W) ?_
              simp only [Act.put, List.setIfInBounds_toArray, List.set_cons_zero, List.set_cons_succ]
              refine road_q (v := ?_) rfl rfl (S.out) ?_ ?_
              rotate_left
              · intro W hW
                go_simp
                with_reducible rfl
              simp only [Act.put, List.setIfInBounds_toArray, List.set_cons_zero, List.set_cons_succ]
              refine road_q (v := ?_) rfl rfl (S.out) ?_ ?_
              rotate_left
              · intro W hW
                go_simp
                with_reducible rfl
              simp only [Act.put, List.setIfInBounds_toArray, List.set_cons_zero, List.set_cons_succ]
              refine road_t rfl rfl (fun K hK => ?_)
              go_simp
              refine (kdfOne_true _).mono ?_
              rintro e w10 ⟨rfl, hb⟩
              have S := Lib.hid (S.out.keep hb)
              clear hb
              refine hK.out _ _ (S.out) ?_
              clear hK K
              refine road_q (v := ?_) rfl rfl (S.out) ?_ ?_
              rotate_left
              · intro W hW
                go_simp
                with_reducible rfl
              simp only [Act.put, List.setIfInBounds_toArray, List.set_cons_zero, List.set_cons_succ]
              refine road_q (v := ?_) rfl rfl (S.out) ?_ ?_
              rotate_left
              · intro W hW
                go_simp
                with_reducible rfl
              simp only [Act.put, List.setIfInBounds_toArray, List.set_cons_zero, List.set_cons_succ]
              refine road_done ?_
              go_wp2_with fail
              go_ret
              exact ⟨rfl, S.out.bel⟩
            ·
              refine road_t rfl rfl (fun K hK => ?_)
              go_simp
              generalize hB : Array.size (World.heap _) = N10
              generalize hw : World.alloc _ _ = wn
              obtain ⟨hv, hb⟩ := built_rows hw hB
              try have NE10 := Lib.hid (fun g e => show N10 ≠ g by have := (O.out.lt g e).2; omega)
              try have O := Lib.hid (O.out.below hb)
              try have R7 := Lib.hid (R7.out.keep hb)
              try have V := Lib.hid (V.out.keep hb)
              have D := Lib.hid (D.out.trans (hb.mono D.out.size))
              have S := Lib.hid (S0.out.keep D.out)
              clear hb
              have V := Lib.hid hv
              clear hB hw hv
              refine hK.out _ _ (S.out) ?_
              clear hK K
              refine road_t rfl rfl (fun K hK => ?_)
              refine app_wp TB.out (.tmp 66) (.tmp 67) rfl wd.heap.size _ _ [0] (some ⟨N7, 0, none⟩) 1 1 rfl rfl rfl O.out R7.out D.out.size (by have := K0.out.1; have := KL.out; simp; omega) ?_
              intro vn wn ho hg hat
              try have NE7n := Lib.hid (ne_step NE7.out hat R7.out.lt1)
              try have NE10n := Lib.hid (ne_step NE10.out hat V.out.lt1)
              try have R7 := Lib.hid (R7.out.grown hg (fun g e a ea => by cases ea; exact NE7.out g e))
              try have V := Lib.hid (V.out.grown hg (fun g e a ea => by cases ea; exact NE10.out g e))
              try have NE7 := NE7n
              try have NE10 := NE10n
              have D := Lib.hid (below_own D.out O.out hg)
              have S := Lib.hid (S0.out.keep D.out)
              have O := Lib.hid ho
              clear ho hg hat
              refine hK.out _ _ (S.out) ?_
              clear hK K
              obtain ⟨A8, c8, rfl, hr, hl, _, _⟩ := O.out.read
              have LE := Lib.hid (show ([] ++ key ++ [0]).length = k + 1 by have := KL.out; simp; omega)
              rw [LE.out] at hl ⊢
              have R8 := Lib.hid hr
              have L8 := Lib.hid hl
              clear hr hl
              refine road_t rfl rfl (fun K hK => ?_)
              go_simp
              refine (mac_any _ A8 (k + 1) c8 ([] ++ key ++ [0]) LE.out L8.out R8.out (by have := K0.out.1; omega) (some ⟨N10, 0, none⟩) 1 1 _ [al] rfl V.out (.cons ⟨Aa, ca, by rw [AL.out], by rw [AL.out]; exact AC.out, RA0.out.keep D.out⟩ .nil) (by have := FL.out; simp [AL.out]; omega) (by omega)).mono ?_
              rw [show [al].flatten = al by simp, show [] ++ key ++ [0] = key ++ [0] by simp, ME.out]
              rintro e w9 ⟨rfl, hb⟩
              have S := Lib.hid (S.out.keep hb)
              clear hb V O R8
              refine hK.out _ _ (S.out) ?_
              clear hK K
              refine road_q rfl rfl (S.out) (fun W hW => run_eq_arr_true 24 _ (.tmp 71) (.tmp 72) rfl 5 32 Try.underlying24 Try.underlying5 (by kernel_rfl) (by kernel_rfl) X X XL.out rfl rfl rfl W) ?_
              simp only [Act.put, List.setIfInBounds_toArray, List.set_cons_zero, List.set_cons_succ]
              refine road_q (v := ?_) rfl rfl (S.out) ?_ ?_
              rotate_left
              · intro W hW
                go_simp
                with_reducible rfl
              simp only [Act.put, List.setIfInBounds_toArray, List.set_cons_zero, List.set_cons_succ]
              refine road_q (v := ?_) rfl rfl (S.out) ?_ ?_
              rotate_left
              · intro W hW
                go_simp
                with_reducible rfl
              simp only [Act.put, List.setIfInBounds_toArray, List.set_cons_zero, List.set_cons_succ]
              refine road_t rfl rfl (fun K hK => ?_)
              go_simp
              refine (kdfOne_true _).mono ?_
              rintro e w10 ⟨rfl, hb⟩
              have S := Lib.hid (S.out.keep hb)
              clear hb
              refine hK.out _ _ (S.out) ?_
              clear hK K
              refine road_q (v := ?_) rfl rfl (S.out) ?_ ?_
              rotate_left
              · intro W hW
                go_simp
                with_reducible rfl
              simp only [Act.put, List.setIfInBounds_toArray, List.set_cons_zero, List.set_cons_succ]
              refine road_q (v := ?_) rfl rfl (S.out) ?_ ?_
              rotate_left
              · intro W hW
                go_simp
                with_reducible rfl
              simp only [Act.put, List.setIfInBounds_toArray, List.set_cons_zero, List.set_cons_succ]
              refine road_done ?_
              go_wp2_with fail
              go_ret
              exact ⟨rfl, S.out.bel⟩
          ·
            refine road_t rfl rfl (fun K hK => ?_)
            go_simp
            generalize hB : Array.size (World.heap _) = N10
            generalize hw : World.alloc _ _ = wn
            obtain ⟨hv, hb⟩ := built_rows hw hB
            try have NE10 := Lib.hid (fun g e => show N10 ≠ g by have := (O.out.lt g e).2; omega)
            try have O := Lib.hid (O.out.below hb)
            try have R7 := Lib.hid (R7.out.keep hb)
            try have V := Lib.hid (V.out.keep hb)
            have D := Lib.hid (D.out.trans (hb.mono D.out.size))
            have S := Lib.hid (S0.out.keep D.out)
            clear hb
            have V := Lib.hid hv
            clear hB hw hv
            refine hK.out _ _ (S.out) ?_
            clear hK K
            refine road_t rfl rfl (fun K hK => ?_)
            go_simp
            generalize hB : Array.size (World.heap _) = N7
            generalize hw : World.alloc _ _ = wn
            obtain ⟨hr, _, hb⟩ := built_one (x := 0) hw hB D.out
            try have NE7 := Lib.hid (fun g e => show N7 ≠ g by have := (O.out.lt g e).2; omega)
            try have O := Lib.hid (O.out.below hb)
            try have R7 := Lib.hid (R7.out.keep hb)
            try have V := Lib.hid (V.out.keep hb)
            have D := Lib.hid (D.out.trans (hb.mono D.out.size))
            have S := Lib.hid (S0.out.keep D.out)
            clear hb
            have R7 := Lib.hid hr
            clear hB hw hr
            refine hK.out _ _ (S.out) ?_
            clear hK K
            refine road_t rfl rfl (fun K hK => ?_)
            refine app_wp TB.out (.tmp 66) (.tmp 67) rfl wd.heap.size _ _ [0] (some ⟨N7, 0, none⟩) 1 1 rfl rfl rfl O.out R7.out D.out.size (by have := K0.out.1; have := KL.out; simp; omega) ?_
            intro vn wn ho hg hat
            try have NE7n := Lib.hid (ne_step NE7.out hat R7.out.lt1)
            try have NE10n := Lib.hid (ne_step NE10.out hat V.out.lt1)
            try have R7 := Lib.hid (R7.out.grown hg (fun g e a ea => by cases ea; exact NE7.out g e))
            try have V := Lib.hid (V.out.grown hg (fun g e a ea => by cases ea; exact NE10.out g e))
            try have NE7 := NE7n
            try have NE10 := NE10n
            have D := Lib.hid (below_own D.out O.out hg)
            have S := Lib.hid (S0.out.keep D.out)
            have O := Lib.hid ho
            clear ho hg hat
            refine hK.out _ _ (S.out) ?_
            clear hK K
            obtain ⟨A8, c8, rfl, hr, hl, _, _⟩ := O.out.read
            have LE := Lib.hid (show ([] ++ key ++ [0]).length = k + 1 by have := KL.out; simp; omega)
            rw [LE.out] at hl ⊢
            have R8 := Lib.hid hr
            have L8 := Lib.hid hl
            clear hr hl
            refine road_t rfl rfl (fun K hK => ?_)
            go_simp
            refine (mac_any _ A8 (k + 1) c8 ([] ++ key ++ [0]) LE.out L8.out R8.out (by have := K0.out.1; omega) (some ⟨N10, 0, none⟩) 1 1 _ [al] rfl V.out (.cons ⟨Aa, ca, by rw [AL.out], by rw [AL.out]; exact AC.out, RA0.out.keep D.out⟩ .nil) (by have := FL.out; simp [AL.out]; omega) (by omega)).mono ?_
            rw [show [al].flatten = al by simp, show [] ++ key ++ [0] = key ++ [0] by simp, ME.out]
            rintro e w9 ⟨rfl, hb⟩
            have S := Lib.hid (S.out.keep hb)
            clear hb V O R8
            refine hK.out _ _ (S.out) ?_
            clear hK K
            refine road_q rfl rfl (S.out) (fun W hW => run_eq_arr_true 24 _ (.tmp 71) (.tmp 72) rfl 5 32 Try.underlying24 Try.underlying5 (by kernel_rfl) (by kernel_rfl) X X XL.out rfl rfl rfl W) ?_
            simp only [Act.put, List.setIfInBounds_toArray, List.set_cons_zero, List.set_cons_succ]
            refine road_q (v := ?_) rfl rfl (S.out) ?_ ?_
            rotate_left
            · intro W hW
              go_simp
              with_reducible rfl
            simp only [Act.put, List.setIfInBounds_toArray, List.set_cons_zero, List.set_cons_succ]
            refine road_q (v := ?_) rfl rfl (S.out) ?_ ?_
            rotate_left
            · intro W hW
              go_simp
              with_reducible rfl
            simp only [Act.put, List.setIfInBounds_toArray, List.set_cons_zero, List.set_cons_succ]
            refine road_t rfl rfl (fun K hK => ?_)
            go_simp
            refine (kdfOne_true _).mono ?_
            rintro e w10 ⟨rfl, hb⟩
            have S := Lib.hid (S.out.keep hb)
            clear hb
            refine hK.out _ _ (S.out) ?_
            clear hK K
            refine road_q (v := ?_) rfl rfl (S.out) ?_ ?_
            rotate_left
            · intro W hW
              go_simp
              with_reducible rfl
            simp only [Act.put, List.setIfInBounds_toArray, List.set_cons_zero, List.set_cons_succ]
            refine road_q (v := ?_) rfl rfl (S.out) ?_ ?_
            rotate_left
            · intro W hW
              go_simp
              with_reducible rfl
            simp only [Act.put, List.setIfInBounds_toArray, List.set_cons_zero, List.set_cons_succ]
            refine road_done ?_
            go_wp2_with fail
            go_ret
            exact ⟨rfl, S.out.bel⟩
        ·
          refine road_t rfl rfl (fun K hK => ?_)
          go_simp
          generalize hB : Array.size (World.heap _) = N7
          generalize hw : World.alloc _ _ = wn
          obtain ⟨hr, _, hb⟩ := built_one (x := 0) hw hB D.out
          try have NE7 := Lib.hid (fun g e => show N7 ≠ g by have := (O.out.lt g e).2; omega)
          try have O := Lib.hid (O.out.below hb)
          try have R7 := Lib.hid (R7.out.keep hb)
          try have V := Lib.hid (V.out.keep hb)
          have D := Lib.hid (D.out.trans (hb.mono D.out.size))
          have S := Lib.hid (S0.out.keep D.out)
          clear hb
          have R7 := Lib.hid hr
          clear hB hw hr
          refine hK.out _ _ (S.out) ?_
          clear hK K
          refine road_two ?_ ?_
          ·
            refine road_t rfl rfl (fun K hK => ?_)
            refine app_wp TB.out (.tmp 64) (.tmp 65) rfl wd.heap.size _ [] key A0 k c0 rfl rfl KL.out O.out (H0.out.keep S.out.bel) D.out.size (by have := K0.out.1; simp; omega) ?_
            intro vn wn ho hg hat
            try have NE7n := Lib.hid (ne_step NE7.out hat R7.out.lt1)
            try have NE10n := Lib.hid (ne_step NE10.out hat V.out.lt1)
            try have R7 := Lib.hid (R7.out.grown hg (fun g e a ea => by cases ea; exact NE7.out g e))
            try have V := Lib.hid (V.out.grown hg (fun g e a ea => by cases ea; exact NE10.out g e))
            try have NE7 := NE7n
            try have NE10 := NE10n
            have D := Lib.hid (below_own D.out O.out hg)
            have S := Lib.hid (S0.out.keep D.out)
            have O := Lib.hid ho
            clear ho hg hat
            refine hK.out _ _ (S.out) ?_
            clear hK K
            refine road_two ?_ ?_
            ·
              refine road_t rfl rfl (fun K hK => ?_)
              refine app_wp TB.out (.tmp 66) (.tmp 67) rfl wd.heap.size _ _ [0] (some ⟨N7, 0, none⟩) 1 1 rfl rfl rfl O.out R7.out D.out.size (by have := K0.out.1; have := KL.out; simp; omega) ?_
              intro vn wn ho hg hat
              try have NE7n := Lib.hid (ne_step NE7.out hat R7.out.lt1)
              try have NE10n := Lib.hid (ne_step NE10.out hat V.out.lt1)
              try have R7 := Lib.hid (R7.out.grown hg (fun g e a ea => by cases ea; exact NE7.out g e))
              try have V := Lib.hid (V.out.grown hg (fun g e a ea => by cases ea; exact NE10.out g e))
              try have NE7 := NE7n
              try have NE10 := NE10n
              have D := Lib.hid (below_own D.out O.out hg)
              have S := Lib.hid (S0.out.keep D.out)
              have O := Lib.hid ho
              clear ho hg hat
              refine hK.out _ _ (S.out) ?_
              clear hK K
              refine road_t rfl rfl (fun K hK => ?_)
              go_simp
              generalize hB : Array.size (World.heap _) = N10
              generalize hw : World.alloc _ _ = wn
              obtain ⟨hv, hb⟩ := built_rows hw hB
              try have NE10 := Lib.hid (fun g e => show N10 ≠ g by have := (O.out.lt g e).2; omega)
              try have O := Lib.hid (O.out.below hb)
              try have R7 := Lib.hid (R7.out.keep hb)
              try have V := Lib.hid (V.out.keep hb)
              have D := Lib.hid (D.out.trans (hb.mono D.out.size))
              have S := Lib.hid (S0.out.keep D.out)
              clear hb
              have V := Lib.hid hv
              clear hB hw hv
              refine hK.out _ _ (S.out) ?_
              clear hK K
              obtain ⟨A8, c8, rfl, hr, hl, _, _⟩ := O.out.read
              have LE := Lib.hid (show ([] ++ key ++ [0]).length = k + 1 by have := KL.out; simp; omega)
              rw [LE.out] at hl ⊢
              have R8 := Lib.hid hr
              have L8 := Lib.hid hl
              clear hr hl
              refine road_t rfl rfl (fun K hK => ?_)
              go_simp
              refine (mac_any _ A8 (k + 1) c8 ([] ++ key ++ [0]) LE.out L8.out R8.out (by have := K0.out.1; omega) (some ⟨N10, 0, none⟩) 1 1 _ [al] rfl V.out (.cons ⟨Aa, ca, by rw [AL.out], by rw [AL.out]; exact AC.out, RA0.out.keep D.out⟩ .nil) (by have := FL.out; simp [AL.out]; omega) (by omega)).mono ?_
              rw [show [al].flatten = al by simp, show [] ++ key ++ [0] = key ++ [0] by simp, ME.out]
              rintro e w9 ⟨rfl, hb⟩
              have S := Lib.hid (S.out.keep hb)
              clear hb V O R8
              refine hK.out _ _ (S.out) ?_
              clear hK K
              refine road_q rfl rfl (S.out) (fun W hW => run_eq_arr_true 24 _ (.tmp 71) (.tmp 72) rfl 5 32 Try.underlying24 Try.underlying5 (by kernel_rfl) (by kernel_rfl) X X XL.out rfl rfl rfl W) ?_
              simp only [Act.put, List.setIfInBounds_toArray, List.set_cons_zero, List.set_cons_succ]
              refine road_q (v := ?_) rfl rfl (S.out) ?_ ?_
              rotate_left
              · intro W hW
                go_simp
                with_reducible rfl
              simp only [Act.put, List.setIfInBounds_toArray, List.set_cons_zero, List.set_cons_succ]
              refine road_q (v := ?_) rfl rfl (S.out) ?_ ?_
              rotate_left
              · intro W hW
                go_simp
                with_reducible rfl
              simp only [Act.put, List.setIfInBounds_toArray, List.set_cons_zero, List.set_cons_succ]
              refine road_t rfl rfl (fun K hK => ?_)
              go_simp
              refine (kdfOne_true _).mono ?_
              rintro e w10 ⟨rfl, hb⟩
              have S := Lib.hid (S.out.keep hb)
              clear hb
              refine hK.out _ _ (S.out) ?_
              clear hK K
              refine road_q (v := ?_) rfl rfl (S.out) ?_ ?_
              rotate_left
              · intro W hW
                go_simp
                with_reducible rfl
              simp only [Act.put, List.setIfInBounds_toArray, List.set_cons_zero, List.set_cons_succ]
              refine road_q (v := ?_) rfl rfl (S.out) ?_ ?_
              rotate_left
              · intro W hW
                go_simp
                with_reducible rfl
              simp only [Act.put, List.setIfInBounds_toArray, List.set_cons_zero, List.set_cons_succ]
              refine road_done ?_
              go_wp2_with fail
              go_ret
              exact ⟨rfl, S.out.bel⟩
            ·
              refine road_t rfl rfl (fun K hK => ?_)
              go_simp
              generalize hB : Array.size (World.heap _) = N10
              generalize hw : World.alloc _ _ = wn
              obtain ⟨hv, hb⟩ := built_rows hw hB
              try have NE10 := Lib.hid (fun g e => show N10 ≠ g by have := (O.out.lt g e).2; omega)
              try have O := Lib.hid (O.out.below hb)
              try have R7 := Lib.hid (R7.out.keep hb)
              try have V := Lib.hid (V.out.keep hb)
              have D := Lib.hid (D.out.trans (hb.mono D.out.size))
              have S := Lib.hid (S0.out.keep D.out)
              clear hb
              have V := Lib.hid hv
              clear hB hw hv
              refine hK.out _ _ (S.out) ?_
              clear hK K
              refine road_t rfl rfl (fun K hK => ?_)
              refine app_wp TB.out (.tmp 66) (.tmp 67) rfl wd.heap.size _ _ [0] (some ⟨N7, 0, none⟩) 1 1 rfl rfl rfl O.out R7.out D.out.size (by have := K0.out.1; have := KL.out; simp; omega) ?_
              intro vn wn ho hg hat
              try have NE7n := Lib.hid (ne_step NE7.out hat R7.out.lt1)
              try have NE10n := Lib.hid (ne_step NE10.out hat V.out.lt1)
              try have R7 := Lib.hid (R7.out.grown hg (fun g e a ea => by cases ea; exact NE7.out g e))
              try have V := Lib.hid (V.out.grown hg (fun g e a ea => by cases ea; exact NE10.out g e))
              try have NE7 := NE7n
              try have NE10 := NE10n
              have D := Lib.hid (below_own D.out O.out hg)
              have S := Lib.hid (S0.out.keep D.out)
              have O := Lib.hid ho
              clear ho hg hat
              refine hK.out _ _ (S.out) ?_
              clear hK K
              obtain ⟨A8, c8, rfl, hr, hl, _, _⟩ := O.out.read
              have LE := Lib.hid (show ([] ++ key ++ [0]).length = k + 1 by have := KL.out; simp; omega)
              rw [LE.out] at hl ⊢
              have R8 := Lib.hid hr
              have L8 := Lib.hid hl
              clear hr hl
              refine road_t rfl rfl (fun K hK => ?_)
              go_simp
              refine (mac_any _ A8 (k + 1) c8 ([] ++ key ++ [0]) LE.out L8.out R8.out (by have := K0.out.1; omega) (some ⟨N10, 0, none⟩) 1 1 _ [al] rfl V.out (.cons ⟨Aa, ca, by rw [AL.out], by rw [AL.out]; exact AC.out, RA0.out.keep D.out⟩ .nil) (by have := FL.out; simp [AL.out]; omega) (by omega)).mono ?_
              rw [show [al].flatten = al by simp, show [] ++ key ++ [0] = key ++ [0] by simp, ME.out]
              rintro e w9 ⟨rfl, hb⟩
              have S := Lib.hid (S.out.keep hb)
              clear hb V O R8
              refine hK.out _ _ (S.out) ?_
              clear hK K
              refine road_q rfl rfl (S.out) (fun W hW => run_eq_arr_true 24 _ (.tmp 71) (.tmp 72) rfl 5 32 Try.underlying24 Try.underlying5 (by kernel_rfl) (by kernel_rfl) X X XL.out rfl rfl rfl W) ?_
              simp only [Act.put, List.setIfInBounds_toArray, List.set_cons_zero, List.set_cons_succ]
              refine road_q (v := ?_) rfl rfl (S.out) ?_ ?_
              rotate_left
              · intro W hW
                go_simp
                with_reducible rfl
              simp only [Act.put, List.setIfInBounds_toArray, List.set_cons_zero, List.set_cons_succ]
              refine road_q (v := ?_) rfl rfl (S.out) ?_ ?_
              rotate_left
              · intro W hW
                go_simp
                with_reducible rfl
              simp only [Act.put, List.setIfInBounds_toArray, List.set_cons_zero, List.set_cons_succ]
              refine road_t rfl rfl (fun K hK => ?_)
              go_simp
              refine (kdfOne_true _).mono ?_
              rintro e w10 ⟨rfl, hb⟩
              have S := Lib.hid (S.out.keep hb)
              clear hb
              refine hK.out _ _ (S.out) ?_
              clear hK K
              refine road_q (v := ?_) rfl rfl (S.out) ?_ ?_
              rotate_left
              · intro W hW
                go_simp
                with_reducible rfl
              simp only [Act.put, List.setIfInBounds_toArray, List.set_cons_zero, List.set_cons_succ]
              refine road_q (v := ?_) rfl rfl (S.out) ?_ ?_
              rotate_left
              · intro W hW
                go_simp
                with_reducible rfl
              simp only [Act.put, List.setIfInBounds_toArray, List.set_cons_zero, List.set_cons_succ]
              refine road_done ?_
              go_wp2_with fail
              go_ret
              exact ⟨rfl, S.out.bel⟩
          ·
            refine road_t rfl rfl (fun K hK => ?_)
            go_simp
            generalize hB : Array.size (World.heap _) = N10
            generalize hw : World.alloc _ _ = wn
            obtain ⟨hv, hb⟩ := built_rows hw hB
            try have NE10 := Lib.hid (fun g e => show N10 ≠ g by have := (O.out.lt g e).2; omega)
            try have O := Lib.hid (O.out.below hb)
            try have R7 := Lib.hid (R7.out.keep hb)
            try have V := Lib.hid (V.out.keep hb)
            have D := Lib.hid (D.out.trans (hb.mono D.out.size))
            have S := Lib.hid (S0.out.keep D.out)
            clear hb
            have V := Lib.hid hv
            clear hB hw hv
            refine hK.out _ _ (S.out) ?_
            clear hK K
            refine road_t rfl rfl (fun K hK => ?_)
            refine app_wp TB.out (.tmp 64) (.tmp 65) rfl wd.heap.size _ [] key A0 k c0 rfl rfl KL.out O.out (H0.out.keep S.out.bel) D.out.size (by have := K0.out.1; simp; omega) ?_
            intro vn wn ho hg hat
            try have NE7n := Lib.hid (ne_step NE7.out hat R7.out.lt1)
            try have NE10n := Lib.hid (ne_step NE10.out hat V.out.lt1)
            try have R7 := Lib.hid (R7.out.grown hg (fun g e a ea => by cases ea; exact NE7.out g e))
            try have V := Lib.hid (V.out.grown hg (fun g e a ea => by cases ea; exact NE10.out g e))
            try have NE7 := NE7n
            try have NE10 := NE10n
            have D := Lib.hid (below_own D.out O.out hg)
            have S := Lib.hid (S0.out.keep D.out)
            have O := Lib.hid ho
            clear ho hg hat
            refine hK.out _ _ (S.out) ?_
            clear hK K
            refine road_t rfl rfl (fun K hK => ?_)
            refine app_wp TB.out (.tmp 66) (.tmp 67) rfl wd.heap.size _ _ [0] (some ⟨N7, 0, none⟩) 1 1 rfl rfl rfl O.out R7.out D.out.size (by have := K0.out.1; have := KL.out; simp; omega) ?_
            intro vn wn ho hg hat
            try have NE7n := Lib.hid (ne_step NE7.out hat R7.out.lt1)
            try have NE10n := Lib.hid (ne_step NE10.out hat V.out.lt1)
            try have R7 := Lib.hid (R7.out.grown hg (fun g e a ea => by cases ea; exact NE7.out g e))
            try have V := Lib.hid (V.out.grown hg (fun g e a ea => by cases ea; exact NE10.out g e))
            try have NE7 := NE7n
            try have NE10 := NE10n
            have D := Lib.hid (below_own D.out O.out hg)
            have S := Lib.hid (S0.out.keep D.out)
            have O := Lib.hid ho
            clear ho hg hat
            refine hK.out _ _ (S.out) ?_
            clear hK K
            obtain ⟨A8, c8, rfl, hr, hl, _, _⟩ := O.out.read
            have LE := Lib.hid (show ([] ++ key ++ [0]).length = k + 1 by have := KL.out; simp; omega)
            rw [LE.out] at hl ⊢
            have R8 := Lib.hid hr
            have L8 := Lib.hid hl
            clear hr hl
            refine road_t rfl rfl (fun K hK => ?_)
            go_simp
            refine (mac_any _ A8 (k + 1) c8 ([] ++ key ++ [0]) LE.out L8.out R8.out (by have := K0.out.1; omega) (some ⟨N10, 0, none⟩) 1 1 _ [al] rfl V.out (.cons ⟨Aa, ca, by rw [AL.out], by rw [AL.out]; exact AC.out, RA0.out.keep D.out⟩ .nil) (by have := FL.out; simp [AL.out]; omega) (by omega)).mono ?_
            rw [show [al].flatten = al by simp, show [] ++ key ++ [0] = key ++ [0] by simp, ME.out]
            rintro e w9 ⟨rfl, hb⟩
            have S := Lib.hid (S.out.keep hb)
            clear hb V O R8
            refine hK.out _ _ (S.out) ?_
            clear hK K
            refine road_q rfl rfl (S.out) (fun W hW => run_eq_arr_true 24 _ (.tmp 71) (.tmp 72) rfl 5 32 Try.underlying24 Try.underlying5 (by kernel_rfl) (by kernel_rfl) X X XL.out rfl rfl rfl W) ?_
            simp only [Act.put, List.setIfInBounds_toArray, List.set_cons_zero, List.set_cons_succ]
            refine road_q (v := ?_) rfl rfl (S.out) ?_ ?_
            rotate_left
            · intro W hW
              go_simp
              with_reducible rfl
            simp only [Act.put, List.setIfInBounds_toArray, List.set_cons_zero, List.set_cons_succ]
            refine road_q (v := ?_) rfl rfl (S.out) ?_ ?_
            rotate_left
            · intro W hW
              go_simp
              with_reducible rfl
            simp only [Act.put, List.setIfInBounds_toArray, List.set_cons_zero, List.set_cons_succ]
            refine road_t rfl rfl (fun K hK => ?_)
            go_simp
            refine (kdfOne_true _).mono ?_
            rintro e w10 ⟨rfl, hb⟩
            have S := Lib.hid (S.out.keep hb)
            clear hb
            refine hK.out _ _ (S.out) ?_
            clear hK K
            refine road_q (v := ?_) rfl rfl (S.out) ?_ ?_
            rotate_left
            · intro W hW
              go_simp
              with_reducible rfl
            simp only [Act.put, List.setIfInBounds_toArray, List.set_cons_zero, List.set_cons_succ]
            refine road_q (v := ?_) rfl rfl (S.out) ?_ ?_
            rotate_left
            · intro W hW
              go_simp
              with_reducible rfl
            simp only [Act.put, List.setIfInBounds_toArray, List.set_cons_zero, List.set_cons_succ]
            refine road_done ?_
            go_wp2_with fail
            go_ret
            exact ⟨rfl, S.out.bel⟩
        ·
          refine road_t rfl rfl (fun K hK => ?_)
          go_simp
          generalize hB : Array.size (World.heap _) = N10
          generalize hw : World.alloc _ _ = wn
          obtain ⟨hv, hb⟩ := built_rows hw hB
          try have NE10 := Lib.hid (fun g e => show N10 ≠ g by have := (O.out.lt g e).2; omega)
          try have O := Lib.hid (O.out.below hb)
          try have R7 := Lib.hid (R7.out.keep hb)
          try have V := Lib.hid (V.out.keep hb)
          have D := Lib.hid (D.out.trans (hb.mono D.out.size))
          have S := Lib.hid (S0.out.keep D.out)
          clear hb
          have V := Lib.hid hv
          clear hB hw hv
          refine hK.out _ _ (S.out) ?_
          clear hK K
          refine road_two ?_ ?_
          ·
            refine road_t rfl rfl (fun K hK => ?_)
            refine app_wp TB.out (.tmp 64) (.tmp 65) rfl wd.heap.size _ [] key A0 k c0 rfl rfl KL.out O.out (H0.out.keep S.out.bel) D.out.size (by have := K0.out.1; simp; omega) ?_
            intro vn wn ho hg hat
            try have NE7n := Lib.hid (ne_step NE7.out hat R7.out.lt1)
            try have NE10n := Lib.hid (ne_step NE10.out hat V.out.lt1)
            try have R7 := Lib.hid (R7.out.grown hg (fun g e a ea => by cases ea; exact NE7.out g e))
            try have V := Lib.hid (V.out.grown hg (fun g e a ea => by cases ea; exact NE10.out g e))
            try have NE7 := NE7n
            try have NE10 := NE10n
            have D := Lib.hid (below_own D.out O.out hg)
            have S := Lib.hid (S0.out.keep D.out)
            have O := Lib.hid ho
            clear ho hg hat
            refine hK.out _ _ (S.out) ?_
            clear hK K
            refine road_t rfl rfl (fun K hK => ?_)
            go_simp
            generalize hB : Array.size (World.heap _) = N7
            generalize hw : World.alloc _ _ = wn
            obtain ⟨hr, _, hb⟩ := built_one (x := 0) hw hB D.out
            try have NE7 := Lib.hid (fun g e => show N7 ≠ g by have := (O.out.lt g e).2; omega)
            try have O := Lib.hid (O.out.below hb)
            try have R7 := Lib.hid (R7.out.keep hb)
            try have V := Lib.hid (V.out.keep hb)
            have D := Lib.hid (D.out.trans (hb.mono D.out.size))
            have S := Lib.hid (S0.out.keep D.out)
            clear hb
            have R7 := Lib.hid hr
            clear hB hw hr
            refine hK.out _ _ (S.out) ?_
            clear hK K
            refine road_t rfl rfl (fun K hK => ?_)
            refine app_wp TB.out (.tmp 66) (.tmp 67) rfl wd.heap.size _ _ [0] (some ⟨N7, 0, none⟩) 1 1 rfl rfl rfl O.out R7.out D.out.size (by have := K0.out.1; have := KL.out; simp; omega) ?_
            intro vn wn ho hg hat
            try have NE7n := Lib.hid (ne_step NE7.out hat R7.out.lt1)
            try have NE10n := Lib.hid (ne_step NE10.out hat V.out.lt1)
            try have R7 := Lib.hid (R7.out.grown hg (fun g e a ea => by cases ea; exact NE7.out g e))
            try have V := Lib.hid (V.out.grown hg (fun g e a ea => by cases ea; exact NE10.out g e))
            try have NE7 := NE7n
            try have NE10 := NE10n
            have D := Lib.hid (below_own D.out O.out hg)
            have S := Lib.hid (S0.out.keep D.out)
            have O := Lib.hid ho
            clear ho hg hat
            refine hK.out _ _ (S.out) ?_
            clear hK K
            obtain ⟨A8, c8, rfl, hr, hl, _, _⟩ := O.out.read
            have LE := Lib.hid (show ([] ++ key ++ [0]).length = k + 1 by have := KL.out; simp; omega)
            rw [LE.out] at hl ⊢
            have R8 := Lib.hid hr
            have L8 := Lib.hid hl
            clear hr hl
            refine road_t rfl rfl (fun K hK => ?_)
            go_simp
            refine (mac_any _ A8 (k + 1) c8 ([] ++ key ++ [0]) LE.out L8.out R8.out (by have := K0.out.1; omega) (some ⟨N10, 0, none⟩) 1 1 _ [al] rfl V.out (.cons ⟨Aa, ca, by rw [AL.out], by rw [AL.out]; exact AC.out, RA0.out.keep D.out⟩ .nil) (by have := FL.out; simp [AL.out]; omega) (by omega)).mono ?_
            rw [show [al].flatten = al by simp, show [] ++ key ++ [0] = key ++ [0] by simp, ME.out]
            rintro e w9 ⟨rfl, hb⟩
            have S := Lib.hid (S.out.keep hb)
            clear hb V O R8
            refine hK.out _ _ (S.out) ?_
            clear hK K
            refine road_q rfl rfl (S.out) (fun W hW => run_eq_arr_true 24 _ (.tmp 71) (.tmp 72) rfl 5 32 Try.underlying24 Try.underlying5 (by kernel_rfl) (by kernel_rfl) X X XL.out rfl rfl rfl W) ?_
            simp only [Act.put, List.setIfInBounds_toArray, List.set_cons_zero, List.set_cons_succ]
            refine road_q (v := ?_) rfl rfl (S.out) ?_ ?_
            rotate_left
            · intro W hW
              go_simp
              with_reducible rfl
            simp only [Act.put, List.setIfInBounds_toArray, List.set_cons_zero, List.set_cons_succ]
            refine road_q (v := ?_) rfl rfl (S.out) ?_ ?_
            rotate_left
            · intro W hW
              go_simp
              with_reducible rfl
            simp only [Act.put, List.setIfInBounds_toArray, List.set_cons_zero, List.set_cons_succ]
            refine road_t rfl rfl (fun K hK => ?_)
            go_simp
            refine (kdfOne_true _).mono ?_
            rintro e w10 ⟨rfl, hb⟩
            have S := Lib.hid (S.out.keep hb)
            clear hb
            refine hK.out _ _ (S.out) ?_
            clear hK K
            refine road_q (v := ?_) rfl rfl (S.out) ?_ ?_
            rotate_left
            · intro W hW
              go_simp
              with_reducible rfl
            simp only [Act.put, List.setIfInBounds_toArray, List.set_cons_zero, List.set_cons_succ]
            refine road_q (v := ?_) rfl rfl (S.out) ?_ ?_
            rotate_left
            · intro W hW
              go_simp
              with_reducible rfl
            simp only [Act.put, List.setIfInBounds_toArray, List.set_cons_zero, List.set_cons_succ]
            refine road_done ?_
            go_wp2_with fail
            go_ret
            exact ⟨rfl, S.out.bel⟩
          ·
            refine road_t rfl rfl (fun K hK => ?_)
            go_simp
            generalize hB : Array.size (World.heap _) = N7
            generalize hw : World.alloc _ _ = wn
            obtain ⟨hr, _, hb⟩ := built_one (x := 0) hw hB D.out
            try have NE7 := Lib.hid (fun g e => show N7 ≠ g by have := (O.out.lt g e).2; omega)
            try have O := Lib.hid (O.out.below hb)
            try have R7 := Lib.hid (R7.out.keep hb)
            try have V := Lib.hid (V.out.keep hb)
            have D := Lib.hid (D.out.trans (hb.mono D.out.size))
            have S := Lib.hid (S0.out.keep D.out)
            clear hb
            have R7 := Lib.hid hr
            clear hB hw hr
            refine hK.out _ _ (S.out) ?_
            clear hK K
            refine road_t rfl rfl (fun K hK => ?_)
            refine app_wp TB.out (.tmp 64) (.tmp 65) rfl wd.heap.size _ [] key A0 k c0 rfl rfl KL.out O.out (H0.out.keep S.out.bel) D.out.size (by have := K0.out.1; simp; omega) ?_
            intro vn wn ho hg hat
            try have NE7n := Lib.hid (ne_step NE7.out hat R7.out.lt1)
            try have NE10n := Lib.hid (ne_step NE10.out hat V.out.lt1)
            try have R7 := Lib.hid (R7.out.grown hg (fun g e a ea => by cases ea; exact NE7.out g e))
            try have V := Lib.hid (V.out.grown hg (fun g e a ea => by cases ea; exact NE10.out g e))
            try have NE7 := NE7n
            try have NE10 := NE10n
            have D := Lib.hid (below_own D.out O.out hg)
            have S := Lib.hid (S0.out.keep D.out)
            have O := Lib.hid ho
            clear ho hg hat
            refine hK.out _ _ (S.out) ?_
            clear hK K
            refine road_t rfl rfl (fun K hK => ?_)
            refine app_wp TB.out (.tmp 66) (.tmp 67) rfl wd.heap.size _ _ [0] (some ⟨N7, 0, none⟩) 1 1 rfl rfl rfl O.out R7.out D.out.size (by have := K0.out.1; have := KL.out; simp; omega) ?_
            intro vn wn ho hg hat
            try have NE7n := Lib.hid (ne_step NE7.out hat R7.out.lt1)
            try have NE10n := Lib.hid (ne_step NE10.out hat V.out.lt1)
            try have R7 := Lib.hid (R7.out.grown hg (fun g e a ea => by cases ea; exact NE7.out g e))
            try have V := Lib.hid (V.out.grown hg (fun g e a ea => by cases ea; exact NE10.out g e))
            try have NE7 := NE7n
            try have NE10 := NE10n
            have D := Lib.hid (below_own D.out O.out hg)
            have S := Lib.hid (S0.out.keep D.out)
            have O := Lib.hid ho
            clear ho hg hat
            refine hK.out _ _ (S.out) ?_
            clear hK K
            obtain ⟨A8, c8, rfl, hr, hl, _, _⟩ := O.out.read
            have LE := Lib.hid (show ([] ++ key ++ [0]).length = k + 1 by have := KL.out; simp; omega)
            rw [LE.out] at hl ⊢
            have R8 := Lib.hid hr
            have L8 := Lib.hid hl
            clear hr hl
            refine road_t rfl rfl (fun K hK => ?_)
            go_simp
            refine (mac_any _ A8 (k + 1) c8 ([] ++ key ++ [0]) LE.out L8.out R8.out (by have := K0.out.1; omega) (some ⟨N10, 0, none⟩) 1 1 _ [al] rfl V.out (.cons ⟨Aa, ca, by rw [AL.out], by rw [AL.out]; exact AC.out, RA0.out.keep D.out⟩ .nil) (by have := FL.out; simp [AL.out]; omega) (by omega)).mono ?_
            rw [show [al].flatten = al by simp, show [] ++ key ++ [0] = key ++ [0] by simp, ME.out]
            rintro e w9 ⟨rfl, hb⟩
            have S := Lib.hid (S.out.keep hb)
            clear hb V O R8
            refine hK.out _ _ (S.out) ?_
            clear hK K
            refine road_q rfl rfl (S.out) (fun W hW => run_eq_arr_true 24 _ (.tmp 71) (.tmp 72) rfl 5 32 Try.underlying24 Try.underlying5 (by kernel_rfl) (by kernel_rfl) X X XL.out rfl rfl rfl W) ?_
            simp only [Act.put, List.setIfInBounds_toArray, List.set_cons_zero, List.set_cons_succ]
            refine road_q (v := ?_) rfl rfl (S.out) ?_ ?_
            rotate_left
            · intro W hW
              go_simp
              with_reducible rfl
            simp only [Act.put, List.setIfInBounds_toArray, List.set_cons_zero, List.set_cons_succ]
            refine road_q (v := ?_) rfl rfl (S.out) ?_ ?_
            rotate_left
            · intro W hW
              go_simp
              with_reducible rfl
            simp only [Act.put, List.setIfInBounds_toArray, List.set_cons_zero, List.set_cons_succ]
            refine road_t rfl rfl (fun K hK => ?_)
            go_simp
            refine (kdfOne_true _).mono ?_
            rintro e w10 ⟨rfl, hb⟩
            have S := Lib.hid (S.out.keep hb)
            clear hb
            refine hK.out _ _ (S.out) ?_
            clear hK K
            refine road_q (v := ?_) rfl rfl (S.out) ?_ ?_
            rotate_left
            · intro W hW
              go_simp
              with_reducible rfl
            simp only [Act.put, List.setIfInBounds_toArray, List.set_cons_zero, List.set_cons_succ]
            refine road_q (v := ?_) rfl rfl (S.out) ?_ ?_
            rotate_left
            · intro W hW
              go_simp
              with_reducible rfl
            simp only [Act.put, List.setIfInBounds_toArray, List.set_cons_zero, List.set_cons_succ]
            refine road_done ?_
            go_wp2_with fail
            go_ret
            exact ⟨rfl, S.out.bel⟩
      ·
        refine road_t rfl rfl (fun K hK => ?_)
        go_simp
        generalize hB : Array.size (World.heap _) = N7
        generalize hw : World.alloc _ _ = wn
        obtain ⟨hr, _, hb⟩ := built_one (x := 0) hw hB D.out
        try have NE7 := Lib.hid (fun g e => show N7 ≠ g by have := (O.out.lt g e).2; omega)
        try have O := Lib.hid (O.out.below hb)
        try have R7 := Lib.hid (R7.out.keep hb)
        try have V := Lib.hid (V.out.keep hb)
        have D := Lib.hid (D.out.trans (hb.mono D.out.size))
        have S := Lib.hid (S0.out.keep D.out)
        clear hb
        have R7 := Lib.hid hr
        clear hB hw hr
        refine hK.out _ _ (S.out) ?_
        clear hK K
        refine road_two ?_ ?_
        ·
          refine road_t rfl rfl (fun K hK => ?_)
          go_simp
          generalize hB : Array.size (World.heap _) = N4
          generalize hw : World.alloc _ _ = wn
          obtain ⟨ho, _, hb⟩ := made_new hw hB D.out
          try have NE7 := Lib.hid (fresh_ne R7.out.lt1 hB)
          try have NE10 := Lib.hid (fresh_ne V.out.lt1 hB)
          try have O := Lib.hid (O.out.below hb)
          try have R7 := Lib.hid (R7.out.keep hb)
          try have V := Lib.hid (V.out.keep hb)
          have D := Lib.hid (D.out.trans (hb.mono D.out.size))
          have S := Lib.hid (S0.out.keep D.out)
          clear hb
          have O := Lib.hid ho
          clear hB hw ho
          refine hK.out _ _ (S.out) ?_
          clear hK K
          refine road_two ?_ ?_
          ·
            refine road_t rfl rfl (fun K hK => ?_)
            refine app_wp TB.out (.tmp 64) (.tmp 65) rfl wd.heap.size _ [] key A0 k c0 rfl rfl KL.out O.out (H0.out.keep S.out.bel) D.out.size (by have := K0.out.1; simp; omega) ?_
            intro vn wn ho hg hat
            try have NE7n := Lib.hid (ne_step NE7.out hat R7.out.lt1)
            try have NE10n := Lib.hid (ne_step NE10.out hat V.out.lt1)
            try have R7 := Lib.hid (R7.out.grown hg (fun g e a ea => by cases ea; exact NE7.out g e))
            try have V := Lib.hid (V.out.grown hg (fun g e a ea => by cases ea; exact NE10.out g e))
            try have NE7 := NE7n
            try have NE10 := NE10n
            have D := Lib.hid (below_own D.out O.out hg)
            have S := Lib.hid (S0.out.keep D.out)
            have O := Lib.hid ho
            clear ho hg hat
            refine hK.out _ _ (S.out) ?_
            clear hK K
            refine road_two ?_ ?_
            ·
              refine road_t rfl rfl (fun K hK => ?_)
              refine app_wp TB.out (.tmp 66) (.tmp 67) rfl wd.heap.size _ _ [0] (some ⟨N7, 0, none⟩) 1 1 rfl rfl rfl O.out R7.out D.out.size (by have := K0.out.1; have := KL.out; simp; omega) ?_
              intro vn wn ho hg hat
              try have NE7n := Lib.hid (ne_step NE7.out hat R7.out.lt1)
              try have NE10n := Lib.hid (ne_step NE10.out hat V.out.lt1)
              try have R7 := Lib.hid (R7.out.grown hg (fun g e a ea => by cases ea; exact NE7.out g e))
              try have V := Lib.hid (V.out.grown hg (fun g e a ea => by cases ea; exact NE10.out g e))
              try have NE7 := NE7n
              try have NE10 := NE10n
              have D := Lib.hid (below_own D.out O.out hg)
              have S := Lib.hid (S0.out.keep D.out)
              have O := Lib.hid ho
              clear ho hg hat
              refine hK.out _ _ (S.out) ?_
              clear hK K
              refine road_t rfl rfl (fun K hK => ?_)
              go_simp
              generalize hB : Array.size (World.heap _) = N10
              generalize hw : World.alloc _ _ = wn
              obtain ⟨hv, hb⟩ := built_rows hw hB
              try have NE10 := Lib.hid (fun g e => show N10 ≠ g by have := (O.out.lt g e).2; omega)
              try have O := Lib.hid (O.out.below hb)
              try have R7 := Lib.hid (R7.out.keep hb)
              try have V := Lib.hid (V.out.keep hb)
              have D := Lib.hid (D.out.trans (hb.mono D.out.size))
              have S := Lib.hid (S0.out.keep D.out)
              clear hb
              have V := Lib.hid hv
              clear hB hw hv
              refine hK.out _ _ (S.out) ?_
              clear hK K
              obtain ⟨A8, c8, rfl, hr, hl, _, _⟩ := O.out.read
              have LE := Lib.hid (show ([] ++ key ++ [0]).length = k + 1 by have := KL.out; simp; omega)
              rw [LE.out] at hl ⊢
              have R8 := Lib.hid hr
              have L8 := Lib.hid hl
              clear hr hl
              refine road_t rfl rfl (fun K hK => ?_)
              go_simp
              refine (mac_any _ A8 (k + 1) c8 ([] ++ key ++ [0]) LE.out L8.out R8.out (by have := K0.out.1; omega) (some ⟨N10, 0, none⟩) 1 1 _ [al] rfl V.out (.cons ⟨Aa, ca, by rw [AL.out], by rw [AL.out]; exact AC.out, RA0.out.keep D.out⟩ .nil) (by have := FL.out; simp [AL.out]; omega) (by omega)).mono ?_
              rw [show [al].flatten = al by simp, show [] ++ key ++ [0] = key ++ [0] by simp, ME.out]
              rintro e w9 ⟨rfl, hb⟩
              have S := Lib.hid (S.out.keep hb)
              clear hb V O R8
              refine hK.out _ _ (S.out) ?_
              clear hK K
              refine road_q rfl rfl (S.out) (fun W hW => run_eq_arr_true 24 _ (.tmp 71) (.tmp 72) rfl 5 32 Try.underlying24 Try.underlying5 (by kernel_rfl) (by kernel_rfl) X X XL.out rfl rfl rfl W) ?_
              simp only [Act.put, List.setIfInBounds_toArray, List.set_cons_zero, List.set_cons_succ]
              refine road_q (v := ?_) rfl rfl (S.out) ?_ ?_
              rotate_left
              · intro W hW
                go_simp
                with_reducible rfl
              simp only [Act.put, List.setIfInBounds_toArray, List.set_cons_zero, List.set_cons_succ]
              refine road_q (v := ?_) rfl rfl (S.out) ?_ ?_
              rotate_left
              · intro W hW
                go_simp
                with_reducible rfl
              simp only [Act.put, List.setIfInBounds_toArray, List.set_cons_zero, List.set_cons_succ]
              refine road_t rfl rfl (fun K hK => ?_)
              go_simp
              refine (kdfOne_true _).mono ?_
              rintro e w10 ⟨rfl, hb⟩
              have S := Lib.hid (S.out.keep hb)
              clear hb
              refine hK.out _ _ (S.out) ?_
              clear hK K
              refine road_q (v := ?_) rfl rfl (S.out) ?_ ?_
              rotate_left
              · intro W hW
                go_simp
                with_reducible rfl
              simp only [Act.put, List.setIfInBounds_toArray, List.set_cons_zero, List.set_cons_succ]
              refine road_q (v := ?_) rfl rfl (S.out) ?_ ?_
              rotate_left
              · intro W hW
                go_simp
                with_reducible rfl
              simp only [Act.put, List.setIfInBounds_toArray, List.set_cons_zero, List.set_cons_succ]
              refine road_done ?_
              go_wp2_with fail
              go_ret
              exact ⟨rfl, S.out.bel⟩
            ·
              refine road_t rfl rfl (fun K hK => ?_)
              go_simp
              generalize hB : Array.size (World.heap _) = N10
              generalize hw : World.alloc _ _ = wn
              obtain ⟨hv, hb⟩ := built_rows hw hB
              try have NE10 := Lib.hid (fun g e => show N10 ≠ g by have := (O.out.lt g e).2; omega)
              try have O := Lib.hid (O.out.below hb)
              try have R7 := Lib.hid (R7.out.keep hb)
              try have V := Lib.hid (V.out.keep hb)
              have D := Lib.hid (D.out.trans (hb.mono D.out.size))
              have S := Lib.hid (S0.out.keep D.out)
              clear hb
              have V := Lib.hid hv
              clear hB hw hv
              refine hK.out _ _ (S.out) ?_
              clear hK K
              refine road_t rfl rfl (fun K hK => ?_)
              refine app_wp TB.out (.tmp 66) (.tmp 67) rfl wd.heap.size _ _ [0] (some ⟨N7, 0, none⟩) 1 1 rfl rfl rfl O.out R7.out D.out.size (by have := K0.out.1; have := KL.out; simp; omega) ?_
              intro vn wn ho hg hat
              try have NE7n := Lib.hid (ne_step NE7.out hat R7.out.lt1)
              try have NE10n := Lib.hid (ne_step NE10.out hat V.out.lt1)
              try have R7 := Lib.hid (R7.out.grown hg (fun g e a ea => by cases ea; exact NE7.out g e))
              try have V := Lib.hid (V.out.grown hg (fun g e a ea => by cases ea; exact NE10.out g e))
              try have NE7 := NE7n
              try have NE10 := NE10n
              have D := Lib.hid (below_own D.out O.out hg)
              have S := Lib.hid (S0.out.keep D.out)
              have O := Lib.hid ho
              clear ho hg hat
              refine hK.out _ _ (S.out) ?_
              clear hK K
              obtain ⟨A8, c8, rfl, hr, hl, _, _⟩ := O.out.read
              have LE := Lib.hid (show ([] ++ key ++ [0]).length = k + 1 by have := KL.out; simp; omega)
              rw [LE.out] at hl ⊢
              have R8 := Lib.hid hr
              have L8 := Lib.hid hl
              clear hr hl
              refine road_t rfl rfl (fun K hK => ?_)
              go_simp
              refine (mac_any _ A8 (k + 1) c8 ([] ++ key ++ [0]) LE.out L8.out R8.out (by have := K0.out.1; omega) (some ⟨N10, 0, none⟩) 1 1 _ [al] rfl V.out (.cons ⟨Aa, ca, by rw [AL.out], by rw [AL.out]; exact AC.out, RA0.out.keep D.out⟩ .nil) (by have := FL.out; simp [AL.out]; omega) (by omega)).mono ?_
              rw [show [al].flatten = al by simp, show [] ++ key ++ [0] = key ++ [0] by simp, ME.out]
              rintro e w9 ⟨rfl, hb⟩
              have S := Lib.hid (S.out.keep hb)
              clear hb V O R8
              refine hK.out _ _ (S.out) ?_
              clear hK K
              refine road_q rfl rfl (S.out) (fun W hW => run_eq_arr_true 24 _ (.tmp 71) (.tmp 72) rfl 5 32 Try.underlying24 Try.underlying5 (by kernel_rfl) (by kernel_rfl) X X XL.out rfl rfl rfl W) ?_
              simp only [Act.put, List.setIfInBounds_toArray, List.set_cons_zero, List.set_cons_succ]
              refine road_q (v := ?_) rfl rfl (S.out) ?_ ?_
              rotate_left
              · intro W hW
                go_simp
                with_reducible rfl
              simp only [Act.put, List.setIfInBounds_toArray, List.set_cons_zero, List.set_cons_succ]
              refine road_q (v := ?_) rfl rfl (S.out) ?_ ?_
              rotate_left
              · intro W hW
                go_simp
                with_reducible rfl
              simp only [Act.put, List.setIfInBounds_toArray, List.set_cons_zero, List.set_cons_succ]
              refine road_t rfl rfl (fun K hK => ?_)
              go_simp
              refine (kdfOne_true _).mono ?_
              rintro e w10 ⟨rfl, hb⟩
              have S := Lib.hid (S.out.keep hb)
              clear hb
              refine hK.out _ _ (S.out) ?_
              clear hK K
              refine road_q (v := ?_) rfl rfl (S.out) ?_ ?_
              rotate_left
              · intro W hW
                go_simp
                with_reducible rfl
              simp only [Act.put, List.setIfInBounds_toArray, List.set_cons_zero, List.set_cons_succ]
              refine road_q (v := ?_) rfl rfl (S.out) ?_ ?_
              rotate_left
              · intro W hW
                go_simp
                with_reducible rfl
              simp only [Act.put, List.setIfInBounds_toArray, List.set_cons_zero, List.set_cons_succ]
              refine road_done ?_
              go_wp2_with fail
              go_ret
              exact ⟨rfl, S.out.bel⟩
          ·
            refine road_t rfl rfl (fun K hK => ?_)
            go_simp
            generalize hB : Array.size (World.heap _) = N10
            generalize hw : World.alloc _ _ = wn
            obtain ⟨hv, hb⟩ := built_rows hw hB
            try have NE10 := Lib.hid (fun g e => show N10 ≠ g by have := (O.out.lt g e).2; omega)
            try have O := Lib.hid (O.out.below hb)
            try have R7 := Lib.hid (R7.out.keep hb)
            try have V := Lib.hid (V.out.keep hb)
            have D := Lib.hid (D.out.trans (hb.mono D.out.size))
            have S := Lib.hid (S0.out.keep D.out)
            clear hb
            have V := Lib.hid hv
            clear hB hw hv
            refine hK.out _ _ (S.out) ?_
            clear hK K
            refine road_t rfl rfl (fun K hK => ?_)
            refine app_wp TB.out (.tmp 64) (.tmp 65) rfl wd.heap.size _ [] key A0 k c0 rfl rfl KL.out O.out (H0.out.keep S.out.bel) D.out.size (by have := K0.out.1; simp; omega) ?_
            intro vn wn ho hg hat
            try have NE7n := Lib.hid (ne_step NE7.out hat R7.out.lt1)
            try have NE10n := Lib.hid (ne_step NE10.out hat V.out.lt1)
            try have R7 := Lib.hid (R7.out.grown hg (fun g e a ea => by cases ea; exact NE7.out g e))
            try have V := Lib.hid (V.out.grown hg (fun g e a ea => by cases ea; exact NE10.out g e))
            try have NE7 := NE7n
            try have NE10 := NE10n
            have D := Lib.hid (below_own D.out O.out hg)
            have S := Lib.hid (S0.out.keep D.out)
            have O := Lib.hid ho
            clear ho hg hat
            refine hK.out _ _ (S.out) ?_
            clear hK K
            refine road_t rfl rfl (fun K hK => ?_)
            refine app_wp TB.out (.tmp 66) (.tmp 67) rfl wd.heap.size _ _ [0] (some ⟨N7, 0, none⟩) 1 1 rfl rfl rfl O.out R7.out D.out.size (by have := K0.out.1; have := KL.out; simp; omega) ?_
            intro vn wn ho hg hat
            try have NE7n := Lib.hid (ne_step NE7.out hat R7.out.lt1)
            try have NE10n := Lib.hid (ne_step NE10.out hat V.out.lt1)
            try have R7 := Lib.hid (R7.out.grown hg (fun g e a ea => by cases ea; exact NE7.out g e))
            try have V := Lib.hid (V.out.grown hg (fun g e a ea => by cases ea; exact NE10.out g e))
            try have NE7 := NE7n
            try have NE10 := NE10n
            have D := Lib.hid (below_own D.out O.out hg)
            have S := Lib.hid (S0.out.keep D.out)
            have O := Lib.hid ho
            clear ho hg hat
            refine hK.out _ _ (S.out) ?_
            clear hK K
            obtain ⟨A8, c8, rfl, hr, hl, _, _⟩ := O.out.read
            have LE := Lib.hid (show ([] ++ key ++ [0]).length = k + 1 by have := KL.out; simp; omega)
            rw [LE.out] at hl ⊢
            have R8 := Lib.hid hr
            have L8 := Lib.hid hl
            clear hr hl
            refine road_t rfl rfl (fun K hK => ?_)
            go_simp
            refine (mac_any _ A8 (k + 1) c8 ([] ++ key ++ [0]) LE.out L8.out R8.out (by have := K0.out.1; omega) (some ⟨N10, 0, none⟩) 1 1 _ [al] rfl V.out (.cons ⟨Aa, ca, by rw [AL.out], by rw [AL.out]; exact AC.out, RA0.out.keep D.out⟩ .nil) (by have := FL.out; simp [AL.out]; omega) (by omega)).mono ?_
            rw [show [al].flatten = al by simp, show [] ++ key ++ [0] = key ++ [0] by simp, ME.out]
            rintro e w9 ⟨rfl, hb⟩
            have S := Lib.hid (S.out.keep hb)
            clear hb V O R8
            refine hK.out _ _ (S.out) ?_
            clear hK K
            refine road_q rfl rfl (S.out) (fun W hW => run_eq_arr_true 24 _ (.tmp 71) (.tmp 72) rfl 5 32 Try.underlying24 Try.underlying5 (by kernel_rfl) (by kernel_rfl) X X XL.out rfl rfl rfl W) ?_
            simp only [Act.put, List.setIfInBounds_toArray, List.set_cons_zero, List.set_cons_succ]
            refine road_q (v := ?_) rfl rfl (S.out) ?_ ?_
            rotate_left
            · intro W hW
              go_simp
              with_reducible rfl
            simp only [Act.put, List.setIfInBounds_toArray, List.set_cons_zero, List.set_cons_succ]
            refine road_q (v := ?_) rfl rfl (S.out) ?_ ?_
            rotate_left
            · intro W hW
              go_simp
              with_reducible rfl
            simp only [Act.put, List.setIfInBounds_toArray, List.set_cons_zero, List.set_cons_succ]
            refine road_t rfl rfl (fun K hK => ?_)
            go_simp
            refine (kdfOne_true _).mono ?_
            rintro e w10 ⟨rfl, hb⟩
            have S := Lib.hid (S.out.keep hb)
            clear hb
            refine hK.out _ _ (S.out) ?_
            clear hK K
            refine road_q (v := ?_) rfl rfl (S.out) ?_ ?_
            rotate_left
            · intro W hW
              go_simp
              with_reducible rfl
            simp only [Act.put, List.setIfInBounds_toArray, List.set_cons_zero, List.set_cons_succ]
            refine road_q (v := ?_) rfl rfl (S.out) ?_ ?_
            rotate_left
            · intro W hW
              go_simp
              with_reducible rfl
            simp only [Act.put, List.setIfInBounds_toArray, List.set_cons_zero, List.set_cons_succ]
            refine road_done ?_
            go_wp2_with fail
            go_ret
            exact ⟨rfl, S.out.bel⟩
        ·
          refine road_t rfl rfl (fun K hK => ?_)
          go_simp
          generalize hB : Array.size (World.heap _) = N10
          generalize hw : World.alloc _ _ = wn
          obtain ⟨hv, hb⟩ := built_rows hw hB
          try have NE10 := Lib.hid (fun g e => show N10 ≠ g by have := (O.out.lt g e).2; omega)
          try have O := Lib.hid (O.out.below hb)
          try have R7 := Lib.hid (R7.out.keep hb)
          try have V := Lib.hid (V.out.keep hb)
          have D := Lib.hid (D.out.trans (hb.mono D.out.size))
          have S := Lib.hid (S0.out.keep D.out)
          clear hb
          have V := Lib.hid hv
          clear hB hw hv
          refine hK.out _ _ (S.out) ?_
          clear hK K
          refine road_t rfl rfl (fun K hK => ?_)
          go_simp
          generalize hB : Array.size (World.heap _) = N4
          generalize hw : World.alloc _ _ = wn
          obtain ⟨ho, _, hb⟩ := made_new hw hB D.out
          try have NE7 := Lib.hid (fresh_ne R7.out.lt1 hB)
          try have NE10 := Lib.hid (fresh_ne V.out.lt1 hB)
          try have O := Lib.hid (O.out.below hb)
          try have R7 := Lib.hid (R7.out.keep hb)
          try have V := Lib.hid (V.out.keep hb)
          have D := Lib.hid (D.out.trans (hb.mono D.out.size))
          have S := Lib.hid (S0.out.keep D.out)
          clear hb
          have O := Lib.hid ho
          clear hB hw ho
          refine hK.out _ _ (S.out) ?_
          clear hK K
          refine road_t rfl rfl (fun K hK => ?_)
          refine app_wp TB.out (.tmp 64) (.tmp 65) rfl wd.heap.size _ [] key A0 k c0 rfl rfl KL.out O.out (H0.out.keep S.out.bel) D.out.size (by have := K0.out.1; simp; omega) ?_
          intro vn wn ho hg hat
          try have NE7n := Lib.hid (ne_step NE7.out hat R7.out.lt1)
          try have NE10n := Lib.hid (ne_step NE10.out hat V.out.lt1)
          try have R7 := Lib.hid (R7.out.grown hg (fun g e a ea => by cases ea; exact NE7.out g e))
          try have V := Lib.hid (V.out.grown hg (fun g e a ea => by cases ea; exact NE10.out g e))
          try have NE7 := NE7n
          try have NE10 := NE10n
          have D := Lib.hid (below_own D.out O.out hg)
          have S := Lib.hid (S0.out.keep D.out)
          have O := Lib.hid ho
          clear ho hg hat
          refine hK.out _ _ (S.out) ?_
          clear hK K
          refine road_t rfl rfl (fun K hK => ?_)
          refine app_wp TB.out (.tmp 66) (.tmp 67) rfl wd.heap.size _ _ [0] (some ⟨N7, 0, none⟩) 1 1 rfl rfl rfl O.out R7.out D.out.size (by have := K0.out.1; have := KL.out; simp; omega) ?_
          intro vn wn ho hg hat
          try have NE7n := Lib.hid (ne_step NE7.out hat R7.out.lt1)
          try have NE10n := Lib.hid (ne_step NE10.out hat V.out.lt1)
          try have R7 := Lib.hid (R7.out.grown hg (fun g e a ea => by cases ea; exact NE7.out g e))
          try have V := Lib.hid (V.out.grown hg (fun g e a ea => by cases ea; exact NE10.out g e))
          try have NE7 := NE7n
          try have NE10 := NE10n
          have D := Lib.hid (below_own D.out O.out hg)
          have S := Lib.hid (S0.out.keep D.out)
          have O := Lib.hid ho
          clear ho hg hat
          refine hK.out _ _ (S.out) ?_
          clear hK K
          obtain ⟨A8, c8, rfl, hr, hl, _, _⟩ := O.out.read
          have LE := Lib.hid (show ([] ++ key ++ [0]).length = k + 1 by have := KL.out; simp; omega)
          rw [LE.out] at hl ⊢
          have R8 := Lib.hid hr
          have L8 := Lib.hid hl
          clear hr hl
          refine road_t rfl rfl (fun K hK => ?_)
          go_simp
          refine (mac_any _ A8 (k + 1) c8 ([] ++ key ++ [0]) LE.out L8.out R8.out (by have := K0.out.1; omega) (some ⟨N10, 0, none⟩) 1 1 _ [al] rfl V.out (.cons ⟨Aa, ca, by rw [AL.out], by rw [AL.out]; exact AC.out, RA0.out.keep D.out⟩ .nil) (by have := FL.out; simp [AL.out]; omega) (by omega)).mono ?_
          rw [show [al].flatten = al by simp, show [] ++ key ++ [0] = key ++ [0] by simp, ME.out]
          rintro e w9 ⟨rfl, hb⟩
          have S := Lib.hid (S.out.keep hb)
          clear hb V O R8
          refine hK.out _ _ (S.out) ?_
          clear hK K
          refine road_q rfl rfl (S.out) (fun W hW => run_eq_arr_true 24 _ (.tmp 71) (.tmp 72) rfl 5 32 Try.underlying24 Try.underlying5 (by kernel_rfl) (by kernel_rfl) X X XL.out rfl rfl rfl W) ?_
          simp only [Act.put, List.setIfInBounds_toArray, List.set_cons_zero, List.set_cons_succ]
          refine road_q (v := ?_) rfl rfl (S.out) ?_ ?_
          rotate_left
          · intro W hW
            go_simp
            with_reducible rfl
          simp only [Act.put, List.setIfInBounds_toArray, List.set_cons_zero, List.set_cons_succ]
          refine road_q (v := ?_) rfl rfl (S.out) ?_ ?_
          rotate_left
          · intro W hW
            go_simp
            with_reducible rfl
          simp only [Act.put, List.setIfInBounds_toArray, List.set_cons_zero, List.set_cons_succ]
          refine road_t rfl rfl (fun K hK => ?_)
          go_simp
          refine (kdfOne_true _).mono ?_
          rintro e w10 ⟨rfl, hb⟩
          have S := Lib.hid (S.out.keep hb)
          clear hb
          refine hK.out _ _ (S.out) ?_
          clear hK K
          refine road_q (v := ?_) rfl rfl (S.out) ?_ ?_
          rotate_left
          · intro W hW
            go_simp
            with_reducible rfl
          simp only [Act.put, List.setIfInBounds_toArray, List.set_cons_zero, List.set_cons_succ]
          refine road_q (v := ?_) rfl rfl (S.out) ?_ ?_
          rotate_left
          · intro W hW
            go_simp
            with_reducible rfl
          simp only [Act.put, List.setIfInBounds_toArray, List.set_cons_zero, List.set_cons_succ]
          refine road_done ?_
          go_wp2_with fail
          go_ret
          exact ⟨rfl, S.out.bel⟩
      ·
        refine road_t rfl rfl (fun K hK => ?_)
        go_simp
        generalize hB : Array.size (World.heap _) = N10
        generalize hw : World.alloc _ _ = wn
        obtain ⟨hv, hb⟩ := built_rows hw hB
        try have NE10 := Lib.hid (fun g e => show N10 ≠ g by have := (O.out.lt g e).2; omega)
        try have O := Lib.hid (O.out.below hb)
        try have R7 := Lib.hid (R7.out.keep hb)
        try have V := Lib.hid (V.out.keep hb)
        have D := Lib.hid (D.out.trans (hb.mono D.out.size))
        have S := Lib.hid (S0.out.keep D.out)
        clear hb
        have V := Lib.hid hv
        clear hB hw hv
        refine hK.out _ _ (S.out) ?_
        clear hK K
        refine road_two ?_ ?_
        ·
          refine road_t rfl rfl (fun K hK => ?_)
          go_simp
          generalize hB : Array.size (World.heap _) = N4
          generalize hw : World.alloc _ _ = wn
          obtain ⟨ho, _, hb⟩ := made_new hw hB D.out
          try have NE7 := Lib.hid (fresh_ne R7.out.lt1 hB)
          try have NE10 := Lib.hid (fresh_ne V.out.lt1 hB)
          try have O := Lib.hid (O.out.below hb)
          try have R7 := Lib.hid (R7.out.keep hb)
          try have V := Lib.hid (V.out.keep hb)
          have D := Lib.hid (D.out.trans (hb.mono D.out.size))
          have S := Lib.hid (S0.out.keep D.out)
          clear hb
          have O := Lib.hid ho
          clear hB hw ho
          refine hK.out _ _ (S.out) ?_
          clear hK K
          refine road_two ?_ ?_
          ·
            refine road_t rfl rfl (fun K hK => ?_)
            refine app_wp TB.out (.tmp 64) (.tmp 65) rfl wd.heap.size _ [] key A0 k c0 rfl rfl KL.out O.out (H0.out.keep S.out.bel) D.out.size (by have := K0.out.1; simp; omega) ?_
            intro vn wn ho hg hat
            try have NE7n := Lib.hid (ne_step NE7.out hat R7.out.lt1)
            try have NE10n := Lib.hid (ne_step NE10.out hat V.out.lt1)
            try have R7 := Lib.hid (R7.out.grown hg (fun g e a ea => by cases ea; exact NE7.out g e))
            try have V := Lib.hid (V.out.grown hg (fun g e a ea => by cases ea; exact NE10.out g e))
            try have NE7 := NE7n
            try have NE10 := NE10n
            have D := Lib.hid (below_own D.out O.out hg)
            have S := Lib.hid (S0.out.keep D.out)
            have O := Lib.hid ho
            clear ho hg hat
            refine hK.out _ _ (S.out) ?_
            clear hK K
            refine road_t rfl rfl (fun K hK => ?_)
            go_simp
            generalize hB : Array.size (World.heap _) = N7
            generalize hw : World.alloc _ _ = wn
            obtain ⟨hr, _, hb⟩ := built_one (x := 0) hw hB D.out
            try have NE7 := Lib.hid (fun g e => show N7 ≠ g by have := (O.out.lt g e).2; omega)
            try have O := Lib.hid (O.out.below hb)
            try have R7 := Lib.hid (R7.out.keep hb)
            try have V := Lib.hid (V.out.keep hb)
            have D := Lib.hid (D.out.trans (hb.mono D.out.size))
            have S := Lib.hid (S0.out.keep D.out)
            clear hb
            have R7 := Lib.hid hr
            clear hB hw hr
            refine hK.out _ _ (S.out) ?_
            clear hK K
            refine road_t rfl rfl (fun K hK => ?_)
            refine app_wp TB.out (.tmp 66) (.tmp 67) rfl wd.heap.size _ _ [0] (some ⟨N7, 0, none⟩) 1 1 rfl rfl rfl O.out R7.out D.out.size (by have := K0.out.1; have := KL.out; simp; omega) ?_
            intro vn wn ho hg hat
            try have NE7n := Lib.hid (ne_step NE7.out hat R7.out.lt1)
            try have NE10n := Lib.hid (ne_step NE10.out hat V.out.lt1)
            try have R7 := Lib.hid (R7.out.grown hg (fun g e a ea => by cases ea; exact NE7.out g e))
            try have V := Lib.hid (V.out.grown hg (fun g e a ea => by cases ea; exact NE10.out g e))
            try have NE7 := NE7n
            try have NE10 := NE10n
            have D := Lib.hid (below_own D.out O.out hg)
            have S := Lib.hid (S0.out.keep D.out)
            have O := Lib.hid ho
            clear ho hg hat
            refine hK.out _ _ (S.out) ?_
            clear hK K
            obtain ⟨A8, c8, rfl, hr, hl, _, _⟩ := O.out.read
            have LE := Lib.hid (show ([] ++ key ++ [0]).length = k + 1 by have := KL.out; simp; omega)
            rw [LE.out] at hl ⊢
            have R8 := Lib.hid hr
            have L8 := Lib.hid hl
            clear hr hl
            refine road_t rfl rfl (fun K hK => ?_)
            go_simp
            refine (mac_any _ A8 (k + 1) c8 ([] ++ key ++ [0]) LE.out L8.out R8.out (by have := K0.out.1; omega) (some ⟨N10, 0, none⟩) 1 1 _ [al] rfl V.out (.cons ⟨Aa, ca, by rw [AL.out], by rw [AL.out]; exact AC.out, RA0.out.keep D.out⟩ .nil) (by have := FL.out; simp [AL.out]; omega) (by omega)).mono ?_
            rw [show [al].flatten = al by simp, show [] ++ key ++ [0] = key ++ [0] by simp, ME.out]
            rintro e w9 ⟨rfl, hb⟩
            have S := Lib.hid (S.out.keep hb)
            clear hb V O R8
            refine hK.out _ _ (S.out) ?_
            clear hK K
            refine road_q rfl rfl (S.out) (fun W hW => run_eq_arr_true 24 _ (.tmp 71) (.tmp 72) rfl 5 32 Try.underlying24 Try.underlying5 (by kernel_rfl) (by kernel_rfl) X X XL.out rfl rfl rfl W) ?_
            simp only [Act.put, List.setIfInBounds_toArray, List.set_cons_zero, List.set_cons_succ]
            refine road_q (v := ?_) rfl rfl (S.out) ?_ ?_
            rotate_left
            · intro W hW
              go_simp
              with_reducible rfl
            simp only [Act.put, List.setIfInBounds_toArray, List.set_cons_zero, List.set_cons_succ]
            refine road_q (v := ?_) rfl rfl (S.out) ?_ ?_
            rotate_left
            · intro W hW
              go_simp
              with_reducible rfl
            simp only [Act.put, List.setIfInBounds_toArray, List.set_cons_zero, List.set_cons_succ]
            refine road_t rfl rfl (fun K hK => ?_)
            go_simp
            refine (kdfOne_true _).mono ?_
            rintro e w10 ⟨rfl, hb⟩
            have S := Lib.hid (S.out.keep hb)
            clear hb
            refine hK.out _ _ (S.out) ?_
            clear hK K
            refine road_q (v := ?_) rfl rfl (S.out) ?_ ?_
            rotate_left
            · intro W hW
              go_simp
              with_reducible rfl
            simp only [Act.put, List.setIfInBounds_toArray, List.set_cons_zero, List.set_cons_succ]
            refine road_q (v := ?_) rfl rfl (S.out) ?_ ?_
            rotate_left
            · intro W hW
              go_simp
              with_reducible rfl
            simp only [Act.put, List.setIfInBounds_toArray, List.set_cons_zero, List.set_cons_succ]
            refine road_done ?_
            go_wp2_with fail
            go_ret
            exact ⟨rfl, S.out.bel⟩
          ·
            refine road_t rfl rfl (fun K hK => ?_)
            go_simp
            generalize hB : Array.size (World.heap _) = N7
            generalize hw : World.alloc _ _ = wn
            obtain ⟨hr, _, hb⟩ := built_one (x := 0) hw hB D.out
            try have NE7 := Lib.hid (fun g e => show N7 ≠ g by have := (O.out.lt g e).2; omega)
            try have O := Lib.hid (O.out.below hb)
            try have R7 := Lib.hid (R7.out.keep hb)
            try have V := Lib.hid (V.out.keep hb)
            have D := Lib.hid (D.out.trans (hb.mono D.out.size))
            have S := Lib.hid (S0.out.keep D.out)
            clear hb
            have R7 := Lib.hid hr
            clear hB hw hr
            refine hK.out _ _ (S.out) ?_
            clear hK K
            refine road_t rfl rfl (fun K hK => ?_)
            refine app_wp TB.out (.tmp 64) (.tmp 65) rfl wd.heap.size _ [] key A0 k c0 rfl rfl KL.out O.out (H0.out.keep S.out.bel) D.out.size (by have := K0.out.1; simp; omega) ?_
            intro vn wn ho hg hat
            try have NE7n := Lib.hid (ne_step NE7.out hat R7.out.lt1)
            try have NE10n := Lib.hid (ne_step NE10.out hat V.out.lt1)
            try have R7 := Lib.hid (R7.out.grown hg (fun g e a ea => by cases ea; exact NE7.out g e))
            try have V := Lib.hid (V.out.grown hg (fun g e a ea => by cases ea; exact NE10.out g e))
            try have NE7 := NE7n
            try have NE10 := NE10n
            have D := Lib.hid (below_own D.out O.out hg)
            have S := Lib.hid (S0.out.keep D.out)
            have O := Lib.hid ho
            clear ho hg hat
            refine hK.out _ _ (S.out) ?_
            clear hK K
            refine road_t rfl rfl (fun K hK => ?_)
            refine app_wp TB.out (.tmp 66) (.tmp 67) rfl wd.heap.size _ _ [0] (some ⟨N7, 0, none⟩) 1 1 rfl rfl rfl O.out R7.out D.out.size (by have := K0.out.1; have := KL.out; simp; omega) ?_
            intro vn wn ho hg hat
            try have NE7n := Lib.hid (ne_step NE7.out hat R7.out.lt1)
            try have NE10n := Lib.hid (ne_step NE10.out hat V.out.lt1)
            try have R7 := Lib.hid (R7.out.grown hg (fun g e a ea => by cases ea; exact NE7.out g e))
            try have V := Lib.hid (V.out.grown hg (fun g e a ea => by cases ea; exact NE10.out g e))
            try have NE7 := NE7n
            try have NE10 := NE10n
            have D := Lib.hid (below_own D.out O.out hg)
            have S := Lib.hid (S0.out.keep D.out)
            have O := Lib.hid ho
            clear ho hg hat
            refine hK.out _ _ (S.out) ?_
            clear hK K
            obtain ⟨A8, c8, rfl, hr, hl, _, _⟩ := O.out.read
            have LE := Lib.hid (show ([] ++ key ++ [0]).length = k + 1 by have := KL.out; simp; omega)
            rw [LE.out] at hl ⊢
            have R8 := Lib.hid hr
            have L8 := Lib.hid hl
            clear hr hl
            refine road_t rfl rfl (fun K hK => ?_)
            go_simp
            refine (mac_any _ A8 (k + 1) c8 ([] ++ key ++ [0]) LE.out L8.out R8.out (by have := K0.out.1; omega) (some ⟨N10, 0, none⟩) 1 1 _ [al] rfl V.out (.cons ⟨Aa, ca, by rw [AL.out], by rw [AL.out]; exact AC.out, RA0.out.keep D.out⟩ .nil) (by have := FL.out; simp [AL.out]; omega) (by omega)).mono ?_
            rw [show [al].flatten = al by simp, show [] ++ key ++ [0] = key ++ [0] by simp, ME.out]
            rintro e w9 ⟨rfl, hb⟩
            have S := Lib.hid (S.out.keep hb)
            clear hb V O R8
            refine hK.out _ _ (S.out) ?_
            clear hK K
            refine road_q rfl rfl (S.out) (fun W hW => run_eq_arr_true 24 _ (.tmp 71) (.tmp 72) rfl 5 32 Try.underlying24 Try.underlying5 (by kernel_rfl) (by kernel_rfl) X X XL.out rfl rfl rfl W) ?_
            simp only [Act.put, List.setIfInBounds_toArray, List.set_cons_zero, List.set_cons_succ]
            refine road_q (v := ?_) rfl rfl (S.out) ?_ ?_
            rotate_left
            · intro W hW
              go_simp
              with_reducible rfl
            simp only [Act.put, List.setIfInBounds_toArray, List.set_cons_zero, List.set_cons_succ]
            refine road_q (v := ?_) rfl rfl (S.out) ?_ ?_
            rotate_left
            · intro W hW
              go_simp
              with_reducible rfl
            simp only [Act.put, List.setIfInBounds_toArray, List.set_cons_zero, List.set_cons_succ]
            refine road_t rfl rfl (fun K hK => ?_)
            go_simp
            refine (kdfOne_true _).mono ?_
            rintro e w10 ⟨rfl, hb⟩
            have S := Lib.hid (S.out.keep hb)
            clear hb
            refine hK.out _ _ (S.out) ?_
            clear hK K
            refine road_q (v := ?_) rfl rfl (S.out) ?_ ?_
            rotate_left
            · intro W hW
              go_simp
              with_reducible rfl
            simp only [Act.put, List.setIfInBounds_toArray, List.set_cons_zero, List.set_cons_succ]
            refine road_q (v := ?_) rfl rfl (S.out) ?_ ?_
            rotate_left
            · intro W hW
              go_simp
              with_reducible rfl
            simp only [Act.put, List.setIfInBounds_toArray, List.set_cons_zero, List.set_cons_succ]
            refine road_done ?_
            go_wp2_with fail
            go_ret
            exact ⟨rfl, S.out.bel⟩
        ·
          refine road_t rfl rfl (fun K hK => ?_)
          go_simp
          generalize hB : Array.size (World.heap _) = N7
          generalize hw : World.alloc _ _ = wn
          obtain ⟨hr, _, hb⟩ := built_one (x := 0) hw hB D.out
          try have NE7 := Lib.hid (fun g e => show N7 ≠ g by have := (O.out.lt g e).2; omega)
          try have O := Lib.hid (O.out.below hb)
          try have R7 := Lib.hid (R7.out.keep hb)
          try have V := Lib.hid (V.out.keep hb)
          have D := Lib.hid (D.out.trans (hb.mono D.out.size))
          have S := Lib.hid (S0.out.keep D.out)
          clear hb
          have R7 := Lib.hid hr
          clear hB hw hr
          refine hK.out _ _ (S.out) ?_
          clear hK K
          refine road_t rfl rfl (fun K hK => ?_)
          go_simp
          generalize hB : Array.size (World.heap _) = N4
          generalize hw : World.alloc _ _ = wn
          obtain ⟨ho, _, hb⟩ := made_new hw hB D.out
          try have NE7 := Lib.hid (fresh_ne R7.out.lt1 hB)
          try have NE10 := Lib.hid (fresh_ne V.out.lt1 hB)
          try have O := Lib.hid (O.out.below hb)
          try have R7 := Lib.hid (R7.out.keep hb)
          try have V := Lib.hid (V.out.keep hb)
          have D := Lib.hid (D.out.trans (hb.mono D.out.size))
          have S := Lib.hid (S0.out.keep D.out)
          clear hb
          have O := Lib.hid ho
          clear hB hw ho
          refine hK.out _ _ (S.out) ?_
          clear hK K
          refine road_t rfl rfl (fun K hK => ?_)
          refine app_wp TB.out (.tmp 64) (.tmp 65) rfl wd.heap.size _ [] key A0 k c0 rfl rfl KL.out O.out (H0.out.keep S.out.bel) D.out.size (by have := K0.out.1; simp; omega) ?_
          intro vn wn ho hg hat
          try have NE7n := Lib.hid (ne_step NE7.out hat R7.out.lt1)
          try have NE10n := Lib.hid (ne_step NE10.out hat V.out.lt1)
          try have R7 := Lib.hid (R7.out.grown hg (fun g e a ea => by cases ea; exact NE7.out g e))
          try have V := Lib.hid (V.out.grown hg (fun g e a ea => by cases ea; exact NE10.out g e))
          try have NE7 := NE7n
          try have NE10 := NE10n
          have D := Lib.hid (below_own D.out O.out hg)
          have S := Lib.hid (S0.out.keep D.out)
          have O := Lib.hid ho
          clear ho hg hat
          refine hK.out _ _ (S.out) ?_
          clear hK K
          refine road_t rfl rfl (fun K hK => ?_)
          refine app_wp TB.out (.tmp 66) (.tmp 67) rfl wd.heap.size _ _ [0] (some ⟨N7, 0, none⟩) 1 1 rfl rfl rfl O.out R7.out D.out.size (by have := K0.out.1; have := KL.out; simp; omega) ?_
          intro vn wn ho hg hat
          try have NE7n := Lib.hid (ne_step NE7.out hat R7.out.lt1)
          try have NE10n := Lib.hid (ne_step NE10.out hat V.out.lt1)
          try have R7 := Lib.hid (R7.out.grown hg (fun g e a ea => by cases ea; exact NE7.out g e))
          try have V := Lib.hid (V.out.grown hg (fun g e a ea => by cases ea; exact NE10.out g e))
          try have NE7 := NE7n
          try have NE10 := NE10n
          have D := Lib.hid (below_own D.out O.out hg)
          have S := Lib.hid (S0.out.keep D.out)
          have O := Lib.hid ho
          clear ho hg hat
          refine hK.out _ _ (S.out) ?_
          clear hK K
          obtain ⟨A8, c8, rfl, hr, hl, _, _⟩ := O.out.read
          have LE := Lib.hid (show ([] ++ key ++ [0]).length = k + 1 by have := KL.out; simp; omega)
          rw [LE.out] at hl ⊢
          have R8 := Lib.hid hr
          have L8 := Lib.hid hl
          clear hr hl
          refine road_t rfl rfl (fun K hK => ?_)
          go_simp
          refine (mac_any _ A8 (k + 1) c8 ([] ++ key ++ [0]) LE.out L8.out R8.out (by have := K0.out.1; omega) (some ⟨N10, 0, none⟩) 1 1 _ [al] rfl V.out (.cons ⟨Aa, ca, by rw [AL.out], by rw [AL.out]; exact AC.out, RA0.out.keep D.out⟩ .nil) (by have := FL.out; simp [AL.out]; omega) (by omega)).mono ?_
          rw [show [al].flatten = al by simp, show [] ++ key ++ [0] = key ++ [0] by simp, ME.out]
          rintro e w9 ⟨rfl, hb⟩
          have S := Lib.hid (S.out.keep hb)
          clear hb V O R8
          refine hK.out _ _ (S.out) ?_
          clear hK K
          refine road_q rfl rfl (S.out) (fun W hW => run_eq_arr_true 24 _ (.tmp 71) (.tmp 72) rfl 5 32 Try.underlying24 Try.underlying5 (by kernel_rfl) (by kernel_rfl) X X XL.out rfl rfl rfl W) ?_
          simp only [Act.put, List.setIfInBounds_toArray, List.set_cons_zero, List.set_cons_succ]
          refine road_q (v := ?_) rfl rfl (S.out) ?_ ?_
          rotate_left
          · intro W hW
            go_simp
            with_reducible rfl
          simp only [Act.put, List.setIfInBounds_toArray, List.set_cons_zero, List.set_cons_succ]
          refine road_q (v := ?_) rfl rfl (S.out) ?_ ?_
          rotate_left
          · intro W hW
            go_simp
            with_reducible rfl
          simp only [Act.put, List.setIfInBounds_toArray, List.set_cons_zero, List.set_cons_succ]
          refine road_t rfl rfl (fun K hK => ?_)
          go_simp
          refine (kdfOne_true _).mono ?_
          rintro e w10 ⟨rfl, hb⟩
          have S := Lib.hid (S.out.keep hb)
          clear hb
          refine hK.out _ _ (S.out) ?_
          clear hK K
          refine road_q (v := ?_) rfl rfl (S.out) ?_ ?_
          rotate_left
          · intro W hW
            go_simp
            with_reducible rfl
          simp only [Act.put, List.setIfInBounds_toArray, List.set_cons_zero, List.set_cons_succ]
          refine road_q (v := ?_) rfl rfl (S.out) ?_ ?_
          rotate_left
          · intro W hW
            go_simp
            with_reducible rfl
          simp only [Act.put, List.setIfInBounds_toArray, List.set_cons_zero, List.set_cons_succ]
          refine road_done ?_
          go_wp2_with fail
          go_ret
          exact ⟨rfl, S.out.bel⟩
end Go.Proofs.Ytimdlnamicgdnaa
