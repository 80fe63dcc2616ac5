/- The law DrawsFirst, walked. -/
import Derived.Test.YtphpcegifdiofaaDrawOne
import Derived.Test.YtphpcegifdiofaaEqArr
import Derived.Test.YtphpcegifdiofaaMasks
import Derived.Deep.CutBlock
namespace Go.Proofs.Ytphpcegifdiofaa
set_option linter.unusedVariables false
set_option linter.unusedSimpArgs false
open Go.RowKit
attribute [local go_sem ↓] Go.wp_at_zero Go.wp_at_succ

set_option maxRecDepth 100000 in
set_option maxHeartbeats 8000000 in
theorem drawsFirst_walk (w : World) (A : Option Addr) (c : Nat) (vs : List Value) (ls : List (List UInt8)) (hR : RdV w A vs) (hc : vs.length ≤ c) (hcm : c ≤ 9223372036854775807) (hall : All2 (SlB w) vs ls) (hlen : ls.length = vs.length) (hmx : ∀ l ∈ ls, l.length ≤ 9223372036854775807) (hz : vs.length ≤ 140737488351232)
    (x1 : Int) (hx1 : -9223372036854775808 ≤ x1 ∧ x1 ≤ 9223372036854775807) :
    Calls Try.prog 4 #[.slice A vs.length c, .int .i64 x1] w fun e w' => e = .returned (.bool true) ∧ Below w.heap.size w w' := by
  obtain ⟨i0, hi, hz0, hz1, hz2⟩ := info_parts (show (Try.prog.info? 5).map (fun i => (i.zero, i.size, i.bytes)) = some (some (.int .u8 0), 1, 1) by kernel_rfl)
  have I0 := Lib.hid hi
  have I1 := Lib.hid hz1
  obtain ⟨n, hn⟩ : ∃ n, n = vs.length := ⟨_, rfl⟩
  rw [← hn] at hc hlen hz ⊢
  have HR := Lib.hid hR
  have HA := Lib.hid hall
  have NL := Lib.hid hlen
  have MX := Lib.hid hmx
  have TB := Lib.hid (show ByteT Try.prog from ⟨Try.underlying22, by kernel_rfl⟩)
  have TV := Lib.hid (show SlT Try.prog 34 22 (.slice none 0 0) 24 from ⟨Try.underlying34, by kernel_rfl, rfl⟩)
  have nb : (n : Int) ≤ 140737488351232 := by omega
  obtain ⟨k, hk, e1⟩ := mask_i64 x1 127 (by omega)
  have KB := Lib.hid hk
  have kb : (k : Int) ≤ 127 := by omega
  have E1 := Lib.hid (show bits .and .i64 x1 127 = (k : Int) from e1)
  clear hi hz0 hz1 hz2 hn hR hc hcm hall hlen hmx hk e1
  go_enter Try.func4, Try.ntmps4
  go_upto_block 0 with fail
  go_cut [5, 6] (fun u v wr => ∃ (j : Nat) (vs' : List Value), j ≤ 8 ∧ OwnV wr w.heap.size 22 v vs' ∧ All2 (SlB w) vs' (cutsL 300 ls j) ∧ OwnB wr w.heap.size u (cutsL 300 ls j).flatten ∧ Below w.heap.size w wr)
  case first =>
    go_wp2_with fail
    go_loopw [5, 6, 7] (fun u v i wr => ∃ (j : Nat) (vs' : List Value), j ≤ n ∧ j ≤ 8 ∧ i = .int .i64 (j : Int) ∧ OwnV wr w.heap.size 22 v vs' ∧ All2 (SlB w) vs' (cutsL 300 ls j) ∧ OwnB wr w.heap.size u (cutsL 300 ls j).flatten ∧ (∀ g, u.ownBlock = some g → v.ownBlock ≠ some g) ∧ Below w.heap.size w wr) (fun _ _ i _ => 8 - (intOf i).toNat)
    case atStart => exact ⟨0, [], by omega, by omega, rfl, OwnV.nil _ _ _, .nil, OwnB.nil _ _, by simp [Value.ownBlock], Below.refl _ _⟩
    case round =>
      obtain ⟨j, vs', hj, hj8, rfl, hov, hall', hob, hne, hbel⟩ := hrel
      have J := Lib.hid (And.intro hj hj8)
      have OV := Lib.hid hov
      have AV := Lib.hid hall'
      have OB := Lib.hid hob
      have NE := Lib.hid hne
      have S := Lib.hid hbel
      have VL := Lib.hid (show vs'.length ≤ 8 by rw [hall'.length, cutsL, List.length_map, List.length_take]; omega)
      have FL := Lib.hid (show (cutsL 300 ls j).flatten.length ≤ 2400 by have := cutsL_flat 300 ls j; omega)
      clear hj hj8 hov hall' hob hne hbel
      by_cases hlt : j < n
      · have hD : decide ((j : Int) < (n : Int)) = true := by simp; omega
        by_cases hlt2 : j < 8
        · have hD2 : decide ((j : Int) < 8) = true := by simp; omega
          obtain ⟨l, hl⟩ : ∃ l, ls[j]? = some l := ⟨_, List.getElem?_eq_getElem (by rw [NL.out]; exact hlt)⟩
          obtain ⟨v, hv, A', c', rfl, hc', hR'⟩ := HA.out.get j l hl
          have HV := Lib.hid hv
          obtain ⟨b, o, rfl, hcell⟩ := (HR.out.keep S.out) j _ hv
          obtain ⟨m, hm⟩ : ∃ m, m = l.length := ⟨_, rfl⟩
          have mb0 : (m : Int) ≤ 9223372036854775807 := by have := MX.out l (List.mem_of_getElem? hl); omega
          rw [← hm] at hcell hc' HV
          have LE := Lib.hid hm.symm
          have R1 := Lib.hid hR'
          have C1 := Lib.hid hc'
          have jb : (j : Int) < (n : Int) := by omega
          by_cases hlt3 : m < 300
          · have hD3 : decide ((m : Int) < 300) = true := by simp; omega
            have QB := Lib.hid hlt3
            have CS := Lib.hid (show cutsL 300 ls (j + 1) = cutsL 300 ls j ++ [l] by rw [cutsL_succ 300 ls j l hl, List.take_of_length_le (by omega)])
            clear hl hv hc' hR' hm
            go_wp2_with (refine appV_list rfl TV.out (.tmp 30) (.tmp 35) rfl w.heap.size u6 vs' [.slice A' m c'] (some ⟨wr.heap.size, 0, none⟩) 1 1 rfl rfl rfl (OV.out.alloc _) (RdV.one (row_cell (fr := (0, 0)) (ha_new _ _ _ rfl) 0 rfl)) (by intro u hu; simp at hu; subst hu; rfl) ?d1 ?d2 ?d3 ?_)
            case d1 => have := S.out.size; simp; omega
            case d2 => have := VL.out; omega
            case d3 => have := VL.out; omega
            intro v1 w2 ho hg hat
            have B2 := Lib.hid (show Below w.heap.size w (wr.alloc (.cells #[.slice A' m c'] 22)) from S.out.alloc S.out.size _)
            have OB2 := Lib.hid ((OB.out.alloc (.cells #[.slice A' m c'] 22)).grown hg (by
              rcases hq : u5.ownBlock with _ | g
              · exact .inl rfl
              · exact .inr (fun h => NE.out g hq h.symm)))
            have S := Lib.hid (B2.out.trans (grown_below hg B2.out.size (fun g e => (OV.out.lt g e).1)))
            have NE := Lib.hid (show ∀ g, u5.ownBlock = some g → v1.ownBlock ≠ some g by
              intro g hg' he
              rcases hat with h | h
              · exact NE.out g hg' (h ▸ he)
              · rw [h] at he
                injection he with he
                have := (OB.out.lt g hg').2
                try simp at he
                omega)
            have OV2 := Lib.hid ho
            have AV2 := Lib.hid (show All2 (SlB w) (vs' ++ [.slice A' m c']) (cutsL 300 ls (j + 1)) by rw [CS.out]; exact AV.out.snoc ⟨A', c', by rw [LE.out], by rw [LE.out]; exact C1.out, R1.out⟩)
            obtain ⟨b', o', e', hcell'⟩ := (HR.out.keep S.out) j _ HV.out
            injection e' with e'
            injection e' with e1 e2
            subst e1 e2
            clear ho hg hat OV AV OB B2 hcell
            go_wp2_with (refine app_list rfl TB.out (.tmp 37) (.tmp 41) rfl w.heap.size u5 _ l A' m c' rfl rfl LE.out OB2.out (R1.out.keep S.out) S.out.size (by have := FL.out; have := QB.out; omega) ?_)
            intro v3 w3 ho hg hat
            have OV3 := Lib.hid (OV2.out.grown hg (by
              rcases hq : v1.ownBlock with _ | g
              · exact .inl rfl
              · exact .inr (fun h => NE.out g h.symm hq)))
            have NE := Lib.hid (show ∀ g, v3.ownBlock = some g → v1.ownBlock ≠ some g by
              intro g hg' he
              rcases hat with h | h
              · exact NE.out g (h ▸ hg') he
              · rw [h] at hg'
                injection hg' with hg'
                have := (OV2.out.lt g he).2
                omega)
            have S := Lib.hid (below_own S.out OB2.out hg)
            have OB3 := Lib.hid (show OwnB w3 w.heap.size v3 (cutsL 300 ls (j + 1)).flatten by rw [CS.out, List.flatten_append]; simpa using ho)
            clear ho hg hat OV2 OB2 hcell'
            go_wp2_with fail
            go_roundw
            case rel => exact ⟨j + 1, _, by omega, by omega, by go_num, OV3.out, AV2.out, OB3.out, NE.out, S.out⟩
            case measure => simp [intOf]; omega
          · have hD3 : decide ((m : Int) < 300) = false := by simp; omega
            clear hl hv hc' hR' hm
            go_wp2_with fail
            go_meet
            exact ⟨j, vs', J.out.2, OV.out, AV.out, OB.out, S.out⟩
        · have hD2 : decide ((j : Int) < 8) = false := by simp; omega
          go_wp2_with fail
          go_meet
          exact ⟨j, vs', J.out.2, OV.out, AV.out, OB.out, S.out⟩
      · have hD : decide ((j : Int) < (n : Int)) = false := by simp; omega
        go_wp2_with fail
        go_meet
        exact ⟨j, vs', J.out.2, OV.out, AV.out, OB.out, S.out⟩
  case rest =>
  obtain ⟨j, vs', hj8, hov, hall', hob, hbel⟩ := hcut
  obtain ⟨wr, hwr⟩ : ∃ wr : World, wr = wc := ⟨_, rfl⟩
  rw [← hwr] at hov hob hbel ⊢
  clear hwr wc
  obtain ⟨al, hal⟩ : ∃ al, al = (cutsL 300 ls j).flatten := ⟨_, rfl⟩
  obtain ⟨Aa, ca, rfl, hr, hl, _, hba⟩ := hob.read
  rw [← hal] at hr hl ⊢
  have FL := Lib.hid (show al.length ≤ 2400 by have := cutsL_flat 300 ls j; rw [hal]; omega)
  have VL := Lib.hid (show vs'.length ≤ 8 by rw [hall'.length, cutsL, List.length_map, List.length_take]; omega)
  obtain ⟨a, ha⟩ : ∃ a, a = al.length := ⟨_, rfl⟩
  rw [← ha] at hl ⊢
  have AE := Lib.hid hal.symm
  have AL := Lib.hid ha.symm
  have AC := Lib.hid hl
  have AB := Lib.hid (show ∀ q, Aa = some q → q.block < wr.heap.size from fun q e => (hba q e).2)
  obtain ⟨Ap, cp, rfl, hr2, hl2, _, _⟩ := hov.read
  obtain ⟨p, hp⟩ : ∃ p, p = vs'.length := ⟨_, rfl⟩
  rw [← hp] at hl2 ⊢
  have PL := Lib.hid hp.symm
  have P8 := Lib.hid (show p ≤ 8 by rw [hp]; exact VL.out)
  have RA := Lib.hid hr
  have RP := Lib.hid hr2
  have AV := Lib.hid hall'
  have S := Lib.hid hbel
  obtain ⟨m, hm⟩ : ∃ m, m = a + k := ⟨_, rfl⟩
  have e2 : (a : Int) + (k : Int) = (m : Int) := by omega
  have ME := Lib.hid hm
  have MB := Lib.hid (show m ≤ 2527 by have := KB.out; have := FL.out; omega)
  have ab : (a : Int) ≤ 2400 := by have := FL.out; omega
  clear hal ha hr hl hp hr2 hl2 hov hob hall' hbel hba hm
  have e1 := E1.out
  go_wp2_with fail
  clear e1
  refine (dnew_any wr Ap p cp vs' (cutsL 300 ls j) PL.out RP.out (AV.out.mono (fun v l h => h.keep S.out)) (by rw [AE.out]; have := FL.out; omega) (by have := P8.out; omega)).mono ?_
  rw [AE.out]
  rintro e w2 ⟨g, D, rfl, h1, h2, h3, h4, h5⟩
  have AB := Lib.hid (show ∀ q, Aa = some q → q.block < g from fun q e => Nat.lt_of_lt_of_le (AB.out q e) h1)
  have RA := Lib.hid (RA.out.keep h5)
  have S := Lib.hid (SrcW.made S.out h1 h2 h3 h4 h5)
  clear h1 h2 h3 h4 h5 RP AV
  go_wp2_with fail
  generalize hB : Array.size (World.heap w2) = NB
  generalize hw : World.alloc w2 _ = w3
  obtain ⟨hv, hb⟩ := built_rows hw hB
  have V := Lib.hid hv
  have RA := Lib.hid (RA.out.keep hb)
  have S := Lib.hid (S.out.keep hb)
  clear hB hw hv hb
  refine (dnew_any w3 (some ⟨NB, 0, none⟩) 1 1 _ [al] rfl V.out (.cons ⟨Aa, ca, by rw [AL.out], by rw [AL.out]; exact AC.out, RA.out⟩ .nil) (by have := FL.out; simp; omega) (by omega)).mono ?_
  rw [show [al].flatten = al by simp]
  rintro e w4 ⟨g2, D2, rfl, h1, h2, h3, h4, h5⟩
  have NE := Lib.hid (show g < g2 ∧ D < g2 ∧ g < D2 ∧ D < D2 from ⟨Nat.lt_of_lt_of_le S.out.ltg h1, Nat.lt_of_lt_of_le S.out.ltD h1, Nat.lt_of_lt_of_le S.out.ltg h3, Nat.lt_of_lt_of_le S.out.ltD h3⟩)
  have T := Lib.hid (SrcW.made S.out.bel h1 h2 h3 h4 h5)
  have S := Lib.hid (S.out.keep h5)
  have RA := Lib.hid (RA.out.keep h5)
  clear h1 h2 h3 h4 h5 V
  go_wp2_with fail
  refine (tellW_any w g D al 0 w4 S.out (by have := FL.out; omega) m (by have := MB.out; omega) (by have := MB.out; omega)).mono ?_
  obtain ⟨X, hX⟩ : ∃ X, X = tellS al 0 m := ⟨_, rfl⟩
  rw [← hX, Nat.zero_add]
  have XE := Lib.hid hX
  have XL := Lib.hid (show X.length = m by rw [hX, tellS_length])
  have XA := Lib.hid (show X.take a = al by rw [hX, ME.out, tellS_add, ← AL.out, tellS_all]; simp)
  rintro e w5 ⟨⟨v, rfl, ho⟩, hs, hg⟩
  obtain ⟨Ax, cx, rfl, hrx, hlx, _, hbx⟩ := ho.read
  rw [XL.out] at hlx ⊢
  have RX := Lib.hid hrx
  have CX := Lib.hid hlx
  have BX := Lib.hid (show ∀ q, Ax = some q → g2 < q.block ∧ g < q.block from fun q e => ⟨Nat.lt_of_lt_of_le T.out.ltg (hbx q e).1, Nat.lt_of_lt_of_le S.out.ltg (hbx q e).1⟩)
  have S := Lib.hid hs
  have T := Lib.hid (T.out.far hg (by have := NE.out; omega) (by have := NE.out; omega) hs.hg)
  have RA := Lib.hid (RA.out.grow hg (fun _ q e => by have := AB.out q e; omega))
  clear ho hs hg hrx hlx hbx hX
  go_wp2_with fail
  refine (tellW_any w g2 D2 al 0 w5 T.out (by have := FL.out; omega) m (by have := MB.out; omega) (by have := MB.out; omega)).mono ?_
  rw [← XE.out, Nat.zero_add]
  rintro e w6 ⟨⟨v, rfl, ho⟩, hs, hg⟩
  obtain ⟨Ay, cy, rfl, hry, _, _, hby⟩ := ho.read
  rw [XL.out]
  have RY := Lib.hid hry
  have BY := Lib.hid (show ∀ q, Ay = some q → g2 < q.block ∧ g < q.block from fun q e => ⟨Nat.lt_of_lt_of_le T.out.ltg (hby q e).1, Nat.lt_of_lt_of_le (show g < w5.heap.size from S.out.ltg) (hby q e).1⟩)
  have T := Lib.hid hs
  have S := Lib.hid (S.out.far hg (by have := NE.out; omega) (by have := NE.out; omega) hs.hg)
  have RA := Lib.hid (RA.out.grow hg (fun _ q e => by have := AB.out q e; have := NE.out; omega))
  have RX := Lib.hid (RX.out.grow hg (fun _ q e => by have := BX.out q e; omega))
  clear ho hs hg hry hby
  go_upto_region 11 with fail
  have e3 : IntKind.i64.wrap ((a : Int) + (k : Int)) = (m : Int) := by rw [IntWalk.i64_in _ (by omega)]; exact e2
  obtain ⟨M2, hM2⟩ : ∃ M, M = m + 32 := ⟨_, rfl⟩
  have e4 : IntKind.i64.wrap ((m : Int) + 32) = (M2 : Int) := by rw [IntWalk.i64_in _ (by omega), hM2]; rfl
  obtain ⟨Y, hY⟩ : ∃ Y, Y = tellS al m 32 := ⟨_, rfl⟩
  have YE := Lib.hid hY.symm
  have YL := Lib.hid (show Y.length = 32 by rw [hY, tellS_length])
  have ME2 := Lib.hid hM2.symm
  have AM := Lib.hid (show a ≤ cx by have := ME.out; have := CX.out; omega)
  have C := Lib.hid (show Below w.heap.size w w6.drew ∧ RdB w6.drew Ax X ∧ RdB w6.drew Ay X ∧ RdB w6.drew Aa al from ⟨S.out.bel.drew, RX.out.keep (Below.refl _ _).drew, RY.out.keep (Below.refl _ _).drew, RA.out.keep (Below.refl _ _).drew⟩)
  have S := Lib.hid (S.out.keep (Below.refl _ _).drew)
  have T := Lib.hid (T.out.keep (Below.refl _ _).drew)
  clear hM2 hY e2 RX RY RA
  refine wp_region_road (fun W => Below w.heap.size w W ∧ RdB W Ax X ∧ RdB W Ay X ∧ RdB W Aa al) [(true, 0), (true, 1), (true, 2), (true, 3), (true, 4), (true, 5), (true, 6), (true, 7), (true, 8), (true, 9), (true, 10), (true, 11), (true, 12), (true, 13), (true, 14), (true, 15), (true, 16), (true, 17), (true, 18), (true, 19), (true, 20), (true, 21), (true, 22), (true, 23), (true, 24), (true, 25), (true, 27), (false, 26), (false, 28), (true, 29), (true, 30), (true, 31), (true, 32), (true, 34), (true, 35), (true, 36), (true, 37), (true, 38), (false, 33), (true, 39), (true, 40), (true, 41), (false, 42), (true, 43), (true, 44)] (by kernel_rfl) (by kernel_rfl) (fun _ _ d _ _ h => by cases d <;> exact h) ?_
  simp only [List.filterMap_cons, List.filterMap_nil, List.getElem?_toArray, List.getElem?_cons_zero, List.getElem?_cons_succ, Option.map_some]
  refine planG_q (v := ?_) (by rfl) (C.out) ?_ ?_
  rotate_left
  · intro W hW
    go_simp
    with_reducible rfl
  simp only [Act.put, List.setIfInBounds_toArray, List.set_cons_zero, List.set_cons_succ]
  refine planG_q (v := ?_) (by rfl) (C.out) ?_ ?_
  rotate_left
  · intro W hW
    go_simp
    with_reducible rfl
  simp only [Act.put, List.setIfInBounds_toArray, List.set_cons_zero, List.set_cons_succ]
  refine planG_q (v := ?_) (by rfl) (C.out) ?_ ?_
  rotate_left
  · intro W hW
    go_simp
    with_reducible rfl
  simp only [Act.put, List.setIfInBounds_toArray, List.set_cons_zero, List.set_cons_succ]
  refine planG_q (v := ?_) (by rfl) (C.out) ?_ ?_
  rotate_left
  · intro W hW
    go_simp
    with_reducible rfl
  simp only [Act.put, List.setIfInBounds_toArray, List.set_cons_zero, List.set_cons_succ]
  refine planG_q (v := ?_) (by rfl) (C.out) ?_ ?_
  rotate_left
  · intro W hW
    go_simp
    with_reducible rfl
  simp only [Act.put, List.setIfInBounds_toArray, List.set_cons_zero, List.set_cons_succ]
  refine planG_q (v := ?_) (by rfl) (C.out) ?_ ?_
  rotate_left
  · intro W hW
    go_simp
    with_reducible rfl
  simp only [Act.put, List.setIfInBounds_toArray, List.set_cons_zero, List.set_cons_succ]
  refine planG_q (v := ?_) (by rfl) (C.out) ?_ ?_
  rotate_left
  · intro W hW
    go_simp
    with_reducible rfl
  simp only [Act.put, List.setIfInBounds_toArray, List.set_cons_zero, List.set_cons_succ]
  refine planG_q (v := ?_) (by rfl) (C.out) ?_ ?_
  rotate_left
  · intro W hW
    go_simp
    with_reducible rfl
  simp only [Act.put, List.setIfInBounds_toArray, List.set_cons_zero, List.set_cons_succ]
  refine planG_q (v := ?_) (by rfl) (C.out) ?_ ?_
  rotate_left
  · intro W hW
    go_simp
    with_reducible rfl
  simp only [Act.put, List.setIfInBounds_toArray, List.set_cons_zero, List.set_cons_succ]
  refine planG_q (by rfl) (C.out) (fun W hW => run_str 22 9 (.tmp 70) rfl Try.underlying22 Try.underlying5 Try.underlying9 hW.2.1 m cx XL.out rfl) ?_
  simp only [Act.put, List.setIfInBounds_toArray, List.set_cons_zero, List.set_cons_succ]
  refine planG_q (v := ?_) (by rfl) (C.out) ?_ ?_
  rotate_left
  · intro W hW
    go_simp
    with_reducible rfl
  simp only [Act.put, List.setIfInBounds_toArray, List.set_cons_zero, List.set_cons_succ]
  refine planG_q (by rfl) (C.out) (fun W hW => run_str 22 9 (.tmp 72) rfl Try.underlying22 Try.underlying5 Try.underlying9 hW.2.2.1 m cy XL.out rfl) ?_
  simp only [Act.put, List.setIfInBounds_toArray, List.set_cons_zero, List.set_cons_succ]
  refine planG_q (by rfl) (C.out) (fun W hW => run_eqstr_true 9 9 (.tmp 71) (.tmp 73) rfl X X rfl rfl rfl W) ?_
  simp only [Act.put, List.setIfInBounds_toArray, List.set_cons_zero, List.set_cons_succ]
  refine planG_q (v := ?_) (by rfl) (C.out) ?_ ?_
  rotate_left
  · intro W hW
    go_simp
    with_reducible rfl
  simp only [Act.put, List.setIfInBounds_toArray, List.set_cons_zero, List.set_cons_succ]
  refine planG_q (v := ?_) (by rfl) (C.out) ?_ ?_
  rotate_left
  · intro W hW
    go_simp
    with_reducible rfl
  simp only [Act.put, List.setIfInBounds_toArray, List.set_cons_zero, List.set_cons_succ]
  refine planG_q (v := ?_) (by rfl) (C.out) ?_ ?_
  rotate_left
  · intro W hW
    go_simp
    with_reducible rfl
  simp only [Act.put, List.setIfInBounds_toArray, List.set_cons_zero, List.set_cons_succ]
  refine planG_q (v := ?_) (by rfl) (C.out) ?_ ?_
  rotate_left
  · intro W hW
    go_simp
    with_reducible rfl
  simp only [Act.put, List.setIfInBounds_toArray, List.set_cons_zero, List.set_cons_succ]
  refine planG_q (v := ?_) (by rfl) (C.out) ?_ ?_
  rotate_left
  · intro W hW
    go_simp
    with_reducible rfl
  simp only [Act.put, List.setIfInBounds_toArray, List.set_cons_zero, List.set_cons_succ]
  refine planG_q (by rfl) (C.out) (fun W hW => run_cut_to 22 (.tmp 77) (.tmp 79) rfl 5 Try.underlying22 I0.out I1.out Ax m cx a rfl rfl AM.out W) ?_
  simp only [Act.put, List.setIfInBounds_toArray, List.set_cons_zero, List.set_cons_succ]
  refine planG_q (by rfl) (C.out) (fun W hW => run_str 22 9 (.tmp 80) rfl Try.underlying22 Try.underlying5 Try.underlying9 (show RdB W Ax al by have := hW.2.1.take a; rwa [XA.out] at this) a cx AL.out rfl) ?_
  simp only [Act.put, List.setIfInBounds_toArray, List.set_cons_zero, List.set_cons_succ]
  refine planG_q (v := ?_) (by rfl) (C.out) ?_ ?_
  rotate_left
  · intro W hW
    go_simp
    with_reducible rfl
  simp only [Act.put, List.setIfInBounds_toArray, List.set_cons_zero, List.set_cons_succ]
  refine planG_q (by rfl) (C.out) (fun W hW => run_str 22 9 (.tmp 82) rfl Try.underlying22 Try.underlying5 Try.underlying9 hW.2.2.2 a ca AL.out rfl) ?_
  simp only [Act.put, List.setIfInBounds_toArray, List.set_cons_zero, List.set_cons_succ]
  refine planG_q (by rfl) (C.out) (fun W hW => run_eqstr_true 9 9 (.tmp 81) (.tmp 83) rfl al al rfl rfl rfl W) ?_
  simp only [Act.put, List.setIfInBounds_toArray, List.set_cons_zero, List.set_cons_succ]
  refine planG_q (v := ?_) (by rfl) (C.out) ?_ ?_
  rotate_left
  · intro W hW
    go_simp
    with_reducible rfl
  simp only [Act.put, List.setIfInBounds_toArray, List.set_cons_zero, List.set_cons_succ]
  refine planG_q (v := ?_) (by rfl) (C.out) ?_ ?_
  rotate_left
  · intro W hW
    go_simp
    with_reducible rfl
  simp only [Act.put, List.setIfInBounds_toArray, List.set_cons_zero, List.set_cons_succ]
  refine planG_q (v := ?_) (by rfl) (C.out) ?_ ?_
  rotate_left
  · intro W hW
    go_simp
    with_reducible rfl
  simp only [Act.put, List.setIfInBounds_toArray, List.set_cons_zero, List.set_cons_succ]
  refine planG_q (v := ?_) (by rfl) (C.out) ?_ ?_
  rotate_left
  · intro W hW
    go_simp
    with_reducible rfl
  simp only [Act.put, List.setIfInBounds_toArray, List.set_cons_zero, List.set_cons_succ]
  refine planG_t (by rfl) (fun K hK => ?_)
  go_simp
  refine (dkey_any g D al m true w6.drew S.out.src S.out.ltD (by have := FL.out; omega) (by have := MB.out; omega)).mono ?_
  rw [YE.out, ME2.out]
  rintro e w7 ⟨rfl, hs, hg⟩
  have T := Lib.hid (T.out.far hg (by have := NE.out; omega) (by have := NE.out; omega) S.out.hg)
  have S := Lib.hid (S.out.step hs hg)
  have C := Lib.hid (show Below w.heap.size w w7 ∧ RdB w7 Ax X ∧ RdB w7 Ay X ∧ RdB w7 Aa al from ⟨S.out.bel, C.out.2.1.grow hg (fun _ q e => by have := BX.out q e; omega), C.out.2.2.1.grow hg (fun _ q e => by have := BY.out q e; omega), C.out.2.2.2.grow hg (fun _ q e => by have := AB.out q e; omega)⟩)
  clear hs hg
  refine hK.out _ _ (C.out) ?_
  clear hK K
  refine planG_t (by rfl) (fun K hK => ?_)
  go_simp
  refine (dkey_any g2 D2 al m true w7 T.out.src T.out.ltD (by have := FL.out; omega) (by have := MB.out; omega)).mono ?_
  rw [YE.out, ME2.out]
  rintro e w8 ⟨rfl, hs, hg⟩
  have S := Lib.hid (S.out.far hg (by have := NE.out; omega) (by have := NE.out; omega) T.out.hg)
  have C := Lib.hid (show Below w.heap.size w w8 ∧ RdB w8 Ax X ∧ RdB w8 Ay X ∧ RdB w8 Aa al from ⟨S.out.bel, C.out.2.1.grow hg (fun _ q e => by have := BX.out q e; omega), C.out.2.2.1.grow hg (fun _ q e => by have := BY.out q e; omega), C.out.2.2.2.grow hg (fun _ q e => by have := AB.out q e; have := NE.out; omega)⟩)
  clear hs hg T
  refine hK.out _ _ (C.out) ?_
  clear hK K
  refine planG_q (by rfl) (C.out) (fun W hW => run_eq_arr_true 30 _ (.tmp 88) (.tmp 90) rfl 5 32 Try.underlying30 Try.underlying5 (by kernel_rfl) (by kernel_rfl) Y Y YL.out rfl rfl rfl W) ?_
  simp only [Act.put, List.setIfInBounds_toArray, List.set_cons_zero, List.set_cons_succ]
  refine planG_q (v := ?_) (by rfl) (C.out) ?_ ?_
  rotate_left
  · intro W hW
    go_simp
    with_reducible rfl
  simp only [Act.put, List.setIfInBounds_toArray, List.set_cons_zero, List.set_cons_succ]
  refine planG_q (v := ?_) (by rfl) (C.out) ?_ ?_
  rotate_left
  · intro W hW
    go_simp
    with_reducible rfl
  simp only [Act.put, List.setIfInBounds_toArray, List.set_cons_zero, List.set_cons_succ]
  refine planG_q (v := ?_) (by rfl) (C.out) ?_ ?_
  rotate_left
  · intro W hW
    go_simp
    with_reducible rfl
  simp only [Act.put, List.setIfInBounds_toArray, List.set_cons_zero, List.set_cons_succ]
  refine planG_q (v := ?_) (by rfl) (C.out) ?_ ?_
  rotate_left
  · intro W hW
    go_simp
    with_reducible rfl
  simp only [Act.put, List.setIfInBounds_toArray, List.set_cons_zero, List.set_cons_succ]
  refine planG_q (v := ?_) (by rfl) (C.out) ?_ ?_
  rotate_left
  · intro W hW
    go_simp
    with_reducible rfl
  simp only [Act.put, List.setIfInBounds_toArray, List.set_cons_zero, List.set_cons_succ]
  refine planG_q (v := ?_) (by rfl) (C.out) ?_ ?_
  rotate_left
  · intro W hW
    go_simp
    with_reducible rfl
  simp only [Act.put, List.setIfInBounds_toArray, List.set_cons_zero, List.set_cons_succ]
  refine planG_q (v := ?_) (by rfl) (C.out) ?_ ?_
  rotate_left
  · intro W hW
    go_simp
    with_reducible rfl
  simp only [Act.put, List.setIfInBounds_toArray, List.set_cons_zero, List.set_cons_succ]
  refine planG_q (v := ?_) (by rfl) (C.out) ?_ ?_
  rotate_left
  · intro W hW
    go_simp
    with_reducible rfl
  simp only [Act.put, List.setIfInBounds_toArray, List.set_cons_zero, List.set_cons_succ]
  refine planG_t (by rfl) (fun K hK => ?_)
  go_simp
  refine (used_any g D _ _ _ _ S.out.src).mono ?_
  rintro e wd ⟨rfl, hw⟩
  rw [hw]
  clear hw wd
  refine hK.out _ _ (C.out) ?_
  clear hK K
  refine planG_q (v := ?_) (by rfl) (C.out) ?_ ?_
  rotate_left
  · intro W hW
    go_simp
    with_reducible rfl
  simp only [Act.put, List.setIfInBounds_toArray, List.set_cons_zero, List.set_cons_succ]
  refine planG_q (v := ?_) (by rfl) (C.out) ?_ ?_
  rotate_left
  · intro W hW
    go_simp
    with_reducible rfl
  simp only [Act.put, List.setIfInBounds_toArray, List.set_cons_zero, List.set_cons_succ]
  refine planG_q (v := ?_) (by rfl) (C.out) ?_ ?_
  rotate_left
  · intro W hW
    go_simp
    with_reducible rfl
  simp only [Act.put, List.setIfInBounds_toArray, List.set_cons_zero, List.set_cons_succ]
  clear e3 e4
  refine planG_t (by rfl) (fun K hK => ?_)
  go_simp
  refine (drawOne_true _).mono ?_
  rintro e w9 ⟨rfl, hb⟩
  have C := Lib.hid (show Below w.heap.size w w9 ∧ RdB w9 Ax X ∧ RdB w9 Ay X ∧ RdB w9 Aa al from ⟨C.out.1.trans (hb.mono C.out.1.size), C.out.2.1.keep hb, C.out.2.2.1.keep hb, C.out.2.2.2.keep hb⟩)
  clear hb
  refine hK.out _ _ (C.out) ?_
  clear hK K
  refine planG_q (v := ?_) (by rfl) (C.out) ?_ ?_
  rotate_left
  · intro W hW
    go_simp
    with_reducible rfl
  simp only [Act.put, List.setIfInBounds_toArray, List.set_cons_zero, List.set_cons_succ]
  refine planG_q (v := ?_) (by rfl) (C.out) ?_ ?_
  rotate_left
  · intro W hW
    go_simp
    with_reducible rfl
  simp only [Act.put, List.setIfInBounds_toArray, List.set_cons_zero, List.set_cons_succ]
  refine planG_nil ?_
  have BF := Lib.hid C.out.1
  go_wp2_with fail
  go_ret
  exact ⟨rfl, BF.out⟩
end Go.Proofs.Ytphpcegifdiofaa
