/- The law KdfDerives, walked. -/
import Derived.Test.YtimdlnamicgdnaaRefDer
import Derived.Test.YtimdlnamicgdnaaKdfText
import Derived.Test.YtimdlnamicgdnaaKdfOne
import Derived.Test.YtimdlnamicgdnaaHelp
namespace Go.Proofs.Ytimdlnamicgdnaa
set_option linter.unusedVariables false
set_option linter.unusedSimpArgs false
open Go.RowKit
attribute [local go_sem ↓] Go.wp_at_zero Go.wp_at_succ

/-- What stands while the law is asked. -/
structure TwoK (w : World) (M : Nat) (k : List UInt8) (M2 : Nat) (X : List UInt8) (W : World) : Prop where
  k : KeyB w M k W
  x : W.heap[M2]? = some (.cells (W8 X) 33 (0, 0))
theorem TwoK.keep {w W W' : World} {M M2 : Nat} {k X : List UInt8} (h : TwoK w M k M2 X W) (hb : Below W.heap.size W W') : TwoK w M k M2 X W' := ⟨h.k.keep hb, below_block hb (row_lt h.x) h.x⟩
theorem cutsL_len (k : Nat) (ls : List (List UInt8)) (j : Nat) : (cutsL k ls j).length ≤ j := by rw [cutsL, List.length_map, List.length_take]; omega
theorem ne_move {u v v1 : Value} {N : Nat} (h : ∀ g, u.ownBlock = some g → v.ownBlock ≠ some g) (hat : v1.ownBlock = v.ownBlock ∨ v1.ownBlock = some N) (hu : ∀ g, u.ownBlock = some g → g < N) : ∀ g, u.ownBlock = some g → v1.ownBlock ≠ some g := by
  intro g hg he
  rcases hat with e | e
  · exact h g hg (e ▸ he)
  · rw [e] at he
    injection he with he
    have := hu g hg
    omega
theorem ne_swap {u v : Value} (h : ∀ g, u.ownBlock = some g → v.ownBlock ≠ some g) : ∀ g, v.ownBlock = some g → u.ownBlock ≠ some g := fun g hg he => h g he hg
theorem ne_or {u v : Value} (h : ∀ g, u.ownBlock = some g → v.ownBlock ≠ some g) : u.ownBlock = none ∨ u.ownBlock ≠ v.ownBlock := by
  rcases hq : u.ownBlock with _ | g
  · exact .inl rfl
  · exact .inr (fun e => h g hq e.symm)
set_option maxRecDepth 100000 in
set_option maxHeartbeats 8000000 in
theorem kdfDerives_walk (w : World) (k : List UInt8) (hk : k.length = 32) (A0 : Option Addr) (c0 : Nat) (l0 : List UInt8) (R0 : RdB w A0 l0) (n0 : l0.length ≤ c0) (m0 : c0 ≤ 9223372036854775807) (b0 : ∀ a, A0 = some a → a.block < w.heap.size) (z0 : l0.length ≤ 140737488351232)
    (A : Option Addr) (c : Nat) (vs : List Value) (ls : List (List UInt8)) (hR : RdV w A vs) (hc : vs.length ≤ c) (hcm : c ≤ 9223372036854775807) (hall : All2 (SlB w) vs ls) (hlen : ls.length = vs.length) (hmx : ∀ l ∈ ls, l.length ≤ 9223372036854775807) (hz : vs.length ≤ 140737488351232) :
    Calls Try.prog 7 #[.agg (W8 k), .slice A0 l0.length c0, .slice A vs.length c] w fun e w' => e = .returned (.bool true) ∧ Below w.heap.size w w' := by
  obtain ⟨i0, hi, hz0, hz1, hz2⟩ := info_parts (show (Try.prog.info? 5).map (fun i => (i.zero, i.size, i.bytes)) = some (some (.int .u8 0), 1, 1) by kernel_rfl)
  have I0 := Lib.hid hi
  obtain ⟨n, hn⟩ : ∃ n, n = vs.length := ⟨_, rfl⟩
  rw [← hn] at hc hlen hz ⊢
  have HK := Lib.hid hk
  have HR := Lib.hid hR
  have HA := Lib.hid hall
  have NL := Lib.hid hlen
  have TV := Lib.hid (show SlT Try.prog 29 22 (.slice none 0 0) 24 from ⟨Try.underlying29, by kernel_rfl, rfl⟩)
  have TS := Lib.hid (show SlT Try.prog 40 9 (.string (strB [])) 16 from ⟨Try.underlying40, by kernel_rfl, rfl⟩)
  have ZK := Lib.hid (show (Try.prog.info? 33).map (·.size) = some (W8 k).size by rw [W8_size, hk]; kernel_rfl)
  have G0 := Lib.hid n0
  have H0 := Lib.hid (R0.take 100)
  have nb : (n : Int) ≤ 140737488351232 := by omega
  clear hi hz0 hz1 hz2 n0 m0 R0 b0 hn hR hc hcm hall hlen hmx hk
  go_enter Try.func7, Try.ntmps7
  go_upto_region 1 with fail
  generalize hM : Array.size (World.heap w) = M
  generalize hw : World.alloc w _ = w1
  have S := Lib.hid (show KeyB w M k w1 by rw [← hw, ← hM]; exact ⟨(Below.refl _ _).alloc (Nat.le_refl _) _, ha_new _ _ _ rfl, Nat.le_refl _⟩)
  clear hw
  have MW := Lib.hid hM
  clear hM
  go_wp2_with fail
  refine (ktext_any _ A0 _ c0 l0 rfl G0.out 100 (by omega)).mono ?_
  obtain ⟨word, hword⟩ : ∃ x, x = l0.take 100 := ⟨_, rfl⟩
  obtain ⟨wl, hwl⟩ : ∃ k, k = word.length := ⟨_, rfl⟩
  rw [← hword, ← hwl]
  rw [← hword] at H0
  have WL := Lib.hid hwl.symm
  have W1 := Lib.hid (show wl ≤ 100 ∧ wl ≤ c0 by have := G0.out; rw [hwl, hword, List.length_take]; omega)
  rintro e w1 ⟨rfl, rfl⟩
  clear hword hwl G0
  go_wp2_with fail
  go_loopw [7, 8, 9] (fun u v i wr => ∃ (j : Nat) (vs' : List Value), j ≤ n ∧ j ≤ 6 ∧ i = .int .i64 (j : Int) ∧ OwnV wr w1.heap.size 22 v vs' ∧ All2 (SlB w) vs' (cutsL 100 ls j) ∧ OwnV wr w1.heap.size 9 u (StrV (cutsL 100 ls j)) ∧ (∀ g, u.ownBlock = some g → v.ownBlock ≠ some g) ∧ Below w1.heap.size w1 wr) (fun _ _ i _ => 6 - (intOf i).toNat)
  case atStart => exact ⟨0, [], by omega, by omega, rfl, OwnV.nil _ _ _, .nil, OwnV.nil _ _ _, by simp [Value.ownBlock], Below.refl _ _⟩
  case round =>
    obtain ⟨j, vs', hj, hj6, rfl, hov, hall', hob, hne, hbel⟩ := hrel
    have J := Lib.hid (And.intro hj hj6)
    have OV := Lib.hid hov
    have AV := Lib.hid hall'
    have OS := Lib.hid hob
    have NE := Lib.hid hne
    have D := Lib.hid hbel
    have S1 := S
    have S := Lib.hid (S.out.keep hbel)
    have VL := Lib.hid (show vs'.length ≤ 6 by have := hall'.length; have := cutsL_len 100 ls j; omega)
    have CL := Lib.hid (show (cutsL 100 ls j).length ≤ 6 by have := cutsL_len 100 ls j; omega)
    have FL := Lib.hid (show (cutsL 100 ls j).flatten.length ≤ 600 by have := cutsL_flat 100 ls j; omega)
    clear hj hj6 hov hall' hob hne hbel
    by_cases hlt : j < n
    · have hD : decide ((j : Int) < (n : Int)) = true := by simp; omega
      by_cases hlt2 : j < 6
      · have hD2 : decide ((j : Int) < 6) = true := by simp; omega
        obtain ⟨l, hl⟩ : ∃ l, ls[j]? = some l := ⟨_, List.getElem?_eq_getElem (by rw [NL.out]; exact hlt)⟩
        obtain ⟨v, hv, A', c', rfl, hc', hR'⟩ := HA.out.get j l hl
        have HV := Lib.hid hv
        obtain ⟨b, o, rfl, hcell⟩ := (HR.out.keep S.out.1) j _ hv
        obtain ⟨m, hm⟩ : ∃ m, m = l.length := ⟨_, rfl⟩
        rw [← hm] at hcell hc' HV
        have LE := Lib.hid hm.symm
        have C1 := Lib.hid hc'
        have CS := Lib.hid (cutsL_succ 100 ls j l hl)
        obtain ⟨x, hx⟩ : ∃ x, x = l.take 100 := ⟨_, rfl⟩
        obtain ⟨q, hq⟩ : ∃ q, q = x.length := ⟨_, rfl⟩
        have XE := Lib.hid hx
        have QE := Lib.hid hq.symm
        have QB := Lib.hid (show q ≤ 100 ∧ q ≤ c' by rw [hq, hx, List.length_take]; omega)
        have RX := Lib.hid (show RdB w A' x by rw [hx]; exact hR'.take _)
        rw [← hx] at CS
        clear hl hv hc' hR' hm hx hq
        go_wp2_with fail
        refine (ktext_any _ A' m c' l LE.out C1.out 100 (by omega)).mono ?_
        rw [← XE.out, QE.out]
        rintro e w2 ⟨rfl, hw2⟩
        rw [hw2]
        clear hw2 w2
        go_wp2_with (refine appV_list rfl TV.out (.tmp 23) (.tmp 29) rfl w1.heap.size u8 vs' [.slice A' q c'] (some ⟨wr.heap.size, 0, none⟩) 1 1 rfl rfl rfl (OV.out.alloc _) (RdV.one (row_cell (fr := (0, 0)) (ha_new _ _ _ rfl) 0 rfl)) (by intro u hu; simp at hu; subst hu; rfl) ?d1 ?d2 ?d3 ?_)
        case d1 => have := D.out.size; simp; omega
        case d2 => have := VL.out; omega
        case d3 => have := VL.out; omega
        intro v1 w2 ho hg hat
        have B2 := Lib.hid (show Below w1.heap.size w1 (wr.alloc (.cells #[.slice A' q c'] 22)) from D.out.alloc D.out.size _)
        have OS2 := Lib.hid ((OS.out.alloc (.cells #[.slice A' q c'] 22)).grown hg (ne_or NE.out))
        have D2 := Lib.hid (B2.out.trans (grown_below hg B2.out.size (fun g e => (OV.out.lt g e).1)))
        have S2 := Lib.hid (show Below w.heap.size w w2 from (S.out.1.alloc S.out.1.size (.cells #[.slice A' q c'] 22)).trans (grown_below hg (by rw [ha_size]; have := S.out.1.size; omega) (fun g e => Nat.le_trans S1.out.1.size (OV.out.lt g e).1)))
        have NE2 := Lib.hid (ne_move NE.out hat (fun g e => by have := (OS.out.lt g e).2; first | omega | (rw [ha_size]; omega)))
        have OV2 := Lib.hid ho
        have AV2 := Lib.hid (show All2 (SlB w) (vs' ++ [.slice A' q c']) (cutsL 100 ls (j + 1)) by rw [CS.out]; exact AV.out.snoc ⟨A', c', by rw [QE.out], by rw [QE.out]; exact QB.out.2, RX.out⟩)
        obtain ⟨b', o', e', hcell'⟩ := (HR.out.keep S2.out) j _ HV.out
        injection e' with e'
        injection e' with e1 e2
        subst e1 e2
        clear ho hg hat OV AV OS B2 hcell NE
        go_wp2_with fail
        refine (ktext_any _ A' m c' l LE.out C1.out 100 (by omega)).mono ?_
        rw [← XE.out, QE.out]
        rintro e w3 ⟨rfl, hw2⟩
        rw [hw2]
        clear hw2 w3
        go_wp2_with (first
          | (refine wpList_val rfl (run_str 22 9 (.tmp 36) rfl Try.underlying22 Try.underlying5 Try.underlying9 (RX.out.keep S2.out) q c' QE.out rfl) ?_)
          | (refine appV_list rfl TS.out (.tmp 31) (.tmp 38) rfl w1.heap.size u7 (StrV (cutsL 100 ls j)) [.string (strB x)] (some ⟨w2.heap.size, 0, none⟩) 1 1 rfl rfl rfl (OS2.out.alloc _) (RdV.one (row_cell (fr := (0, 0)) (ha_new _ _ _ rfl) 0 rfl)) (by intro u hu; simp at hu; subst hu; rfl) ?e1 ?e2 ?e3 ?_))
        case e1 => have := D2.out.size; simp; omega
        case e2 => rw [StrV_length]; have := CL.out; omega
        case e3 => rw [StrV_length]; have := CL.out; omega
        intro v3 w3 ho hg hat
        have B2 := Lib.hid (show Below w1.heap.size w1 (w2.alloc (.cells #[.string (strB x)] 9)) from D2.out.alloc D2.out.size _)
        have OV3 := Lib.hid ((OV2.out.alloc (.cells #[.string (strB x)] 9)).grown hg (ne_or (ne_swap NE2.out)))
        have D3 := Lib.hid (B2.out.trans (grown_below hg B2.out.size (fun g e => (OS2.out.lt g e).1)))
        have NE3 := Lib.hid (ne_swap (ne_move (ne_swap NE2.out) hat (fun g e => by have := (OV2.out.lt g e).2; first | omega | (rw [ha_size]; omega))))
        have OS3 := Lib.hid (show OwnV w3 w1.heap.size 9 v3 (StrV (cutsL 100 ls (j + 1))) by rw [CS.out, StrV_append]; exact ho)
        clear ho hg hat OV2 OS2 hcell' B2
        go_wp2_with fail
        go_roundw
        case rel => exact ⟨j + 1, _, by omega, by omega, by go_num, OV3.out, AV2.out, OS3.out, NE3.out, D3.out⟩
        case measure => simp [intOf]; omega
      · have hD2 : decide ((j : Int) < 6) = false := by simp; omega
        obtain ⟨ps, hps⟩ : ∃ ps, ps = cutsL 100 ls j := ⟨_, rfl⟩
        rw [← hps] at AV OS CL FL
        obtain ⟨As, cs, rfl, hr, hl, _, _⟩ := OS.out.read
        obtain ⟨Ap, cp, rfl, hr2, hl2, _, _⟩ := OV.out.read
        rw [StrV_length] at hl ⊢
        obtain ⟨q, hq⟩ : ∃ q, q = ps.length := ⟨_, rfl⟩
        obtain ⟨p, hp⟩ : ∃ p, p = vs'.length := ⟨_, rfl⟩
        rw [← hq] at CL ⊢
        rw [← hp] at VL ⊢
        have QE := Lib.hid hq.symm
        have PE := Lib.hid hp.symm
        have PS := Lib.hid hr
        have PV := Lib.hid hr2
        clear hps hr hl hr2 hl2 hq hp OV OS NE J
        go_wp2_with (first
          | (refine wpList_val rfl (run_load_row 33 (.tmp 3) rfl M rfl 33 (W8 k) (0, 0) _ S.out.2.1 Try.underlying33 rfl ZK.out) ?_)
          | (refine wpList_val rfl (run_str 22 9 (.tmp 41) rfl Try.underlying22 Try.underlying5 Try.underlying9 (H0.out.keep S.out.1) wl c0 WL.out rfl) ?_))
        refine (derive_any wr k HK.out word (by have := WL.out; have := W1.out.1; omega) Ap p cp vs' ps PE.out PV.out (AV.out.mono fun v l h => h.keep S.out.1) (by have := FL.out; omega) (by have := VL.out; omega)).mono ?_
        obtain ⟨X, hX⟩ : ∃ X, X = deriveL k word ps := ⟨_, rfl⟩
        rw [← hX]
        have XE := Lib.hid hX
        have XL := Lib.hid (show X.length = 32 by rw [hX, deriveL_length])
        have ZX := Lib.hid (show (Try.prog.info? 33).map (·.size) = some (W8 X).size by rw [W8_size, XL.out]; kernel_rfl)
        rintro e w3 ⟨rfl, hb⟩
        have S := Lib.hid (S.out.keep hb)
        have DB := Lib.hid hb
        clear hX hb
        go_upto_region 10 with (refine wpList_store_new rfl rfl 33 (.tmp 10) (.tmp 44) rfl (W8 X) rfl rfl ZX.out ?c1 (W8_one _) ?_)
        case c1 => rw [W8_size, XL.out]; rfl
        generalize hM : Array.size (World.heap w3) = M2
        generalize hw : World.alloc w3 _ = w4
        have hb : Below w3.heap.size w3 w4 := by rw [← hw]; exact below_new _ _
        have S := Lib.hid (show TwoK w M k M2 X w4.drew from ⟨(S.out.keep hb).keep (Below.refl _ _).drew, by show w4.heap[M2]? = _; rw [← hw]; exact ha_new _ _ _ hM.symm⟩)
        have PS := Lib.hid ((PS.out.keep (DB.out.trans (hb.mono DB.out.size))).keep (Below.refl _ _).drew)
        clear hM hw hb
        refine wp_region_road (TwoK w M k M2 X) [(true, 0), (true, 1), (true, 2), (true, 3), (true, 4), (true, 5), (true, 6), (false, 7), (true, 8), (true, 9), (false, 10), (true, 11), (true, 12)] (by kernel_rfl) (by kernel_rfl) (fun _ _ d _ _ h => by cases d <;> exact h) ?_
        simp only [List.filterMap_cons, List.filterMap_nil, List.getElem?_toArray, List.getElem?_cons_zero, List.getElem?_cons_succ, Option.map_some]
        refine planG_q (by rfl) (S.out) (fun W hW => run_arr_all 33 (.tmp 10) rfl 32 5 Try.underlying33 I0.out M2 rfl _) ?_
        simp only [Act.put, List.setIfInBounds_toArray, List.set_cons_zero, List.set_cons_succ]
        refine planG_q (by rfl) (S.out) (fun W hW => run_str 22 9 (.tmp 45) rfl Try.underlying22 Try.underlying5 Try.underlying9 (RdB.row hW.x) 32 32 XL.out rfl) ?_
        simp only [Act.put, List.setIfInBounds_toArray, List.set_cons_zero, List.set_cons_succ]
        refine planG_q (by rfl) (S.out) (fun W hW => run_arr_all 33 (.tmp 3) rfl 32 5 Try.underlying33 I0.out M rfl _) ?_
        simp only [Act.put, List.setIfInBounds_toArray, List.set_cons_zero, List.set_cons_succ]
        refine planG_q (by rfl) (S.out) (fun W hW => run_str 22 9 (.tmp 47) rfl Try.underlying22 Try.underlying5 Try.underlying9 (RdB.row hW.k.2.1) 32 32 HK.out rfl) ?_
        simp only [Act.put, List.setIfInBounds_toArray, List.set_cons_zero, List.set_cons_succ]
        refine planG_q (v := ?_) (by rfl) (S.out) ?_ ?_
        rotate_left
        · intro W hW
          go_simp
          with_reducible rfl
        simp only [Act.put, List.setIfInBounds_toArray, List.set_cons_zero, List.set_cons_succ]
        refine planG_q (by rfl) (S.out) (fun W hW => run_str 22 9 (.tmp 49) rfl Try.underlying22 Try.underlying5 Try.underlying9 (H0.out.keep hW.k.1) wl c0 WL.out rfl) ?_
        simp only [Act.put, List.setIfInBounds_toArray, List.set_cons_zero, List.set_cons_succ]
        refine planG_q (v := ?_) (by rfl) (S.out) ?_ ?_
        rotate_left
        · intro W hW
          go_simp
          with_reducible rfl
        simp only [Act.put, List.setIfInBounds_toArray, List.set_cons_zero, List.set_cons_succ]
        refine planG_t (by rfl) (fun K hK => ?_)
        go_simp
        refine (rderive_any k word 32 HK.out (by omega) wl WL.out (by have := W1.out.1; omega) As q cs ps QE.out _ PS.out (by rw [infoL, List.length_append, sizedL_length, sized_flat]; have := FL.out; have := CL.out; have := QE.out; have := WL.out; have := W1.out.1; omega)).mono ?_
        rw [← XE.out]
        rintro e w5 ⟨rfl, hb⟩
        have S := Lib.hid (S.out.keep hb)
        clear hb
        refine hK.out _ _ (S.out) ?_
        clear hK K
        refine planG_q (by rfl) (S.out) (fun W hW => run_eqstr_true 9 9 (.tmp 46) (.tmp 52) rfl X X rfl rfl rfl W) ?_
        simp only [Act.put, List.setIfInBounds_toArray, List.set_cons_zero, List.set_cons_succ]
        refine planG_q (v := ?_) (by rfl) (S.out) ?_ ?_
        rotate_left
        · intro W hW
          go_simp
          with_reducible rfl
        simp only [Act.put, List.setIfInBounds_toArray, List.set_cons_zero, List.set_cons_succ]
        refine planG_t (by rfl) (fun K hK => ?_)
        go_simp
        refine (kdfOne_true _).mono ?_
        rintro e w6 ⟨rfl, hb⟩
        have S := Lib.hid (S.out.keep hb)
        clear hb
        refine hK.out _ _ (S.out) ?_
        clear hK K
        refine planG_q (v := ?_) (by rfl) (S.out) ?_ ?_
        rotate_left
        · intro W hW
          go_simp
          with_reducible rfl
        simp only [Act.put, List.setIfInBounds_toArray, List.set_cons_zero, List.set_cons_succ]
        refine planG_q (v := ?_) (by rfl) (S.out) ?_ ?_
        rotate_left
        · intro W hW
          go_simp
          with_reducible rfl
        simp only [Act.put, List.setIfInBounds_toArray, List.set_cons_zero, List.set_cons_succ]
        refine planG_nil ?_
        go_wp2_with fail
        go_ret
        exact ⟨rfl, S.out.k.1⟩
    · have hD : decide ((j : Int) < (n : Int)) = false := by simp; omega
      obtain ⟨ps, hps⟩ : ∃ ps, ps = cutsL 100 ls j := ⟨_, rfl⟩
      rw [← hps] at AV OS CL FL
      obtain ⟨As, cs, rfl, hr, hl, _, _⟩ := OS.out.read
      obtain ⟨Ap, cp, rfl, hr2, hl2, _, _⟩ := OV.out.read
      rw [StrV_length] at hl ⊢
      obtain ⟨q, hq⟩ : ∃ q, q = ps.length := ⟨_, rfl⟩
      obtain ⟨p, hp⟩ : ∃ p, p = vs'.length := ⟨_, rfl⟩
      rw [← hq] at CL ⊢
      rw [← hp] at VL ⊢
      have QE := Lib.hid hq.symm
      have PE := Lib.hid hp.symm
      have PS := Lib.hid hr
      have PV := Lib.hid hr2
      clear hps hr hl hr2 hl2 hq hp OV OS NE J
      go_wp2_with (first
        | (refine wpList_val rfl (run_load_row 33 (.tmp 3) rfl M rfl 33 (W8 k) (0, 0) _ S.out.2.1 Try.underlying33 rfl ZK.out) ?_)
        | (refine wpList_val rfl (run_str 22 9 (.tmp 41) rfl Try.underlying22 Try.underlying5 Try.underlying9 (H0.out.keep S.out.1) wl c0 WL.out rfl) ?_))
      refine (derive_any wr k HK.out word (by have := WL.out; have := W1.out.1; omega) Ap p cp vs' ps PE.out PV.out (AV.out.mono fun v l h => h.keep S.out.1) (by have := FL.out; omega) (by have := VL.out; omega)).mono ?_
      obtain ⟨X, hX⟩ : ∃ X, X = deriveL k word ps := ⟨_, rfl⟩
      rw [← hX]
      have XE := Lib.hid hX
      have XL := Lib.hid (show X.length = 32 by rw [hX, deriveL_length])
      have ZX := Lib.hid (show (Try.prog.info? 33).map (·.size) = some (W8 X).size by rw [W8_size, XL.out]; kernel_rfl)
      rintro e w3 ⟨rfl, hb⟩
      have S := Lib.hid (S.out.keep hb)
      have DB := Lib.hid hb
      clear hX hb
      go_upto_region 10 with (refine wpList_store_new rfl rfl 33 (.tmp 10) (.tmp 44) rfl (W8 X) rfl rfl ZX.out ?c1 (W8_one _) ?_)
      case c1 => rw [W8_size, XL.out]; rfl
      generalize hM : Array.size (World.heap w3) = M2
      generalize hw : World.alloc w3 _ = w4
      have hb : Below w3.heap.size w3 w4 := by rw [← hw]; exact below_new _ _
      have S := Lib.hid (show TwoK w M k M2 X w4.drew from ⟨(S.out.keep hb).keep (Below.refl _ _).drew, by show w4.heap[M2]? = _; rw [← hw]; exact ha_new _ _ _ hM.symm⟩)
      have PS := Lib.hid ((PS.out.keep (DB.out.trans (hb.mono DB.out.size))).keep (Below.refl _ _).drew)
      clear hM hw hb
      refine wp_region_road (TwoK w M k M2 X) [(true, 0), (true, 1), (true, 2), (true, 3), (true, 4), (true, 5), (true, 6), (false, 7), (true, 8), (true, 9), (false, 10), (true, 11), (true, 12)] (by kernel_rfl) (by kernel_rfl) (fun _ _ d _ _ h => by cases d <;> exact h) ?_
      simp only [List.filterMap_cons, List.filterMap_nil, List.getElem?_toArray, List.getElem?_cons_zero, List.getElem?_cons_succ, Option.map_some]
      refine planG_q (by rfl) (S.out) (fun W hW => run_arr_all 33 (.tmp 10) rfl 32 5 Try.underlying33 I0.out M2 rfl _) ?_
      simp only [Act.put, List.setIfInBounds_toArray, List.set_cons_zero, List.set_cons_succ]
      refine planG_q (by rfl) (S.out) (fun W hW => run_str 22 9 (.tmp 45) rfl Try.underlying22 Try.underlying5 Try.underlying9 (RdB.row hW.x) 32 32 XL.out rfl) ?_
      simp only [Act.put, List.setIfInBounds_toArray, List.set_cons_zero, List.set_cons_succ]
      refine planG_q (by rfl) (S.out) (fun W hW => run_arr_all 33 (.tmp 3) rfl 32 5 Try.underlying33 I0.out M rfl _) ?_
      simp only [Act.put, List.setIfInBounds_toArray, List.set_cons_zero, List.set_cons_succ]
      refine planG_q (by rfl) (S.out) (fun W hW => run_str 22 9 (.tmp 47) rfl Try.underlying22 Try.underlying5 Try.underlying9 (RdB.row hW.k.2.1) 32 32 HK.out rfl) ?_
      simp only [Act.put, List.setIfInBounds_toArray, List.set_cons_zero, List.set_cons_succ]
      refine planG_q (v := ?_) (by rfl) (S.out) ?_ ?_
      rotate_left
      · intro W hW
        go_simp
        with_reducible rfl
      simp only [Act.put, List.setIfInBounds_toArray, List.set_cons_zero, List.set_cons_succ]
      refine planG_q (by rfl) (S.out) (fun W hW => run_str 22 9 (.tmp 49) rfl Try.underlying22 Try.underlying5 Try.underlying9 (H0.out.keep hW.k.1) wl c0 WL.out rfl) ?_
      simp only [Act.put, List.setIfInBounds_toArray, List.set_cons_zero, List.set_cons_succ]
      refine planG_q (v := ?_) (by rfl) (S.out) ?_ ?_
      rotate_left
      · intro W hW
        go_simp
        with_reducible rfl
      simp only [Act.put, List.setIfInBounds_toArray, List.set_cons_zero, List.set_cons_succ]
      refine planG_t (by rfl) (fun K hK => ?_)
      go_simp
      refine (rderive_any k word 32 HK.out (by omega) wl WL.out (by have := W1.out.1; omega) As q cs ps QE.out _ PS.out (by rw [infoL, List.length_append, sizedL_length, sized_flat]; have := FL.out; have := CL.out; have := QE.out; have := WL.out; have := W1.out.1; omega)).mono ?_
      rw [← XE.out]
      rintro e w5 ⟨rfl, hb⟩
      have S := Lib.hid (S.out.keep hb)
      clear hb
      refine hK.out _ _ (S.out) ?_
      clear hK K
      refine planG_q (by rfl) (S.out) (fun W hW => run_eqstr_true 9 9 (.tmp 46) (.tmp 52) rfl X X rfl rfl rfl W) ?_
      simp only [Act.put, List.setIfInBounds_toArray, List.set_cons_zero, List.set_cons_succ]
      refine planG_q (v := ?_) (by rfl) (S.out) ?_ ?_
      rotate_left
      · intro W hW
        go_simp
        with_reducible rfl
      simp only [Act.put, List.setIfInBounds_toArray, List.set_cons_zero, List.set_cons_succ]
      refine planG_t (by rfl) (fun K hK => ?_)
      go_simp
      refine (kdfOne_true _).mono ?_
      rintro e w6 ⟨rfl, hb⟩
      have S := Lib.hid (S.out.keep hb)
      clear hb
      refine hK.out _ _ (S.out) ?_
      clear hK K
      refine planG_q (v := ?_) (by rfl) (S.out) ?_ ?_
      rotate_left
      · intro W hW
        go_simp
        with_reducible rfl
      simp only [Act.put, List.setIfInBounds_toArray, List.set_cons_zero, List.set_cons_succ]
      refine planG_q (v := ?_) (by rfl) (S.out) ?_ ?_
      rotate_left
      · intro W hW
        go_simp
        with_reducible rfl
      simp only [Act.put, List.setIfInBounds_toArray, List.set_cons_zero, List.set_cons_succ]
      refine planG_nil ?_
      go_wp2_with fail
      go_ret
      exact ⟨rfl, S.out.k.1⟩
end Go.Proofs.Ytimdlnamicgdnaa
