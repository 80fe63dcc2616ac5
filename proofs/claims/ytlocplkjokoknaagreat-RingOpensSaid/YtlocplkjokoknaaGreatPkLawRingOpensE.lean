/- Part 5 of what the law LawRingOpens needs. No condition but those each theorem states. -/
import Derived.LaidEql
import Derived.RowKitTokens
import Derived.Stop.Asserts
import Derived.Test.YtlocplkjokoknaaGreatChecked
import Derived.WalkKit
import Derived.Test.YtlocplkjokoknaaGreatPkLawRingOpensD
/- Unwrap. No condition but those each theorem states. -/
namespace Go.Proofs.YtlocplkjokoknaaGreat
set_option linter.unusedVariables false
set_option linter.unusedSimpArgs false
open Go.RowKit
attribute [local go_sem ↓] Go.wp_at_zero Go.wp_at_succ

/-- What a key learns of wraps. -/
def unwrapL (s : BSt) (k : List UInt8) : List (List UInt8) → Kys × Int
  | [] => (kysZ, 13)
  | x :: xs => match openS s k wrapB x with
    | none => unwrapL s k xs
    | some t => if learnB t then (learnK t, 0) else unwrapL s k xs
theorem unwrapL_drop {s : BSt} {k x : List UInt8} {xs : List (List UInt8)} {j : Nat} (h : xs[j]? = some x) : unwrapL s k (xs.drop j) = (match openS s k wrapB x with | none => unwrapL s k (xs.drop (j + 1)) | some t => if learnB t then (learnK t, 0) else unwrapL s k (xs.drop (j + 1))) := by
  obtain ⟨hj, he⟩ := List.getElem?_eq_some_iff.1 h
  rw [List.drop_eq_getElem_cons hj, he]
  rfl
theorem ok_unwrapL (s : BSt) (k : List UInt8) (xs : List (List UInt8)) : OkK (unwrapL s k xs).1 := by
  induction xs with
  | nil => exact ok_kysZ
  | cons x xs ih =>
    rw [unwrapL]
    split
    · exact ih
    · split
      · exact ok_learnK _
      · exact ih
theorem openS_len {s : BSt} {k b x t : List UInt8} (h : openS s k b x = some t) (hx : x.length ≤ 70000) (ht : ∀ p ∈ s.m, s.mode = 1 → p.2.text.length ≤ 100000) (hmo : s.mode = 0 ∨ s.mode = 1) : t.length ≤ 100000 := by
  rcases hmo with h0 | h1
  · rw [openS, if_pos h0] at h
    split at h
    · cases h
    · rw [openL] at h
      split at h
      · cases h
      · split at h
        · injection h with h
          rw [← h, streamL_length, List.length_take, List.length_drop]
          omega
        · cases h
  · rw [openS, if_neg (by omega)] at h
    cases hl : lookM s.m x with
    | none => rw [hl] at h; cases h
    | some e =>
      rw [hl] at h
      simp only at h
      split at h
      · injection h with h
        simp only [lookM, Option.map_eq_some_iff] at hl
        obtain ⟨p, hp, he⟩ := hl
        rw [← h, ← he]
        exact ht p (List.mem_of_find?_eq_some hp) h1
      · cases h
set_option maxRecDepth 100000 in
set_option maxHeartbeats 4000000 in
theorem unwrap_any (w0 : World) (g S D b lo : Nat) (s : BSt) (w : World) (h : BoxB w0 g S D b lo s w) (hmo : s.mode = 0 ∨ s.mode = 1) (v : Value) (xs : List (List UInt8)) (d : List UInt8) (base : Nat) (hv : RgB base w v xs d) (hxs : ∀ x ∈ xs, x.length ≤ 70000) (hl : xs.length ≤ 1000)
    (k : List UInt8) (hk : k.length = 32) (ht : ∀ p ∈ s.m, s.mode = 1 → p.2.text.length ≤ 100000) :
    Calls Tryz.prog 17 #[.pointer (some ⟨g, 0, none⟩), v, .agg (W8 k)] w fun e w' => e = .returned (.tuple #[.agg (RowK (unwrapL s k xs).1).toArray, .int .i64 (unwrapL s k xs).2]) ∧ Below w.heap.size w w' := by
  have ZK := Lib.hid zeroK
  have H := Lib.hid h
  have HMO := Lib.hid hmo
  have HXS := Lib.hid hxs
  have HK := Lib.hid hk
  have HT := Lib.hid ht
  obtain ⟨A1, c1, vs, dv, rfl, hc1, hvl, hrv, hA1, hxv, hdv⟩ := hv
  obtain ⟨q, hq⟩ : ∃ q, q = xs.length := ⟨_, rfl⟩
  have RV := Lib.hid hrv
  have XV := Lib.hid hxv
  have VL := Lib.hid (show vs.length = q by rw [hvl, hq])
  obtain ⟨rc, hrc⟩ : ∃ rc : Array Value, rc = #[.slice A1 xs.length c1, dv] := ⟨_, rfl⟩
  rw [← hrc]
  have IR := Lib.hid (show (Tryz.prog.info? 35).map (·.size) = some rc.size by rw [hrc]; exact info_ring)
  have R0 := Lib.hid (show rc[0]? = some (.slice A1 q c1) by rw [hrc, hq]; rfl)
  have IK := Lib.hid (info_keyW hk)
  obtain ⟨r, hr⟩ : ∃ r, r = unwrapL s k xs := ⟨_, rfl⟩
  rw [← hr]
  have RE := Lib.hid hr
  have Q1 := Lib.hid hq.symm
  have OKR := Lib.hid (show OkK r.1 by rw [hr]; exact ok_unwrapL _ _ _)
  have QB := Lib.hid (show q ≤ 1000 by omega)
  have b0 : (q : Int) ≤ 1000 := by omega
  clear h hmo hxs hk ht hc1 hvl hrv hA1 hxv hdv hrc hr hq hl
  go_enter Tryz.func17, Tryz.ntmps17
  go_upto_region 1 with fail
  rw [← ZK.out]
  generalize hM4 : Array.size (World.heap w) = M4
  generalize hwa : World.alloc w _ = wa
  have sa : wa.heap.size = M4 + 1 := by rw [← hwa, ha_size, hM4]
  have ra : wa.heap[M4]? = some (.cells rc 35 (0, 0)) := by rw [← hwa]; exact ha_new _ _ _ hM4.symm
  generalize hwb : World.alloc wa _ = wb
  have sb : wb.heap.size = M4 + 2 := by rw [← hwb, ha_size, sa]
  have rb : wb.heap[M4 + 1]? = some (.cells (W8 k) 38 (0, 0)) := by rw [← hwb]; exact ha_new _ _ _ sa.symm
  have ba : Below wa.heap.size wa wb := by rw [← hwb]; exact below_new _ _
  generalize hwc : World.alloc wb _ = w3
  have bb : Below wb.heap.size wb w3 := by rw [← hwc]; exact below_new _ _
  have R6 := Lib.hid (show w3.heap[M4 + 1 + 1]? = some (.cells (RowK kysZ).toArray 40 (0, 0)) by rw [← hwc]; exact ha_new _ _ _ sb.symm)
  have R5 := Lib.hid (below_block bb (row_lt rb) rb)
  have R4 := Lib.hid (below_block bb (row_lt (below_block ba (row_lt ra) ra)) (below_block ba (row_lt ra) ra))
  have B3 := Lib.hid (show Below w.heap.size w w3 from by
    have h1 : Below w.heap.size w wa := by rw [← hwa]; exact below_new _ _
    exact (h1.trans (ba.mono h1.size)).trans (bb.mono (h1.trans (ba.mono h1.size)).size))
  have ME := Lib.hid hM4
  have H3 := Lib.hid (H.out.keep B3.out)
  clear hwa sa ra hwb sb rb ba hwc bb hM4
  go_wp2_with fail
  refine (none_any w0 g S D b lo s w3 H3.out).mono ?_
  rintro e w4 ⟨rfl, hb⟩
  have B4 := Lib.hid hb
  clear hb
  have R44 := Lib.hid (below_block B4.out (row_lt R4.out) R4.out)
  go_upto_region 3 with fail
  refine wp_region_list ?_
  simp only [List.toList_toArray]
  refine wpList_val (v := ?_) (by rfl) ?_ ?_
  rotate_left
  · go_simp
    with_reducible rfl
  simp only [Act.put, List.setIfInBounds_toArray, List.set_cons_zero, List.set_cons_succ]
  refine wpList_val (by rfl) (run_cell 33 (.tmp 17) rfl _ Tryz.underlying33 rfl rfl (row_cell R44.out 0 R0.out)) ?_
  simp only [Act.put, List.setIfInBounds_toArray, List.set_cons_zero, List.set_cons_succ]
  refine wpList_val (v := ?_) (by rfl) ?_ ?_
  rotate_left
  · go_simp
    with_reducible rfl
  simp only [Act.put, List.setIfInBounds_toArray, List.set_cons_zero, List.set_cons_succ]
  refine wpList_val (v := ?_) (by rfl) ?_ ?_
  rotate_left
  · go_simp
    with_reducible rfl
  simp only [Act.put, List.setIfInBounds_toArray, List.set_cons_zero, List.set_cons_succ]
  go_wp2_with fail
  go_loopw [20] (fun i wr => ∃ j : Nat, j ≤ q ∧ i = .int .i64 (j : Int) ∧ r = unwrapL s k (xs.drop j) ∧ Below w3.heap.size w3 wr) (fun i _ => q - (intOf i).toNat)
  case atStart => exact ⟨0, Nat.zero_le _, rfl, RE.out, B4.out⟩
  case round =>
    obtain ⟨j, hj, rfl, hre, hb⟩ := hrel
    have J := Lib.hid hj
    have RJ := Lib.hid hre
    have BW := Lib.hid hb
    clear hj hre hb B4 R44
    obtain ⟨wp, rfl⟩ : ∃ wp : World, wp = wr := ⟨_, rfl⟩
    have BP := Lib.hid (show Below w.heap.size w wp from B3.out.trans (BW.out.mono B3.out.size))
    have R6P := Lib.hid (below_block BW.out (row_lt R6.out) R6.out)
    by_cases hlt : j < q
    · have hD : decide ((j : Int) < (q : Int)) = true := by simp; omega
      obtain ⟨x, hx⟩ : ∃ x, xs[j]? = some x := ⟨_, List.getElem?_eq_getElem (by rw [Q1.out]; exact hlt)⟩
      obtain ⟨u, hu, hsl⟩ := XV.out j x hx
      obtain ⟨Ax, cx, rfl, hcx, hrx, _⟩ := hsl
      obtain ⟨b1, o1, hA1, hcell⟩ := RV.out j _ hu
      obtain ⟨m, hm⟩ : ∃ m, m = x.length := ⟨_, rfl⟩
      rw [← hm] at hcell hcx
      have XM := Lib.hid (List.mem_of_getElem? hx)
      have UD := Lib.hid (unwrapL_drop (s := s) (k := k) hx)
      have CX := Lib.hid (cell_same hcell (BP.out.block b1 (cell_lt hcell)))
      have RX := Lib.hid (hrx.keep BP.out)
      have XC := Lib.hid hcx
      have XL := Lib.hid hm.symm
      have XB := Lib.hid (show m ≤ 70000 by rw [hm]; exact HXS.out x XM.out)
      have AE := Lib.hid hA1
      have JQ := Lib.hid hlt
      have jb : (j : Int) ≤ 999 := by have := QB.out; omega
      have R5P := Lib.hid (below_block BW.out (row_lt R5.out) R5.out)
      clear hx hu hcx hrx hA1 hcell hm hlt
      go_upto_region 5 with fail
      refine wp_region_list ?_
      simp only [List.toList_toArray]
      refine wpList_val (by rfl) (run_iaddr_slk 33 (.tmp 18) (.tmp 20) rfl 22 Tryz.underlying33 1 (by kernel_rfl) b1 o1 q c1 j JQ.out .i64 _ rfl (by rw [← AE.out]; rfl) rfl _) ?_
      simp only [Act.put, List.setIfInBounds_toArray, List.set_cons_zero, List.set_cons_succ]
      refine wpList_val (by rfl) (run_cell 22 (.tmp 22) rfl _ Tryz.underlying22 rfl rfl (by rw [Nat.mul_one]; exact CX.out)) ?_
      simp only [Act.put, List.setIfInBounds_toArray, List.set_cons_zero, List.set_cons_succ]
      go_upto_region 6 with fail
      refine wp_region_list ?_
      simp only [List.toList_toArray]
      refine wpList_val (v := ?_) (by rfl) ?_ ?_
      rotate_left
      · go_simp
        with_reducible rfl
      simp only [Act.put, List.setIfInBounds_toArray, List.set_cons_zero, List.set_cons_succ]
      refine wpList_val (by rfl) (run_load_row 38 (.tmp 5) rfl (M4 + 1) rfl 38 (W8 k) (0, 0) _ R5P.out Tryz.underlying38 rfl IK.out) ?_
      simp only [Act.put, List.setIfInBounds_toArray, List.set_cons_zero, List.set_cons_succ]
      refine wpList_op (by rfl) (fun K hK => ?_)
      refine wp_wrap rfl ?_
      generalize hB : Array.size (World.heap wp) = N4
      generalize hw : World.alloc wp _ = w9
      have B9 := Lib.hid (show Below wp.heap.size wp w9 by rw [← hw]; exact below_new _ _)
      have R9 := Lib.hid (show w9.heap[N4]? = some (.cells (W8 wrapB) 5 (0, 0)) by rw [← hw]; exact ha_new _ _ _ hB.symm)
      have N4E := Lib.hid hB
      clear hB hw
      refine hK.out _ _ ?_
      clear hK K
      simp only [Act.put, List.setIfInBounds_toArray, List.set_cons_zero, List.set_cons_succ]
      refine wpList_op (by rfl) (fun K hK => ?_)
      refine wp_cv (.tmp 27) rfl R9.out rfl ?_
      intro w10 hr10 hg10 _
      have B10 := Lib.hid (show Below wp.heap.size wp w10 from grown_below_on B9.out hg10 (by rw [N4E.out]; exact Nat.le_refl _))
      have R10 := Lib.hid (show RdB w10 (some ⟨N4, 0, none⟩) wrapB from RdB.row hr10)
      clear hr10 hg10 R9 B9
      refine hK.out _ _ ?_
      clear hK K
      simp only [Act.put, List.setIfInBounds_toArray, List.set_cons_zero, List.set_cons_succ]
      refine wpList_val (v := ?_) (by rfl) ?_ ?_
      rotate_left
      · go_simp
        with_reducible rfl
      simp only [Act.put, List.setIfInBounds_toArray, List.set_cons_zero, List.set_cons_succ]
      refine wpList_op (by rfl) (fun K hK => ?_)
      go_simp
      refine (bopen_both w0 g S D b lo s w10 ((H.out.keep BP.out).keep B10.out) HMO.out k wrapB x HK.out (some ⟨N4, 0, none⟩) 4 4 rfl R10.out (by omega) Ax m cx XL.out XC.out (RX.out.keep B10.out) XB.out HT.out).mono ?_
      rcases hop : openS s k wrapB x with _ | t
      · have RN := Lib.hid (show r = unwrapL s k (xs.drop (j + 1)) by have h1 := UD.out; rw [hop] at h1; rw [RJ.out, h1])
        clear hop
        rintro e w11 hop
        obtain ⟨rfl, hb⟩ := OpenP.no hop
        have BN := Lib.hid (show Below w3.heap.size w3 w11 from BW.out.trans ((B10.out.trans (hb.mono B10.out.size)).mono BW.out.size))
        clear hop hb
        refine hK.out _ _ ?_
        clear hK K
        go_wp2_with fail
        go_roundw
        case rel => exact ⟨j + 1, by have := JQ.out; omega, by go_num, RN.out, BN.out⟩
        case measure => have := JQ.out; simp [intOf]; omega
      · have UT := Lib.hid (show r = if learnB t then (learnK t, 0) else unwrapL s k (xs.drop (j + 1)) by have h1 := UD.out; rw [hop] at h1; rw [RJ.out, h1])
        have TLEN := Lib.hid (openS_len hop (by rw [XL.out]; exact XB.out) HT.out HMO.out)
        clear hop
        rintro e w11 hop
        obtain ⟨⟨vt, rfl, ho⟩, hb⟩ := OpenP.yes hop
        obtain ⟨At, ct, rfl, hrt, _, _, _⟩ := ho.read
        have RT := Lib.hid hrt
        have BN := Lib.hid (show Below w3.heap.size w3 w11 from BW.out.trans ((B10.out.trans (hb.mono B10.out.size)).mono BW.out.size))
        obtain ⟨nt, hnt⟩ : ∃ nt, nt = t.length := ⟨_, rfl⟩
        rw [← hnt]
        have NT := Lib.hid hnt.symm
        clear hop ho hb hrt hnt
        refine hK.out _ _ ?_
        clear hK K
        go_upto_region 8 with fail
        refine wp_region_list ?_
        simp only [List.toList_toArray]
        refine wpList_val (v := ?_) (by rfl) ?_ ?_
        rotate_left
        · go_simp
          with_reducible rfl
        simp only [Act.put, List.setIfInBounds_toArray, List.set_cons_zero, List.set_cons_succ]
        refine wpList_op (by rfl) (fun K hK => ?_)
        go_simp
        refine (learn_any w11 At nt ct t NT.out RT.out (by have := TLEN.out; have := NT.out; omega)).mono ?_
        rintro e w12 ⟨rfl, hb⟩
        have B12 := Lib.hid (show Below w3.heap.size w3 w12 from BN.out.trans (hb.mono BN.out.size))
        obtain ⟨y, hy⟩ : ∃ y, y = learnK t := ⟨_, rfl⟩
        obtain ⟨lb, hlb⟩ : ∃ lb, lb = learnB t := ⟨_, rfl⟩
        rw [← hy, ← hlb] at UT ⊢
        have OY := Lib.hid (show OkK y by rw [hy]; exact ok_learnK t)
        clear hb hy hlb
        refine hK.out _ _ ?_
        clear hK K
        rcases lb with _ | _
        · have RN := Lib.hid (show r = unwrapL s k (xs.drop (j + 1)) by rw [UT.out]; rfl)
          go_upto_region 9 with (refine wpList_store_new rfl rfl 40 (.tmp 12) (.tmp 38) rfl (RowK y).toArray rfl rfl (info_kysC _ OY.out) (by rw [← ZK.out, sizeK _ ok_kysZ, sizeK _ OY.out]) (rowK_one _) ?_)
          generalize hw13 : World.alloc w12 _ = w13
          have BE := Lib.hid (show Below w3.heap.size w3 w13 by rw [← hw13]; exact B12.out.alloc B12.out.size _)
          clear hw13
          go_wp2_with fail
          go_roundw
          case rel => exact ⟨j + 1, by have := JQ.out; omega, by go_num, RN.out, BE.out⟩
          case measure => have := JQ.out; simp [intOf]; omega
        · have RN := Lib.hid (show r = (y, 0) by rw [UT.out]; rfl)
          go_upto_region 9 with (refine wpList_store_new rfl rfl 40 (.tmp 12) (.tmp 38) rfl (RowK y).toArray rfl rfl (info_kysC _ OY.out) (by rw [← ZK.out, sizeK _ ok_kysZ, sizeK _ OY.out]) (rowK_one _) ?_)
          generalize hM12 : Array.size (World.heap w12) = M12
          generalize hw13 : World.alloc w12 _ = w13
          have BE := Lib.hid (show Below w3.heap.size w3 w13 by rw [← hw13]; exact B12.out.alloc B12.out.size _)
          have R12 := Lib.hid (show w13.heap[M12]? = some (.cells (RowK y).toArray 40 (0, 0)) by rw [← hw13]; exact ha_new _ _ _ hM12.symm)
          have R6E := Lib.hid (below_block BE.out (row_lt R6.out) R6.out)
          clear hM12 hw13
          go_upto_region 10 with fail
          refine wp_region_list ?_
          simp only [List.toList_toArray]
          refine wpList_val (by rfl) (run_load_row 40 (.tmp 12) rfl M12 rfl 40 (RowK y).toArray (0, 0) _ R12.out Tryz.underlying40 rfl (info_kysC _ OY.out)) ?_
          simp only [Act.put, List.setIfInBounds_toArray, List.set_cons_zero, List.set_cons_succ]
          refine wpList_store_whole rfl rfl 40 (.tmp 6) (.tmp 41) rfl (M4 + 1 + 1) (RowK y).toArray rfl rfl 40 _ R6E.out (info_kysC _ OY.out) (by rw [sizeK _ ok_kysZ, sizeK _ OY.out]) (rowK_one _) ?_
          intro w14 hr14 hg14 _
          have Z14 := Lib.hid hr14
          have BF := Lib.hid (grown_below_on (B3.out.trans (BE.out.mono B3.out.size)) hg14 (by rw [ME.out]; omega))
          clear hr14 hg14
          go_wp2_with fail
          exact ret_cell (M4 + 1 + 1) 40 (RowK y).toArray _ rfl rfl rfl rfl Z14.out Tryz.underlying40 rfl (info_kysC _ OY.out) ⟨by rw [RN.out]; rfl, BF.out⟩
    · have hD : decide ((j : Int) < (q : Int)) = false := by simp; omega
      have RN := Lib.hid (show r = (kysZ, 13) by rw [RJ.out, List.drop_of_length_le (by rw [Q1.out]; omega)]; rfl)
      go_upto_region 12 with fail
      refine wp_region_list ?_
      simp only [List.toList_toArray]
      refine wpList_val (by rfl) (run_zeroK rfl _) ?_
      simp only [Act.put, List.setIfInBounds_toArray, List.set_cons_zero, List.set_cons_succ]
      refine wpList_store_whole rfl rfl 40 (.tmp 6) (.tmp 43) rfl (M4 + 1 + 1) (RowK kysZ).toArray rfl rfl 40 _ R6P.out (info_kysC _ ok_kysZ) rfl (rowK_one _) ?_
      intro w14 hr14 hg14 _
      have Z14 := Lib.hid hr14
      have BF := Lib.hid (grown_below_on BP.out hg14 (by rw [ME.out]; omega))
      clear hr14 hg14
      go_wp2_with fail
      exact ret_cell (M4 + 1 + 1) 40 (RowK kysZ).toArray _ rfl rfl rfl rfl Z14.out Tryz.underlying40 rfl (info_kysC _ ok_kysZ) ⟨by rw [RN.out]; rfl, BF.out⟩
end Go.Proofs.YtlocplkjokoknaaGreat

/- A number that is laid is read: plain. No condition but those each theorem states. -/
namespace Go.Proofs.YtlocplkjokoknaaGreat
set_option linter.unusedVariables false
set_option linter.unusedSimpArgs false
open Go.RowKit

theorem beVal_foldl (k x : Nat) : ∀ v, (beL k x).foldl (fun v c => v * 256 + c.toNat) v = v * 2 ^ (8 * k) + x % 2 ^ (8 * k) := by
  induction k with
  | zero => intro v; simp [beL, Nat.mod_one]
  | succ k ih =>
    intro v
    rw [beL, List.foldl_cons, ih, show 8 * (k + 1) = 8 * k + 8 by omega, Nat.pow_add]
    have h1 : (UInt8.ofNat (x / 2 ^ (8 * k))).toNat = (x / 2 ^ (8 * k)) % 256 := by simp
    rw [h1, Nat.mod_mul]
    generalize 2 ^ (8 * k) = p
    generalize x / p % (2 ^ 8) = q
    generalize x % p = r
    have e : (2 : Nat) ^ 8 = 256 := by decide
    rw [e]
    rw [Nat.add_mul, Nat.mul_assoc, Nat.mul_comm 256 p, Nat.mul_comm q p]
    omega
theorem beVal_beL (k x : Nat) : beVal (beL k x) = x % 2 ^ (8 * k) := by
  have := beVal_foldl k x 0
  simpa [beVal] using this
theorem takeS_all (l more : List UInt8) (n : Nat) (h0 : 0 < n) (hn : l.length = n) : takeS ⟨l ++ more, 0⟩ (n : Int) = (⟨more, 0⟩, l, true) := by
  unfold takeS
  rw [if_neg (by simp; omega), if_neg (by simp; omega)]
  simp [← hn]
theorem takeS_short (l : List UInt8) (n : Nat) (h0 : 0 < n) (hn : l.length < n) : takeS ⟨l, 0⟩ (n : Int) = (⟨[], 10⟩, [], false) := by
  unfold takeS
  rw [if_neg (by simp; omega), if_pos (by simp; omega)]
/-- A number that was laid in so many bytes. -/
theorem numS_beL (x : Nat) (n : Nat) (h0 : 0 < n) (h8 : n ≤ 8) (more : List UInt8) : numS ⟨beL n x ++ more, 0⟩ (n : Int) = (⟨more, 0⟩, x % 2 ^ (8 * n)) := by
  unfold numS
  rw [show min (n : Int) 8 = (n : Int) by omega, takeS_all _ _ _ h0 (beL_length _ _), beVal_beL]
end Go.Proofs.YtlocplkjokoknaaGreat

/- A ring in the mode Ideal, over a source that tells no window twice: plain. No condition but those each theorem states. -/
namespace Go.Proofs.YtlocplkjokoknaaGreat
set_option linter.unusedVariables false
set_option linter.unusedSimpArgs false
open Go.RowKit

/-- What is learned of a text that was wrapped. -/
def seenK (y : Kys) (o : Bool) : Kys := ⟨y.e, y.k, if o then y.o else z32, o⟩
theorem learnK_text {y : Kys} (hy : OkK y) (o : Bool) : learnK (textL y o) = seenK y o := by
  have e0 : textL y o = beL 8 y.e.toNat ++ (y.k ++ ([if o then 1 else 0] ++ (if o then y.o else z32))) := by simp [textL, List.append_assoc]
  have ho : (if o then y.o else z32).length = 32 := by cases o <;> simp [hy.2, z32]
  have h1 : learn1 (textL y o) = (⟨y.k ++ ([if o then 1 else 0] ++ (if o then y.o else z32)), 0⟩, y.e.toNat) := by
    rw [learn1, e0]
    have := numS_beL y.e.toNat 8 (by omega) (by omega) (y.k ++ ([if o then 1 else 0] ++ (if o then y.o else z32)))
    rw [show ((8 : Nat) : Int) = 8 from rfl] at this
    rw [this, Nat.mod_eq_of_lt (by have := y.e.toNat_lt; simpa using this)]
  have h2 : learn2 (textL y o) = (⟨[if o then 1 else 0] ++ (if o then y.o else z32), 0⟩, y.k, true) := by
    rw [learn2, h1]
    have := takeS_all y.k ([if o then 1 else 0] ++ (if o then y.o else z32)) 32 (by omega) hy.1
    rw [show ((32 : Nat) : Int) = 32 from rfl] at this
    exact this
  have h3 : learn3 (textL y o) = (⟨if o then y.o else z32, 0⟩, if o then 1 else 0) := by
    rw [learn3, h2, numS]
    have := takeS_all [if o then 1 else 0] (if o then y.o else z32) 1 (by omega) rfl
    rw [show ((1 : Nat) : Int) = 1 from rfl] at this
    rw [show min (1 : Int) 8 = 1 from rfl]
    show ((takeS ⟨[if o then 1 else 0] ++ (if o then y.o else z32), 0⟩ 1).1, beVal (takeS ⟨[if o then 1 else 0] ++ (if o then y.o else z32), 0⟩ 1).2.1) = _
    rw [this]
    cases o <;> rfl
  have h4 : learn4 (textL y o) = (⟨[], 0⟩, (if o then y.o else z32), true) := by
    rw [learn4, h3]
    have := takeS_all (if o then y.o else z32) [] 32 (by omega) ho
    rw [show ((32 : Nat) : Int) = 32 from rfl, List.append_nil] at this
    exact this
  rw [learnK, h1, h2, h3, h4, seenK]
  show (⟨UInt64.ofNat y.e.toNat, fitK y.k, fitK (if o then y.o else z32), decide ((if o then 1 else 0) = 1)⟩ : Kys) = _
  rw [fitK_full hy.1, fitK_full ho, UInt64.ofNat_toNat]
  cases o <;> rfl
theorem learnB_text {y : Kys} (hy : OkK y) (o : Bool) : learnB (textL y o) = true := by
  rw [learnB, learnK_text hy]
  apply decide_eq_true
  cases o <;> rfl
theorem learnB_full : learnB fullL = false := by decide +kernel
/-- The entry of a wrap. -/
def entI (y : Kys) (l : List Mem) (i : Nat) (e : Ent) : Prop :=
  match l[i]? with
  | some z => e = ⟨z.k, wrapB, textL y z.o⟩
  | none => e.beside = wrapB ∧ e.text = fullL
theorem entAt_entI (y : Kys) (l : List Mem) (i : Nat) (s : BSt) : entI y l i (entAt y l i s).2 := by
  unfold entI entAt
  cases l[i]? with
  | some z => rfl
  | none => exact ⟨rfl, rfl⟩
theorem seal_ideal {N : Nat} {s s' : BSt} {e : Ent} {r : Option (List UInt8)} (hs : SealR s e s' r) (hm : s.mode = 1) (ho : OnceS s.F N) (hw : WinB s) (hN : s.u + (e.text.length + 28) ≤ N) :
    ∃ x, r = some x ∧ x.length = e.text.length + 28 ∧ lookM s'.m x = some e ∧ (∀ e' x', lookM s.m x' = some e' → lookM s'.m x' = some e') ∧ WinB s' ∧ s'.u ≤ s.u + (e.text.length + 28) ∧ s'.mode = 1 ∧ s'.F = s.F := by
  obtain ⟨x, h1, h2, h3, h4, h5, h6⟩ := seal_good hs ho (fun _ => hw) hN
  have h7 := hs.mode
  have hm' : s'.mode = 1 := h7.1.trans hm
  refine ⟨x, h1, h2, ?_, fun e' x' hx => ?_, h5 hm', h6, hm', h7.2.1⟩
  · rcases h3 with ⟨h, _⟩ | ⟨_, h⟩
    · omega
    · exact h
  · rcases h4 e' x' (.inr ⟨hm, hx⟩) with ⟨h, _⟩ | ⟨_, h⟩
    · omega
    · exact h
/-- What a ring's wraps are. -/
structure RgI (y : Kys) (l : List Mem) (s : BSt) (xs : List (List UInt8)) (n : Nat) : Prop where
  len : xs.length = n
  each : ∀ (i : Nat) (x : List UInt8), xs[i]? = some x → x.length = 101 ∧ ∃ e, lookM s.m x = some e ∧ entI y l i e
theorem win_u {s : BSt} (h : WinB s) (u : Nat) (hu : s.u ≤ u) : WinB { s with u := u } := fun p hp => by
  obtain ⟨v, h1, h2, h3⟩ := h p hp
  exact ⟨v, h1, Nat.le_trans h2 hu, h3⟩
theorem wraps_ideal {N : Nat} {y : Kys} (hy : OkK y) {l : List Mem} {s : BSt} (hm : s.mode = 1) (ho : OnceS s.F N) (hw : WinB s) {n : Nat} {s1 : BSt} {xs : List (List UInt8)} (h : WrapsR y l s n s1 xs) (hN : s.u + n * 133 ≤ N) :
    RgI y l s1 xs n ∧ WinB s1 ∧ s1.u ≤ s.u + n * 133 ∧ s1.mode = 1 ∧ s1.F = s.F ∧ (∀ e' x', lookM s.m x' = some e' → lookM s1.m x' = some e') := by
  induction h with
  | zero => exact ⟨⟨rfl, fun i x hx => by simp at hx⟩, hw, by omega, hm, rfl, fun _ _ h => h⟩
  | @succ i sa sb xs x hwr hse ih =>
    obtain ⟨h1, h2, h3, h4, h5, h6⟩ := ih (by omega)
    obtain ⟨k1, k2, k3, k4, k5⟩ := @entAt_state y l i sa
    have hx : (entAt y l i sa).1 = { sa with u := (entAt y l i sa).1.u } := by
      unfold entAt
      split <;> rfl
    have hu : sa.u ≤ (entAt y l i sa).1.u := by
      unfold entAt
      split <;> simp
    have hw1 : WinB (entAt y l i sa).1 := by rw [hx]; exact win_u h2 _ hu
    obtain ⟨x', e1, e2, e3, e4, e5, e6, e7, e8⟩ := seal_ideal hse (by rw [k1]; exact h4) (by rw [k2, h5]; exact ho) hw1 (by rw [entAt_text hy]; omega)
    rw [entAt_text hy] at e2 e6
    injection e1 with e1
    subst e1
    refine ⟨⟨by simp [h1.len], fun j z hj => ?_⟩, e5, by omega, e7, by rw [e8, k2, h5], fun e' x' h => e4 e' x' (by rw [k5]; exact h6 e' x' h)⟩
    rcases Nat.lt_or_ge j xs.length with hjl | hjl
    · rw [List.getElem?_append_left hjl] at hj
      obtain ⟨q1, e, q2, q3⟩ := h1.each j z hj
      exact ⟨q1, e, e4 _ _ (by rw [k5]; exact q2), q3⟩
    · have hje : j = xs.length := by
        have := (List.getElem?_eq_some_iff.1 hj).1
        simp at this
        omega
      subst hje
      rw [List.getElem?_append_right (Nat.le_refl _), Nat.sub_self] at hj
      simp only [List.getElem?_cons_zero, Option.some.injEq] at hj
      subst hj
      exact ⟨e2, _, e3, by rw [h1.len]; exact entAt_entI y l i sa⟩
/-- A ring made. -/
theorem ring_ideal {N : Nat} {y : Kys} (hy : OkK y) {l : List Mem} (hl : ∀ z ∈ l, OkM z) (h8 : l.length ≤ 8) {s s' : BSt} (hm : s.mode = 1) (ho : OnceS s.F N) (hw : WinB s) {r : Option (List (List UInt8) × List UInt8)} (h : WrapR y l s s' r) (hN : s.u + 1365 ≤ N) :
    ∃ xs d, r = some (xs, d) ∧ RgI y l s' xs 8 ∧ lookM s'.m d = some (dirE y l) ∧ d.length = 301 ∧ WinB s' ∧ s'.u ≤ s.u + 1365 ∧ s'.mode = 1 ∧ s'.F = s.F ∧ (∀ e' x', lookM s.m x' = some e' → lookM s'.m x' = some e') := by
  have hd : (dirE y l).text.length = 273 := dirL_length hl h8
  rcases h with ⟨i, s1, xs, hi, hwr, hse, rfl⟩ | ⟨s1, xs, hwr, hse, rfl⟩ | ⟨s1, xs, d, hwr, hse, rfl⟩
  · exfalso
    obtain ⟨h1, h2, h3, h4, h5, h6⟩ := wraps_ideal hy hm ho hw hwr (by omega)
    obtain ⟨k1, k2, k3, k4, k5⟩ := @entAt_state y l i s1
    have hx : (entAt y l i s1).1 = { s1 with u := (entAt y l i s1).1.u } := by
      unfold entAt
      split <;> rfl
    have hu : s1.u ≤ (entAt y l i s1).1.u := by
      unfold entAt
      split <;> simp
    have hw1 : WinB (entAt y l i s1).1 := by rw [hx]; exact win_u h2 _ hu
    obtain ⟨x', e1, _⟩ := seal_ideal hse (by rw [k1]; exact h4) (by rw [k2, h5]; exact ho) hw1 (by rw [entAt_text hy]; omega)
    cases e1
  · exfalso
    obtain ⟨h1, h2, h3, h4, h5, h6⟩ := wraps_ideal hy hm ho hw hwr (by omega)
    obtain ⟨x', e1, _⟩ := seal_ideal hse h4 (by rw [h5]; exact ho) h2 (by rw [hd]; omega)
    cases e1
  · obtain ⟨h1, h2, h3, h4, h5, h6⟩ := wraps_ideal hy hm ho hw hwr (by omega)
    obtain ⟨x', e1, e2, e3, e4, e5, e6, e7, e8⟩ := seal_ideal hse h4 (by rw [h5]; exact ho) h2 (by rw [hd]; omega)
    injection e1 with e1
    subst e1
    rw [hd] at e2 e6
    refine ⟨xs, d, rfl, ⟨h1.len, fun i x hx => ?_⟩, e3, e2, e5, by omega, e7, by rw [e8, h5], fun e' x' h => e4 e' x' (h6 e' x' h)⟩
    obtain ⟨q1, e, q2, q3⟩ := h1.each i x hx
    exact ⟨q1, e, e4 _ _ q2, q3⟩
theorem RgI.more {y : Kys} {l : List Mem} {s s' : BSt} {xs : List (List UInt8)} {n : Nat} (h : RgI y l s xs n) (hm : ∀ e' x', lookM s.m x' = some e' → lookM s'.m x' = some e') : RgI y l s' xs n :=
  ⟨h.len, fun i x hx => by
    obtain ⟨q1, e, q2, q3⟩ := h.each i x hx
    exact ⟨q1, e, hm _ _ q2, q3⟩⟩
/-- From the i-th wrap on: a key that is no member's from there learns nothing. -/
theorem unwrap_none {y : Kys} {l : List Mem} {s : BSt} {xs : List (List UInt8)} {n : Nat} (h : RgI y l s xs n) (hm : s.mode = 1) (k : List UInt8) (i : Nat) (hk : ∀ j z, i ≤ j → l[j]? = some z → z.k ≠ k) : unwrapL s k (xs.drop i) = (kysZ, 13) := by
  have key : ∀ q i, n - i = q → (∀ j z, i ≤ j → l[j]? = some z → z.k ≠ k) → unwrapL s k (xs.drop i) = (kysZ, 13) := by
    intro q
    induction q with
    | zero =>
      intro i hi _
      rw [List.drop_of_length_le (by rw [h.len]; omega)]
      rfl
    | succ q ih =>
      intro i hi hk
      obtain ⟨x, hx⟩ : ∃ x, xs[i]? = some x := ⟨_, List.getElem?_eq_getElem (by rw [h.len]; omega)⟩
      have hr := ih (i + 1) (by omega) (fun j z hj => hk j z (by omega))
      obtain ⟨_, e, h1, h2⟩ := h.each i x hx
      rw [unwrapL_drop hx, hr]
      have ho : openS s k wrapB x = if e.key = k ∧ e.beside = wrapB then some e.text else none := by rw [openS, if_neg (by omega), h1]
      rw [ho]
      unfold entI at h2
      split at h2
      · rename_i z hz
        rw [if_neg (fun hh => hk i z (Nat.le_refl _) hz (by rw [← hh.1, h2]))]
      · by_cases hh : e.key = k ∧ e.beside = wrapB
        · rw [if_pos hh, h2.2]
          simp only
          rw [learnB_full]
          rfl
        · rw [if_neg hh]
  exact key _ i rfl hk
/-- A member's key learns what was wrapped for it. -/
theorem unwrap_mem {y : Kys} (hy : OkK y) {l : List Mem} {s : BSt} {xs : List (List UInt8)} {n : Nat} (h : RgI y l s xs n) (hm : s.mode = 1) (j : Nat) (hj : j < n) (z : Mem) (hz : l[j]? = some z) (hd : ∀ i z', i < j → l[i]? = some z' → z'.k ≠ z.k) : unwrapL s z.k xs = (seenK y z.o, 0) := by
  have key : ∀ q i, j - i = q → i ≤ j → unwrapL s z.k (xs.drop i) = (seenK y z.o, 0) := by
    intro q
    induction q with
    | zero =>
      intro i hi hij
      obtain rfl : i = j := by omega
      obtain ⟨x, hx⟩ : ∃ x, xs[i]? = some x := ⟨_, List.getElem?_eq_getElem (by rw [h.len]; exact hj)⟩
      obtain ⟨_, e, h1, h2⟩ := h.each i x hx
      unfold entI at h2
      rw [hz] at h2
      have h2 : e = ⟨z.k, wrapB, textL y z.o⟩ := h2
      have ho : openS s z.k wrapB x = some (textL y z.o) := by rw [openS, if_neg (by omega), h1, h2]; simp
      rw [unwrapL_drop hx, ho]
      simp only
      rw [learnB_text hy, learnK_text hy]
      rfl
    | succ q ih =>
      intro i hi hij
      obtain ⟨x, hx⟩ : ∃ x, xs[i]? = some x := ⟨_, List.getElem?_eq_getElem (by rw [h.len]; omega)⟩
      obtain ⟨_, e, h1, h2⟩ := h.each i x hx
      have hl : i < l.length := by have := (List.getElem?_eq_some_iff.1 hz).1; omega
      unfold entI at h2
      rw [List.getElem?_eq_getElem hl] at h2
      have h2 : e = ⟨l[i].k, wrapB, textL y l[i].o⟩ := h2
      have hne := hd i _ (by omega) (List.getElem?_eq_getElem hl)
      have ho : openS s z.k wrapB x = none := by
        rw [openS, if_neg (by omega), h1, h2]
        simp only
        rw [if_neg (fun hh => hne hh.1)]
      rw [unwrapL_drop hx, ho]
      exact ih (i + 1) (by omega) (by omega)
  have := key j 0 (by omega) (by omega)
  rwa [List.drop_zero] at this
/-- No two members of a ring have one key. -/
theorem check_keys {l : List Mem} (h : checkL l = true) (i j : Nat) (z z' : Mem) (hij : i < j) (hi : l[i]? = some z') (hj : l[j]? = some z) : z'.k ≠ z.k ∧ z'.n ≠ z.n := by
  simp only [checkL, Bool.and_eq_true] at h
  have h1 := h.2
  simp only [okFrom, List.all_eq_true, List.mem_range, Bool.or_eq_true, decide_eq_true_eq] at h1
  have h2 := h1 j (List.getElem?_eq_some_iff.1 hj).1
  rw [hj] at h2
  simp only [okAt, Bool.and_eq_true, Bool.not_eq_true', List.any_eq_false] at h2
  have h3 : okAt l j z = true := by
    rcases h2 with h2 | h2
    · omega
    · simpa [okAt] using h2
  simp only [okAt, Bool.and_eq_true, Bool.not_eq_true', List.any_eq_false] at h3
  have h4 := h3.2 z' (List.mem_of_getElem? (by rw [List.getElem?_take, if_pos hij, hi]))
  simp only [sameM, Bool.or_eq_true, decide_eq_true_eq, not_or] at h4
  exact ⟨h4.2, h4.1⟩
theorem wraps_texts {y : Kys} (hy : OkK y) {l : List Mem} {s : BSt} {n : Nat} (hn : 273 ≤ n) (h0 : ∀ p ∈ s.m, s.mode = 1 → p.2.text.length ≤ n) {i : Nat} {s1 : BSt} {xs : List (List UInt8)} (h : WrapsR y l s i s1 xs) : ∀ p ∈ s1.m, s1.mode = 1 → p.2.text.length ≤ n := by
  induction h with
  | zero => exact h0
  | @succ i sa sb xs x _ hse ih =>
    obtain ⟨k1, _, _, _, k5⟩ := @entAt_state y l i sa
    exact sealR_texts hse n (by rw [k1, k5]; exact ih) (by rw [entAt_text hy]; omega)
theorem wrap_texts {y : Kys} (hy : OkK y) {l : List Mem} (hl : ∀ z ∈ l, OkM z) (h8 : l.length ≤ 8) {s s' : BSt} {n : Nat} (hn : 273 ≤ n) (h0 : ∀ p ∈ s.m, s.mode = 1 → p.2.text.length ≤ n) {r : Option (List (List UInt8) × List UInt8)} (h : WrapR y l s s' r) : ∀ p ∈ s'.m, s'.mode = 1 → p.2.text.length ≤ n := by
  have hd : (dirE y l).text.length ≤ n := by rw [show (dirE y l).text = dirL l from rfl, dirL_length hl h8]; exact hn
  rcases h with ⟨i, s1, xs, hi, hwr, hse, rfl⟩ | ⟨s1, xs, hwr, hse, rfl⟩ | ⟨s1, xs, d, hwr, hse, rfl⟩
  · obtain ⟨k1, _, _, _, k5⟩ := @entAt_state y l i s1
    exact sealR_texts hse n (by rw [k1, k5]; exact wraps_texts hy hn h0 hwr) (by rw [entAt_text hy]; omega)
  · exact sealR_texts hse n (wraps_texts hy hn h0 hwr) hd
  · exact sealR_texts hse n (wraps_texts hy hn h0 hwr) hd
/-- What wrap leaves of a box. -/
theorem wrap_bounds {y : Kys} (hy : OkK y) {l : List Mem} (hl : ∀ z ∈ l, OkM z) (h8 : l.length ≤ 8) {s s' : BSt} {r : Option (List (List UInt8) × List UInt8)} (h : WrapR y l s s' r) : s'.mode = s.mode ∧ s'.F = s.F ∧ s'.u ≤ s.u + 9200 ∧ s'.n ≤ s.n + 9 ∧ s'.m.length ≤ s.m.length + 9 := by
  have hd : (dirE y l).text.length = 273 := dirL_length hl h8
  rcases h with ⟨i, s1, xs, hi, hwr, hse, rfl⟩ | ⟨s1, xs, hwr, hse, rfl⟩ | ⟨s1, xs, d, hwr, hse, rfl⟩
  · obtain ⟨k1, k2, k3, k4, k5⟩ := @entAt_state y l i s1
    obtain ⟨b1, b2, b3, b4, b5⟩ := hwr.bounds hy
    obtain ⟨c1, c2, c3, c4, c5⟩ := hse.mode
    rw [entAt_text hy] at c3
    rw [k1] at c1
    rw [k2] at c2
    rw [k5] at c5
    exact ⟨c1.trans b1, c2.trans b2, by omega, by omega, by omega⟩
  · obtain ⟨b1, b2, b3, b4, b5⟩ := hwr.bounds hy
    obtain ⟨c1, c2, c3, c4, c5⟩ := hse.mode
    rw [hd] at c3
    exact ⟨c1.trans b1, c2.trans b2, by omega, by omega, by omega⟩
  · obtain ⟨b1, b2, b3, b4, b5⟩ := hwr.bounds hy
    obtain ⟨c1, c2, c3, c4, c5⟩ := hse.mode
    rw [hd] at c3
    exact ⟨c1.trans b1, c2.trans b2, by omega, by omega, by omega⟩
end Go.Proofs.YtlocplkjokoknaaGreat

/- Two keys of a ring are told to be the same just if they are. No condition but those each theorem states. -/
namespace Go.Proofs.YtlocplkjokoknaaGreat
set_option linter.unusedVariables false
set_option linter.unusedSimpArgs false
open Go.RowKit

theorem eq_kysD (y y' : Kys) (hy : OkK y) (hy' : OkK y') (W : World) (dd : Nat) :
    (Op.equalIn (dd + 3) 40 (.agg (RowK y).toArray) (.agg (RowK y').toArray)).run Tryz.prog W = .ok (decide (y.e = y'.e ∧ y.k = y'.k ∧ y.o = y'.o ∧ y.w = y'.w)) W := by
  have hfs : (Tryz.prog.fieldsOf 40).toList.map (fun f => (f.name == "_", f.type, f.offset)) = [(false, 36, 0), (false, 38, 1), (false, 38, 33), (false, 4, 65)] := by kernel_rfl
  have ht : Tryz.prog.underlying 40 = some (.struct (Tryz.prog.fieldsOf 40)) := by kernel_rfl
  have hp : Tryz.prog.stoodInHeld 40 = false := by kernel_rfl
  rw [run_equalIn_struct W (dd + 2) _ _ _ ht hp]
  clear ht hp
  generalize (Tryz.prog.fieldsOf 40).toList = fs at hfs
  obtain ⟨f1, f2, f3, f4, rfl⟩ : ∃ f1 f2 f3 f4, fs = [f1, f2, f3, f4] := by
    rcases fs with _ | ⟨f1, _ | ⟨f2, _ | ⟨f3, _ | ⟨f4, _ | ⟨f5, fs⟩⟩⟩⟩⟩ <;> simp at hfs
    exact ⟨f1, f2, f3, f4, rfl⟩
  simp only [List.map_cons, List.map_nil, List.cons.injEq, Prod.mk.injEq, and_true] at hfs
  obtain ⟨⟨n1, t1, o1⟩, ⟨n2, t2, o2⟩, ⟨n3, t3, o3⟩, n4, t4, o4⟩ := hfs
  have n1 : f1.name ≠ "_" := by simpa using n1
  have n2 : f2.name ≠ "_" := by simpa using n2
  have n3 : f3.name ≠ "_" := by simpa using n3
  have n4 : f4.name ≠ "_" := by simpa using n4
  have hsz : (Tryz.prog.info? 38).map (·.size) = some 32 := by kernel_rfl
  obtain ⟨i, hi, hsz⟩ := Option.map_eq_some_iff.1 hsz
  have p1 : ∀ y : Kys, (part 36 (RowK y).toArray 0).run Tryz.prog W = .ok (.int .u64 (y.e.toNat : Int)) W := by
    intro y
    have hc : (RowK y).toArray[0]? = some (.int .u64 (y.e.toNat : Int)) := rfl
    simp only [part, isAgg, Sem.run_bind, run_underlying Tryz.underlying36, Result.andThen_ok, Sem.run_pure, hc]
    simp
  have p2 : ∀ y : Kys, OkK y → (part 38 (RowK y).toArray 1).run Tryz.prog W = .ok (.agg (W8 y.k)) W := by
    intro y hy
    have e1 : (List.take 32 (RowK y).tail).toArray = W8 y.k := by
      rw [RowK, List.tail_cons, List.take_append_of_le_length (by rw [B8_length, hy.1]; exact Nat.le_refl _), List.take_of_length_le (by rw [B8_length, hy.1]; exact Nat.le_refl _)]
      rfl
    simp only [part, isAgg, Sem.run_bind, run_underlying Tryz.underlying38, Result.andThen_ok, Sem.run_pure, sizeOf, typeInfo, hi, hsz]
    simp [hsz, hi]
    exact e1
  have p3 : ∀ y : Kys, OkK y → (part 38 (RowK y).toArray 33).run Tryz.prog W = .ok (.agg (W8 y.o)) W := by
    intro y hy
    have e1 : (List.take 32 (List.drop 33 (RowK y))).toArray = W8 y.o := by
      have l1 : (Value.int .u64 (y.e.toNat : Int) :: B8 y.k).length = 33 := by simp [B8_length, hy.1]
      rw [show RowK y = (Value.int .u64 (y.e.toNat : Int) :: B8 y.k) ++ (B8 y.o ++ [.bool y.w]) from rfl, List.drop_left' l1, List.take_append_of_le_length (by rw [B8_length, hy.2]; exact Nat.le_refl _), List.take_of_length_le (by rw [B8_length, hy.2]; exact Nat.le_refl _)]
      rfl
    simp only [part, isAgg, Sem.run_bind, run_underlying Tryz.underlying38, Result.andThen_ok, Sem.run_pure, sizeOf, typeInfo, hi, hsz]
    simp [hsz, hi]
    exact e1
  have p4 : ∀ y : Kys, OkK y → (part 4 (RowK y).toArray 65).run Tryz.prog W = .ok (.bool y.w) W := by
    intro y hy
    have hc := rowK_w hy
    simp only [part, isAgg, Sem.run_bind, run_underlying Tryz.underlying4, Result.andThen_ok, Sem.run_pure, hc]
    simp
  have q1 := run_equalIn_int (P := Tryz.prog) W (dd + 1) 36 .u64 .u64 (y.e.toNat : Int) (y'.e.toNat : Int) Tryz.underlying36
  have q2 := eq_arr2 W 38 5 32 Tryz.underlying38 Tryz.underlying5 (by kernel_rfl) y.k y'.k hy.1 hy'.1 dd
  have q3 := eq_arr2 W 38 5 32 Tryz.underlying38 Tryz.underlying5 (by kernel_rfl) y.o y'.o hy.2 hy'.2 dd
  have q4 := run_equalIn_bool (P := Tryz.prog) W (dd + 1) 4 y.w y'.w Tryz.underlying4
  have a1 := p1 y
  have a2 := p1 y'
  have b1 := p2 y hy
  have b2 := p2 y' hy'
  have c1 := p3 y hy
  have c2 := p3 y' hy'
  have d1 := p4 y hy
  have d2 := p4 y' hy'
  clear p1 p2 p3 p4 hsz hi
  have ee : ((y.e.toNat : Int) == (y'.e.toNat : Int)) = decide (y.e = y'.e) := by
    by_cases h : y.e = y'.e
    · rw [h]; simp
    · have : y.e.toNat ≠ y'.e.toNat := fun hh => h (UInt64.toNat_inj.1 hh)
      rw [decide_eq_false h, beq_eq_false_iff_ne]
      omega
  rw [ee] at q1
  unfold Op.eqFields
  rw [if_pos n1, t1, o1, Sem.run_bind, a1, Result.andThen_ok, Sem.run_bind, a2, Result.andThen_ok, Sem.run_bind, q1, Result.andThen_ok]
  by_cases h1 : y.e = y'.e
  · rw [decide_eq_true h1]
    unfold Op.eqFields
    simp only [Bool.not_true, Bool.false_eq_true, if_false]
    rw [if_pos n2, t2, o2, Sem.run_bind, b1, Result.andThen_ok, Sem.run_bind, b2, Result.andThen_ok, Sem.run_bind, q2, Result.andThen_ok]
    by_cases h2 : y.k = y'.k
    · rw [decide_eq_true h2]
      unfold Op.eqFields
      simp only [Bool.not_true, Bool.false_eq_true, if_false]
      rw [if_pos n3, t3, o3, Sem.run_bind, c1, Result.andThen_ok, Sem.run_bind, c2, Result.andThen_ok, Sem.run_bind, q3, Result.andThen_ok]
      by_cases h3 : y.o = y'.o
      · rw [decide_eq_true h3]
        unfold Op.eqFields
        simp only [Bool.not_true, Bool.false_eq_true, if_false]
        rw [if_pos n4, t4, o4, Sem.run_bind, d1, Result.andThen_ok, Sem.run_bind, d2, Result.andThen_ok, Sem.run_bind, q4, Result.andThen_ok]
        unfold Op.eqFields
        by_cases h4 : y.w = y'.w <;> simp [h1, h2, h3, h4]
      · rw [decide_eq_false h3]
        simp [h3]
    · rw [decide_eq_false h2]
      simp [h2]
  · rw [decide_eq_false h1]
    simp [h1]
theorem kys_ext (y y' : Kys) : (y.e = y'.e ∧ y.k = y'.k ∧ y.o = y'.o ∧ y.w = y'.w) ↔ y = y' := by
  cases y
  cases y'
  simp
instance : DecidableEq Kys := fun y y' => decidable_of_iff _ (kys_ext y y')
theorem run_eq_kys {o : Oper} {a : Act} (t2 : TypeId) (x z : Operand) (ho : o.op = .binOp .eql 40 x z t2) (y y' : Kys) (hy : OkK y) (hy' : OkK y') (hx : a.eval x = .agg (RowK y).toArray) (hz : a.eval z = .agg (RowK y').toArray) (W : World) :
    (execOp a.eval o).run Tryz.prog W = .ok (.value (.bool (decide (y = y')))) W := by
  have hm : Tryz.prog.eqGuardType Tryz.prog.depth 40 = false := by kernel_rfl
  have h : (Op.equalIn 10000 40 (.agg (RowK y).toArray) (.agg (RowK y').toArray)).run Tryz.prog W = .ok (decide (y = y')) W :=
    (eq_kysD y y' hy hy' W 9997).trans (congrArg (fun b => Result.ok b W) (decide_eq_decide.2 (kys_ext y y')))
  unfold execOp
  simp only [ho, hx, hz, Sem.run_bind, Sem.run_pure, run_eql_struct, run_eqGuard_agg (w := W) _ _ x z _ _ hm, h, Result.andThen_ok]
end Go.Proofs.YtlocplkjokoknaaGreat

/- Put: a ring's bytes. No condition but those each theorem states. -/
namespace Go.Proofs.YtlocplkjokoknaaGreat
set_option linter.unusedVariables false
set_option linter.unusedSimpArgs false
open Go.RowKit
attribute [local go_sem ↓] Go.wp_at_zero Go.wp_at_succ

theorem flat_len (ls : List (List UInt8)) (j : Nat) : (ls.take j).flatten.length ≤ ls.flatten.length := by
  conv => rhs; rw [← List.take_append_drop j ls]
  rw [List.flatten_append, List.length_append]
  omega
set_option maxRecDepth 100000 in
set_option maxHeartbeats 4000000 in
theorem put_ring (w : World) (v : Value) (xs : List (List UInt8)) (d : List UInt8) (base : Nat) (hv : RgB base w v xs d) (hl : xs.length ≤ 1000) (hf : xs.flatten.length ≤ 1000000) (hd : d.length ≤ 1000000) :
    Calls Tryz.prog 21 #[v] w fun e w' => ∃ u, e = .returned u ∧ OwnB w' w.heap.size u (xs.flatten ++ d) ∧ Below w.heap.size w w' := by
  have TB := Lib.hid (show ByteT Tryz.prog from ⟨Tryz.underlying22, by kernel_rfl⟩)
  obtain ⟨A1, c1, vs, dv, rfl, hc1, hvl, hrv, hA1, hxv, hdv⟩ := hv
  obtain ⟨Ad, cd, rfl, hcd, hrd, _⟩ := hdv
  obtain ⟨q, hq⟩ : ∃ q, q = xs.length := ⟨_, rfl⟩
  obtain ⟨nd, hnd⟩ : ∃ nd, nd = d.length := ⟨_, rfl⟩
  have RV := Lib.hid hrv
  have XV := Lib.hid hxv
  have RDD := Lib.hid hrd
  have FL := Lib.hid hf
  obtain ⟨rc, hrc⟩ : ∃ rc : Array Value, rc = #[.slice A1 xs.length c1, .slice Ad d.length cd] := ⟨_, rfl⟩
  rw [← hrc]
  have IR := Lib.hid (show (Tryz.prog.info? 35).map (·.size) = some rc.size by rw [hrc]; exact info_ring)
  have R0 := Lib.hid (show rc[0]? = some (.slice A1 q c1) by rw [hrc, hq]; rfl)
  have R1 := Lib.hid (show rc[1]? = some (.slice Ad nd cd) by rw [hrc, hnd]; rfl)
  have Q1 := Lib.hid hq.symm
  have ND := Lib.hid hnd.symm
  have NDB := Lib.hid (show nd ≤ 1000000 by omega)
  have QB := Lib.hid (show q ≤ 1000 by omega)
  have b0 : (q : Int) ≤ 1000 := by omega
  obtain ⟨X, hX⟩ : ∃ X, X = xs.flatten ++ d := ⟨_, rfl⟩
  rw [← hX]
  have XE := Lib.hid hX
  clear hc1 hvl hrv hA1 hxv hcd hrd hrc hq hnd hl hf hd hX
  go_enter Tryz.func21, Tryz.ntmps21
  go_upto_region 1 with fail
  generalize hM4 : Array.size (World.heap w) = M4
  generalize hwa : World.alloc w _ = w3
  have R4 := Lib.hid (show w3.heap[M4]? = some (.cells rc 35 (0, 0)) by rw [← hwa]; exact ha_new _ _ _ hM4.symm)
  have B3 := Lib.hid (show Below w.heap.size w w3 by rw [← hwa]; exact below_new _ _)
  have ME := Lib.hid hM4
  clear hwa hM4
  go_upto_region 2 with fail
  refine wp_region_list ?_
  simp only [List.toList_toArray]
  refine wpList_val (v := ?_) (by rfl) ?_ ?_
  rotate_left
  · go_simp
    with_reducible rfl
  simp only [Act.put, List.setIfInBounds_toArray, List.set_cons_zero, List.set_cons_succ]
  refine wpList_val (by rfl) (run_cell 33 (.tmp 6) rfl _ Tryz.underlying33 rfl rfl (row_cell R4.out 0 R0.out)) ?_
  simp only [Act.put, List.setIfInBounds_toArray, List.set_cons_zero, List.set_cons_succ]
  refine wpList_val (v := ?_) (by rfl) ?_ ?_
  rotate_left
  · go_simp
    with_reducible rfl
  simp only [Act.put, List.setIfInBounds_toArray, List.set_cons_zero, List.set_cons_succ]
  refine wpList_val (v := ?_) (by rfl) ?_ ?_
  rotate_left
  · go_simp
    with_reducible rfl
  simp only [Act.put, List.setIfInBounds_toArray, List.set_cons_zero, List.set_cons_succ]
  go_wp2_with fail
  go_loopw [3, 9] (fun u i wr => ∃ j : Nat, j ≤ q ∧ i = .int .i64 (j : Int) ∧ OwnB wr w3.heap.size u (xs.take j).flatten ∧ Below w3.heap.size w3 wr) (fun _ i _ => q - (intOf i).toNat)
  case atStart => exact ⟨0, Nat.zero_le _, rfl, OwnB.nil _ _, Below.refl _ _⟩
  case round =>
    obtain ⟨j, hj, rfl, ho, hb⟩ := hrel
    have J := Lib.hid hj
    have O := Lib.hid ho
    have Z := Lib.hid hb
    clear hj ho hb
    obtain ⟨wp, rfl⟩ : ∃ wp : World, wp = wr := ⟨_, rfl⟩
    have BP := Lib.hid (show Below w.heap.size w wp from B3.out.trans (Z.out.mono B3.out.size))
    have R4P := Lib.hid (below_block Z.out (row_lt R4.out) R4.out)
    by_cases hlt : j < q
    · have hD : decide ((j : Int) < (q : Int)) = true := by simp; omega
      obtain ⟨x, hx⟩ : ∃ x, xs[j]? = some x := ⟨_, List.getElem?_eq_getElem (by rw [Q1.out]; exact hlt)⟩
      obtain ⟨u, hu, hsl⟩ := XV.out j x hx
      obtain ⟨Ax, cx, rfl, hcx, hrx, _⟩ := hsl
      obtain ⟨b1, o1, hA1, hcell⟩ := RV.out j _ hu
      obtain ⟨m, hm⟩ : ∃ m, m = x.length := ⟨_, rfl⟩
      rw [← hm] at hcell hcx
      have TK := Lib.hid (show (xs.take (j + 1)).flatten = (xs.take j).flatten ++ x by rw [List.take_add_one, hx]; simp)
      have TL := Lib.hid (show (xs.take j).flatten.length + m ≤ 1000000 by
        have h1 := flat_len xs (j + 1)
        rw [List.take_add_one, hx] at h1
        simp only [Option.toList_some, List.flatten_append, List.length_append, List.flatten_cons, List.flatten_nil, List.append_nil] at h1
        have := FL.out
        omega)
      have CX := Lib.hid (cell_same hcell (BP.out.block b1 (cell_lt hcell)))
      have RX := Lib.hid (hrx.keep BP.out)
      have XL := Lib.hid hm.symm
      have AE := Lib.hid hA1
      have JQ := Lib.hid hlt
      have jb : (j : Int) ≤ 999 := by have := QB.out; omega
      clear hx hu hcx hrx hA1 hcell hm hlt
      go_upto_region 4 with fail
      refine wp_region_list ?_
      simp only [List.toList_toArray]
      refine wpList_val (by rfl) (run_iaddr_slk 33 (.tmp 7) (.tmp 9) rfl 22 Tryz.underlying33 1 (by kernel_rfl) b1 o1 q c1 j JQ.out .i64 _ rfl (by rw [← AE.out]; rfl) rfl _) ?_
      simp only [Act.put, List.setIfInBounds_toArray, List.set_cons_zero, List.set_cons_succ]
      refine wpList_val (by rfl) (run_cell 22 (.tmp 11) rfl _ Tryz.underlying22 rfl rfl (by rw [Nat.mul_one]; exact CX.out)) ?_
      simp only [Act.put, List.setIfInBounds_toArray, List.set_cons_zero, List.set_cons_succ]
      go_upto_region 5 with fail
      refine wp_region_list ?_
      simp only [List.toList_toArray]
      refine wpList_val (v := ?_) (by rfl) ?_ ?_
      rotate_left
      · go_simp
        with_reducible rfl
      simp only [Act.put, List.setIfInBounds_toArray, List.set_cons_zero, List.set_cons_succ]
      refine wpList_val (v := ?_) (by rfl) ?_ ?_
      rotate_left
      · go_simp
        with_reducible rfl
      simp only [Act.put, List.setIfInBounds_toArray, List.set_cons_zero, List.set_cons_succ]
      refine wpList_op (by rfl) (fun K hK => ?_)
      refine app_wp TB.out (.tmp 13) (.tmp 14) rfl w3.heap.size _ (xs.take j).flatten x Ax m cx rfl rfl XL.out O.out RX.out Z.out.size (by have := TL.out; omega) ?_
      intro v4 w4 ho hg _
      have Z := Lib.hid (below_own Z.out O.out hg)
      have O := Lib.hid (show OwnB w4 w3.heap.size v4 (xs.take (j + 1)).flatten by rw [TK.out]; exact ho)
      clear ho hg
      refine hK.out _ _ ?_
      clear hK K
      simp only [Act.put, List.setIfInBounds_toArray, List.set_cons_zero, List.set_cons_succ]
      go_wp2_with fail
      go_roundw
      case rel => exact ⟨j + 1, by have := JQ.out; omega, by go_num, O.out, Z.out⟩
      case measure => have := JQ.out; simp [intOf]; omega
    · have hD : decide ((j : Int) < (q : Int)) = false := by simp; omega
      have O := Lib.hid (show OwnB wp w3.heap.size _ xs.flatten by have h1 := O.out; rwa [List.take_of_length_le (by rw [Q1.out]; omega)] at h1)
      go_upto_region 7 with fail
      refine wp_region_list ?_
      simp only [List.toList_toArray]
      refine wpList_val (v := ?_) (by rfl) ?_ ?_
      rotate_left
      · go_simp
        with_reducible rfl
      simp only [Act.put, List.setIfInBounds_toArray, List.set_cons_zero, List.set_cons_succ]
      refine wpList_val (v := ?_) (by rfl) ?_ ?_
      rotate_left
      · go_simp
        with_reducible rfl
      simp only [Act.put, List.setIfInBounds_toArray, List.set_cons_zero, List.set_cons_succ]
      refine wpList_val (by rfl) (run_cell 22 (.tmp 18) rfl _ Tryz.underlying22 rfl rfl (row_cell R4P.out 1 R1.out)) ?_
      simp only [Act.put, List.setIfInBounds_toArray, List.set_cons_zero, List.set_cons_succ]
      refine wpList_op (by rfl) (fun K hK => ?_)
      refine app_wp TB.out (.tmp 17) (.tmp 19) rfl w3.heap.size _ xs.flatten d Ad nd cd rfl rfl ND.out O.out (RDD.out.keep BP.out) Z.out.size (by have := FL.out; have := NDB.out; omega) ?_
      intro v4 w4 ho hg _
      have Z := Lib.hid (below_own Z.out O.out hg)
      have O := Lib.hid (show OwnB w4 w3.heap.size v4 X by rw [XE.out]; exact ho)
      clear ho hg
      refine hK.out _ _ ?_
      clear hK K
      simp only [Act.put, List.setIfInBounds_toArray, List.set_cons_zero, List.set_cons_succ]
      go_wp2_with fail
      go_ret
      exact ⟨_, rfl, O.out.mono B3.out.size, B3.out.trans (Z.out.mono B3.out.size)⟩
end Go.Proofs.YtlocplkjokoknaaGreat

/- What a source of the bytes of '' tells at first: no window of 3 bytes stands twice in it. No condition. -/
namespace Go.Proofs.YtlocplkjokoknaaGreat
set_option linter.unusedVariables false
set_option linter.unusedSimpArgs false
set_option maxRecDepth 100000
def nilF : List UInt8 := []
def nilS : List UInt8 := [227, 176, 196, 66, 152, 252, 28, 20, 154, 251, 244, 200, 153, 111, 185, 36, 39, 174, 65, 228, 100, 155, 147, 76, 164, 149, 153, 27, 120, 82, 184, 85]
theorem nilS_eq : hashL nilF = nilS := by decide +kernel
def nilB0 : List (List UInt8) := [[92, 93, 66, 220, 243, 159, 113, 192, 34, 108, 167, 32, 216, 213, 24, 219, 97, 91, 87, 115, 240, 56, 229, 228, 145, 150, 63, 111, 71, 98, 27, 189], [72, 242, 176, 23, 37, 133, 181, 117, 19, 41, 110, 181, 167, 210, 35, 145, 219, 126, 16, 166, 109, 230, 246, 211, 184, 15, 21, 87, 84, 136, 96, 36], [239, 118, 49, 110, 33, 192, 194, 80, 245, 49, 130, 214, 77, 144, 198, 115, 152, 255, 75, 212, 76, 56, 94, 13, 227, 127, 157, 109, 75, 78, 197, 89], [19, 119, 130, 208, 78, 213, 141, 28, 89, 23, 145, 186, 166, 43, 249, 200, 241, 37, 11, 24, 85, 205, 99, 225, 177, 101, 7, 208, 185, 251, 81, 237], [91, 61, 202, 84, 238, 46, 42, 220, 209, 126, 194, 209, 127, 53, 76, 70, 20, 29, 137, 114, 114, 167, 125, 74, 35, 201, 205, 178, 173, 0, 128, 253], [213, 183, 150, 212, 102, 56, 53, 47, 53, 228, 87, 31, 118, 184, 10, 35, 37, 190, 114, 100, 177, 238, 133, 16, 10, 105, 161, 3, 22, 202, 238, 83]]
theorem nilB0_eq : (List.range 6).map (fun j => hashL (nilS ++ beL 8 (0 + j))) = nilB0 := by decide +kernel
def nilB1 : List (List UInt8) := [[101, 62, 34, 25, 7, 35, 36, 52, 12, 11, 195, 222, 103, 110, 196, 165, 212, 231, 178, 73, 240, 169, 31, 158, 205, 139, 59, 25, 143, 253, 20, 129], [129, 151, 133, 217, 83, 244, 140, 32, 54, 64, 35, 168, 52, 117, 76, 180, 34, 237, 88, 48, 111, 209, 31, 214, 166, 83, 110, 140, 215, 25, 85, 166], [125, 27, 192, 222, 117, 189, 67, 179, 233, 206, 190, 202, 139, 129, 10, 227, 240, 84, 253, 14, 101, 109, 56, 94, 46, 141, 160, 42, 99, 97, 59, 121], [230, 103, 70, 169, 227, 218, 117, 31, 184, 72, 199, 135, 12, 86, 160, 142, 166, 61, 234, 213, 81, 15, 40, 243, 1, 125, 236, 7, 186, 171, 227, 0], [55, 138, 47, 74, 147, 122, 128, 38, 103, 89, 62, 206, 73, 138, 10, 40, 161, 217, 45, 10, 2, 244, 160, 254, 202, 130, 237, 142, 170, 18, 52, 160], [168, 54, 87, 206, 128, 182, 223, 52, 252, 226, 82, 79, 203, 161, 233, 10, 179, 223, 113, 199, 210, 239, 24, 236, 182, 20, 59, 185, 157, 204, 68, 25]]
theorem nilB1_eq : (List.range 6).map (fun j => hashL (nilS ++ beL 8 (6 + j))) = nilB1 := by decide +kernel
def nilB2 : List (List UInt8) := [[29, 183, 150, 74, 121, 221, 134, 41, 115, 224, 174, 34, 80, 3, 86, 114, 174, 60, 233, 208, 87, 41, 63, 210, 223, 199, 112, 98, 239, 103, 88, 161], [237, 53, 199, 104, 160, 176, 208, 71, 36, 155, 22, 205, 85, 12, 178, 254, 113, 108, 42, 221, 217, 58, 161, 171, 82, 34, 180, 163, 173, 25, 203, 61], [110, 115, 4, 145, 92, 42, 176, 223, 68, 13, 171, 206, 188, 179, 190, 115, 96, 160, 167, 98, 160, 102, 150, 55, 62, 31, 94, 76, 121, 199, 226, 58], [219, 240, 152, 215, 84, 138, 208, 142, 95, 213, 138, 203, 134, 39, 135, 230, 107, 140, 119, 210, 216, 216, 219, 46, 70, 89, 203, 85, 102, 221, 95, 83], [185, 144, 183, 187, 229, 121, 230, 147, 117, 230, 194, 29, 76, 119, 218, 242, 110, 78, 208, 218, 255, 145, 18, 184, 70, 25, 188, 147, 180, 18, 130, 242], [196, 173, 83, 34, 167, 132, 202, 128, 6, 231, 123, 186, 33, 89, 254, 245, 115, 23, 153, 221, 255, 1, 80, 247, 108, 209, 56, 243, 27, 88, 81, 234]]
theorem nilB2_eq : (List.range 6).map (fun j => hashL (nilS ++ beL 8 (12 + j))) = nilB2 := by decide +kernel
def nilB3 : List (List UInt8) := [[52, 135, 185, 210, 98, 165, 54, 25, 202, 239, 144, 7, 144, 254, 57, 150, 253, 245, 197, 52, 7, 127, 154, 165, 85, 49, 13, 41, 73, 249, 17, 122], [94, 24, 46, 176, 104, 23, 227, 121, 192, 102, 169, 179, 8, 20, 230, 151, 212, 117, 111, 180, 107, 93, 93, 140, 92, 0, 163, 224, 10, 0, 116, 52], [246, 119, 229, 254, 241, 253, 89, 21, 212, 187, 21, 23, 31, 23, 26, 138, 7, 78, 202, 141, 16, 252, 117, 96, 63, 218, 231, 54, 126, 249, 21, 233], [67, 63, 166, 245, 112, 103, 124, 68, 152, 115, 126, 54, 176, 212, 68, 97, 254, 38, 13, 87, 148, 226, 178, 110, 92, 101, 110, 198, 66, 170, 87, 152], [59, 19, 1, 41, 66, 0, 117, 95, 11, 16, 208, 245, 52, 179, 150, 100, 175, 148, 106, 50, 70, 171, 249, 62, 76, 49, 84, 122, 103, 66, 76, 220], [39, 221, 21, 0, 134, 191, 243, 82, 115, 239, 53, 210, 251, 41, 242, 204, 217, 193, 241, 132, 145, 196, 146, 177, 144, 237, 53, 35, 206, 147, 134, 58]]
theorem nilB3_eq : (List.range 6).map (fun j => hashL (nilS ++ beL 8 (18 + j))) = nilB3 := by decide +kernel
def nilB4 : List (List UInt8) := [[93, 92, 230, 254, 44, 199, 94, 41, 110, 132, 161, 238, 2, 208, 179, 0, 74, 157, 235, 13, 82, 69, 200, 180, 0, 11, 129, 156, 52, 44, 118, 41], [242, 196, 21, 19, 226, 124, 63, 187, 7, 85, 115, 213, 170, 49, 153, 70, 242, 223, 200, 52, 71, 59, 244, 140, 185, 199, 218, 20, 116, 242, 230, 168], [122, 162, 97, 108, 168, 214, 203, 58, 252, 128, 213, 182, 223, 154, 186, 35, 132, 237, 87, 156, 50, 151, 45, 222, 142, 147, 233, 105, 38, 52, 190, 100], [88, 141, 3, 185, 135, 193, 222, 14, 210, 225, 139, 72, 246, 46, 22, 80, 246, 209, 90, 176, 166, 183, 221, 229, 202, 120, 216, 83, 163, 46, 89, 251], [142, 134, 96, 206, 52, 232, 224, 209, 151, 218, 190, 229, 62, 1, 247, 129, 45, 167, 24, 131, 137, 41, 150, 40, 8, 208, 53, 152, 196, 62, 37, 108], [19, 207, 253, 79, 114, 203, 16, 68, 35, 5, 248, 66, 137, 93, 82, 110, 19, 111, 140, 255, 208, 161, 168, 221, 78, 40, 53, 84, 28, 75, 215, 121]]
theorem nilB4_eq : (List.range 6).map (fun j => hashL (nilS ++ beL 8 (24 + j))) = nilB4 := by decide +kernel
def nilB5 : List (List UInt8) := [[240, 219, 126, 17, 247, 35, 170, 38, 20, 41, 152, 250, 15, 237, 55, 129, 206, 190, 72, 154, 49, 14, 194, 101, 137, 70, 149, 147, 171, 205, 114, 249], [189, 16, 164, 229, 191, 240, 38, 87, 121, 60, 169, 63, 65, 209, 28, 164, 79, 100, 196, 96, 35, 22, 70, 203, 219, 150, 10, 101, 89, 255, 4, 255], [152, 132, 68, 229, 222, 233, 221, 204, 22, 117, 252, 180, 45, 96, 16, 90, 85, 14, 240, 57, 21, 197, 16, 206, 242, 230, 227, 114, 24, 246, 41, 85], [52, 116, 119, 29, 131, 173, 159, 16, 131, 3, 2, 196, 149, 151, 239, 10, 240, 76, 13, 119, 117, 220, 213, 254, 200, 41, 20, 229, 198, 248, 237, 0], [233, 214, 224, 107, 72, 244, 83, 39, 179, 97, 140, 182, 24, 142, 115, 243, 129, 34, 229, 203, 237, 28, 0, 93, 214, 120, 115, 48, 69, 153, 99, 137], [90, 78, 230, 134, 230, 45, 105, 243, 92, 0, 147, 141, 0, 34, 36, 5, 186, 131, 63, 155, 181, 107, 254, 19, 82, 40, 172, 198, 137, 235, 55, 67]]
theorem nilB5_eq : (List.range 6).map (fun j => hashL (nilS ++ beL 8 (30 + j))) = nilB5 := by decide +kernel
def nilB6 : List (List UInt8) := [[42, 167, 48, 164, 86, 228, 25, 189, 240, 176, 150, 28, 81, 254, 239, 48, 225, 30, 9, 5, 249, 107, 245, 205, 176, 33, 102, 212, 133, 235, 136, 190], [83, 182, 251, 175, 105, 251, 103, 151, 232, 169, 17, 254, 219, 153, 236, 246, 159, 66, 69, 248, 74, 153, 6, 165, 246, 143, 88, 82, 174, 234, 31, 101], [100, 94, 34, 116, 0, 121, 68, 154, 107, 212, 85, 211, 210, 114, 141, 191, 37, 53, 104, 24, 173, 93, 68, 93, 207, 36, 204, 167, 100, 166, 110, 129], [96, 193, 99, 202, 173, 109, 170, 47, 129, 117, 175, 142, 97, 125, 139, 74, 83, 248, 255, 42, 210, 42, 143, 125, 33, 22, 252, 128, 101, 70, 7, 64], [115, 245, 70, 91, 41, 105, 74, 90, 45, 101, 230, 241, 11, 226, 45, 136, 57, 176, 242, 119, 6, 98, 110, 204, 77, 103, 166, 216, 142, 156, 188, 104], [199, 81, 227, 90, 23, 3, 19, 240, 91, 59, 199, 58, 196, 247, 84, 119, 176, 123, 103, 8, 212, 159, 206, 171, 254, 220, 214, 85, 227, 86, 146, 235]]
theorem nilB6_eq : (List.range 6).map (fun j => hashL (nilS ++ beL 8 (36 + j))) = nilB6 := by decide +kernel
def nilB7 : List (List UInt8) := [[36, 154, 89, 228, 145, 22, 94, 253, 168, 1, 154, 221, 137, 135, 219, 227, 38, 217, 119, 24, 113, 144, 215, 128, 243, 47, 191, 126, 205, 135, 40, 115], [45, 229, 18, 7, 172, 145, 209, 116, 87, 122, 20, 186, 250, 51, 65, 197, 37, 135, 80, 57, 163, 82, 158, 247, 5, 220, 245, 37, 26, 222, 162, 223], [29, 78, 237, 145, 61, 202, 0, 172, 42, 2, 241, 168, 182, 73, 14, 58, 183, 238, 7, 139, 45, 163, 115, 82, 16, 100, 28, 220, 186, 161, 228, 60]]
theorem nilB7_eq : (List.range 3).map (fun j => hashL (nilS ++ beL 8 (42 + j))) = nilB7 := by decide +kernel
def nilBs : List (List UInt8) := nilB0 ++ nilB1 ++ nilB2 ++ nilB3 ++ nilB4 ++ nilB5 ++ nilB6 ++ nilB7
def nilT : List UInt8 := nilF ++ nilBs.flatten
theorem nilT_length : nilT.length = 1440 := by decide +kernel
theorem nilBs_get (j : Nat) (hj : j < 45) : hashL (nilS ++ beL 8 j) = nilBs.getD j [] := by
  have key : ∀ (c n : Nat) (B : List (List UInt8)), (List.range n).map (fun j => hashL (nilS ++ beL 8 (c + j))) = B → ∀ i, i < n → hashL (nilS ++ beL 8 (c + i)) = B.getD i [] := by
    intro c n B h i hi
    rw [← h]
    simp [List.getD_eq_getElem?_getD, hi]
  have k0 := key 0 6 _ nilB0_eq
  have k1 := key 6 6 _ nilB1_eq
  have k2 := key 12 6 _ nilB2_eq
  have k3 := key 18 6 _ nilB3_eq
  have k4 := key 24 6 _ nilB4_eq
  have k5 := key 30 6 _ nilB5_eq
  have k6 := key 36 6 _ nilB6_eq
  have k7 := key 42 3 _ nilB7_eq
  clear key
  by_cases h0 : j < 6
  · obtain ⟨i, rfl⟩ : ∃ i, j = 0 + i := ⟨j - 0, by omega⟩
    rw [k0 i (by omega)]
    match i, (show i < 6 by omega) with
    | 0, _ => rfl
    | 1, _ => rfl
    | 2, _ => rfl
    | 3, _ => rfl
    | 4, _ => rfl
    | 5, _ => rfl
    | n + 6, h => exact absurd h (by omega)
  by_cases h1 : j < 12
  · obtain ⟨i, rfl⟩ : ∃ i, j = 6 + i := ⟨j - 6, by omega⟩
    rw [k1 i (by omega)]
    match i, (show i < 6 by omega) with
    | 0, _ => rfl
    | 1, _ => rfl
    | 2, _ => rfl
    | 3, _ => rfl
    | 4, _ => rfl
    | 5, _ => rfl
    | n + 6, h => exact absurd h (by omega)
  by_cases h2 : j < 18
  · obtain ⟨i, rfl⟩ : ∃ i, j = 12 + i := ⟨j - 12, by omega⟩
    rw [k2 i (by omega)]
    match i, (show i < 6 by omega) with
    | 0, _ => rfl
    | 1, _ => rfl
    | 2, _ => rfl
    | 3, _ => rfl
    | 4, _ => rfl
    | 5, _ => rfl
    | n + 6, h => exact absurd h (by omega)
  by_cases h3 : j < 24
  · obtain ⟨i, rfl⟩ : ∃ i, j = 18 + i := ⟨j - 18, by omega⟩
    rw [k3 i (by omega)]
    match i, (show i < 6 by omega) with
    | 0, _ => rfl
    | 1, _ => rfl
    | 2, _ => rfl
    | 3, _ => rfl
    | 4, _ => rfl
    | 5, _ => rfl
    | n + 6, h => exact absurd h (by omega)
  by_cases h4 : j < 30
  · obtain ⟨i, rfl⟩ : ∃ i, j = 24 + i := ⟨j - 24, by omega⟩
    rw [k4 i (by omega)]
    match i, (show i < 6 by omega) with
    | 0, _ => rfl
    | 1, _ => rfl
    | 2, _ => rfl
    | 3, _ => rfl
    | 4, _ => rfl
    | 5, _ => rfl
    | n + 6, h => exact absurd h (by omega)
  by_cases h5 : j < 36
  · obtain ⟨i, rfl⟩ : ∃ i, j = 30 + i := ⟨j - 30, by omega⟩
    rw [k5 i (by omega)]
    match i, (show i < 6 by omega) with
    | 0, _ => rfl
    | 1, _ => rfl
    | 2, _ => rfl
    | 3, _ => rfl
    | 4, _ => rfl
    | 5, _ => rfl
    | n + 6, h => exact absurd h (by omega)
  by_cases h6 : j < 42
  · obtain ⟨i, rfl⟩ : ∃ i, j = 36 + i := ⟨j - 36, by omega⟩
    rw [k6 i (by omega)]
    match i, (show i < 6 by omega) with
    | 0, _ => rfl
    | 1, _ => rfl
    | 2, _ => rfl
    | 3, _ => rfl
    | 4, _ => rfl
    | 5, _ => rfl
    | n + 6, h => exact absurd h (by omega)
  obtain ⟨i, rfl⟩ : ∃ i, j = 42 + i := ⟨j - 42, by omega⟩
  rw [k7 i (by omega)]
  match i, (show i < 3 by omega) with
  | 0, _ => rfl
  | 1, _ => rfl
  | 2, _ => rfl
  | n + 3, h => exact absurd h (by omega)
theorem nilT_get (i : Nat) (hi : i < nilT.length) : byteS nilF i = nilT.getD i 0 := by
  rw [nilT_length] at hi
  by_cases h : i < 0
  · rw [byteS, if_pos (by show i < 0; exact h), nilT, List.getD_eq_getElem?_getD, List.getD_eq_getElem?_getD, List.getElem?_append_left (by show i < 0; exact h)]
  · rw [byteS, if_neg (by show ¬ i < 0; exact h), nilS_eq, show nilF.length = 0 from rfl, nilBs_get _ (by omega), nilT, List.getD_eq_getElem?_getD (l := nilF ++ _), List.getElem?_append_right (by show 0 ≤ i; omega), show nilF.length = 0 from rfl]
    have hf : ∀ (B : List (List UInt8)), (∀ b ∈ B, b.length = 32) → ∀ i, i / 32 < B.length → (B.flatten)[i]?.getD 0 = (B.getD (i / 32) []).getD (i % 32) 0 := flat_get
    exact (hf _ (by decide +kernel) _ (by have h2 : nilBs.length = 45 := (by decide +kernel); omega)).symm
theorem nil_once (u v n : Nat) (hn : 3 ≤ n) (hu : u + n ≤ 1440) (hv : v + n ≤ 1440) (he : tellS nilF u n = tellS nilF v n) : u = v := by
  have h : (insAll (wins (256 ^ (2 + 1)) (valO 0 (natT (nilT.take 2))) (natT (nilT.drop 2))) .nil).isSome = true := by decide +kernel
  obtain ⟨t, ht⟩ := Option.isSome_iff_exists.1 h
  exact told_once nilT_get ht u v n (by omega) (by rw [nilT_length]; exact hu) (by rw [nilT_length]; exact hv) he
end Go.Proofs.YtlocplkjokoknaaGreat

/- A ring of one member, which every statement of the layer asks. No condition but those each theorem states. -/
namespace Go.Proofs.YtlocplkjokoknaaGreat
set_option linter.unusedVariables false
set_option linter.unusedSimpArgs false
open Go.RowKit
attribute [local go_sem ↓] Go.wp_at_zero Go.wp_at_succ

def memOne : Mem := ⟨1, keyK 7, true⟩
theorem ok_memOne : OkM memOne := ⟨rfl, by decide, by decide⟩
theorem nil_onceS : OnceS nilF 1440 := fun u v n h28 hu hv he => nil_once u v n (by omega) hu hv he
def oneY : Kys := keysOf ⟨1, [], 0, [], 0⟩ 5
theorem one_check : checkL [memOne] = true := by decide
theorem seen_one : seenK oneY true = oneY := rfl
theorem flat_101 (xs : List (List UInt8)) (h : ∀ (i : Nat) (x : List UInt8), xs[i]? = some x → x.length = 101) : xs.flatten.length = 101 * xs.length := by
  induction xs with
  | nil => rfl
  | cons x xs ih =>
    rw [List.flatten_cons, List.length_append, h 0 x rfl, ih (fun i z hz => h (i + 1) z (by simpa using hz)), List.length_cons]
    omega
/-- What one finds. -/
theorem one_plainR {s' : BSt} {r : Option (List (List UInt8) × List UInt8)} (h : WrapR oneY [memOne] ⟨1, [], 64, [], 0⟩ s' r) :
    ∃ xs d, r = some (xs, d) ∧ s'.mode = 1 ∧ xs.length = 8 ∧ (∀ x ∈ xs, x.length ≤ 70000) ∧ xs.flatten.length = 808 ∧ d.length = 301 ∧ unwrapL s' (keyK 7) xs = (oneY, 0) ∧ unwrapL s' (keyK 8) xs = (kysZ, 13) ∧ ∀ p ∈ s'.m, s'.mode = 1 → p.2.text.length ≤ 100000 := by
  have hy : OkK oneY := ok_keysOf _ _
  have hl : ∀ z ∈ [memOne], OkM z := fun z hz => by
    simp only [List.mem_cons, List.mem_nil_iff, or_false] at hz
    subst hz
    exact ok_memOne
  obtain ⟨xs, d, h1, h2, h3, h4, h5, h6, h7, h8, h9⟩ := ring_ideal hy hl (by simp) rfl (show OnceS (⟨1, [], 64, [], 0⟩ : BSt).F 1440 from nil_onceS) (fun p hp => by cases hp) h (by show 64 + 1365 ≤ 1440; omega)
  have hlen := h2.len
  refine ⟨xs, d, h1, h7, hlen, fun x hx => ?_, ?_, h4, ?_, ?_, ?_⟩
  · obtain ⟨i, hi⟩ := List.getElem?_of_mem hx
    rw [(h2.each i x hi).1]
    omega
  · rw [flat_101 xs (fun i x hx => (h2.each i x hx).1), hlen]
  · exact unwrap_mem hy h2 h7 0 (by omega) memOne rfl (fun i z hi => absurd hi (Nat.not_lt_zero _))
  · have := unwrap_none h2 h7 (keyK 8) 0 (fun j z _ hz => by
      have hj : j = 0 := by have := (List.getElem?_eq_some_iff.1 hz).1; simp at this; omega
      subst hj
      simp only [List.getElem?_cons_zero, Option.some.injEq] at hz
      subst hz
      decide)
    rwa [List.drop_zero] at this
  · exact wrap_texts hy hl (by simp) (n := 100000) (by omega) (fun p hp => by cases hp) h
theorem RgB.agg {base : Nat} {W : World} {v : Value} {xs : List (List UInt8)} {d : List UInt8} (h : RgB base W v xs d) : ∃ rc : Array Value, v = .agg rc ∧ rc.size = 2 ∧ rc.all (·.oneCell') = true := by
  obtain ⟨A, c, vs, dv, h1, _, _, _, _, _, _, _, h2, _⟩ := h
  refine ⟨_, h1, rfl, ?_⟩
  rw [h2]
  simp [Value.oneCell']
theorem build_mem1 (W : World) : (Instr.build 63 #[(0, .int .i64 1), (1, .agg (W8 (keyK 7))), (2, .bool true)]).run Tryz.prog W = .ok (.agg (RowM memOne).toArray) W := by kernel_rfl
theorem build_mems1 (W : World) : (Instr.buildSlice 23 1 #[(0, .agg (RowM memOne).toArray)]).run Tryz.prog W = .ok (.slice (some ⟨W.heap.size, 0, none⟩) 1 1) (W.alloc (.cells (RowM memOne).toArray 63)) := by
  kernel_rfl
theorem run_eq_kys_true {o : Oper} {a : Act} (t2 : TypeId) (x z : Operand) (ho : o.op = .binOp .eql 40 x z t2) (y : Kys) (hy : OkK y) (hx : a.eval x = .agg (RowK y).toArray) (hz : a.eval z = .agg (RowK y).toArray) (W : World) : (execOp a.eval o).run Tryz.prog W = .ok (.value (.bool true)) W := by
  have := run_eq_kys t2 x z ho y y hy hy hx hz W
  rwa [decide_eq_true rfl] at this
section
variable {o : Oper} {a : Act} {Q : Exit → Act → World → Prop} {K : Act → World → Prop} {W : World}
theorem run_memOne (x : Operand) (ho : o.op = .build 63 #[(0, .const (.int .i64 1)), (1, x), (2, .const (.bool true))]) (hx : a.eval x = .agg (W8 (keyK 7))) (W : World) : (execOp a.eval o).run Tryz.prog W = .ok (.value (.agg (RowM memOne).toArray)) W := by
  unfold execOp
  simp only [ho, List.map_toArray, List.map_cons, List.map_nil, hx, show a.eval (.const (.bool true)) = .bool true from rfl, show a.eval (.const (.int .i64 1)) = .int .i64 1 from rfl, Sem.run_bind, build_mem1, Result.andThen_ok, Sem.run_pure]
theorem wp_memsOne (x : Operand) (ho : o.op = .buildSlice 23 1 #[(0, x)]) (hx : a.eval x = .agg (RowM memOne).toArray) (h : K (a.put o.dst (.slice (some ⟨W.heap.size, 0, none⟩) 1 1)) (W.alloc (.cells (RowM memOne).toArray 63))) : o.wp Tryz.prog a W K Q := by
  have h1 := build_mems1 W
  unfold Oper.wp execOp
  simp only [ho, List.map_toArray, List.map_cons, List.map_nil, hx, Sem.run_bind, Sem.run_pure, h1, Result.andThen_ok]
  exact h
end
set_option maxRecDepth 100000 in
set_option maxHeartbeats 4000000 in
theorem one_true (w : World) : Calls Tryz.prog 12 #[] w fun e w' => e = .returned (.bool true) ∧ Below w.heap.size w w' := by
  go_enter Tryz.func12, Tryz.ntmps12
  go_wp2_with fail
  refine (dnew_any w none 0 0 _ [] rfl (fun j v hj => by simp at hj) .nil (by decide) (by omega)).mono ?_
  rintro e w4 ⟨S, D, rfl, hg, hD1, hD2, hs, hb⟩
  have SW := Lib.hid (SrcW.new hg hD1 hD2 hs hb)
  clear hg hD1 hD2 hs hb
  go_wp2_with fail
  refine (bnew_any w S D [] 0 w4 SW.out 1 (.inr rfl)).mono ?_
  rintro e w5 ⟨g, b, lo, rfl, hbx, hb2, hlo⟩
  obtain ⟨L, hL⟩ : ∃ L, L = w5.heap.size := ⟨_, rfl⟩
  have X := Lib.hid (hbx.raise rfl (show lo ≤ L by rw [hL]; exact hlo))
  have LE := Lib.hid hL
  have LT := Lib.hid (show g < L ∧ S < L ∧ D < L ∧ b < L by rw [hL]; exact hbx.lt)
  have WL := Lib.hid (show w.heap.size ≤ L by rw [hL]; exact hbx.bel.size)
  clear hbx hb2 hlo hL SW
  go_upto_region 2 with fail
  refine wp_region_list ?_
  simp only [List.toList_toArray]
  refine wpList_val (v := ?_) (by rfl) ?_ ?_
  rotate_left
  · go_simp
    with_reducible rfl
  simp only [Act.put, List.setIfInBounds_toArray, List.set_cons_zero, List.set_cons_succ]
  refine wpList_val (by rfl) (run_keyK (.const (.int .u8 7)) rfl 7 rfl _) ?_
  simp only [Act.put, List.setIfInBounds_toArray, List.set_cons_zero, List.set_cons_succ]
  refine wpList_val (by rfl) (run_memOne (.tmp 17) rfl rfl _) ?_
  simp only [Act.put, List.setIfInBounds_toArray, List.set_cons_zero, List.set_cons_succ]
  refine wpList_op (by rfl) (fun K hK => ?_)
  refine wp_memsOne (.tmp 18) rfl rfl ?_
  generalize hN : Array.size (World.heap w5) = N5
  generalize hw : World.alloc w5 _ = w6
  have B6 := Lib.hid (show Below w5.heap.size w5 w6 by rw [← hw]; exact below_new _ _)
  have RM := Lib.hid (show RdM w6 (some ⟨N5, 0, none⟩) [memOne] from fun j z hj => by
    have hj0 : j = 0 := by have := (List.getElem?_eq_some_iff.1 hj).1; simp at this; omega
    subst hj0
    simp only [List.getElem?_cons_zero, Option.some.injEq] at hj
    subst hj
    exact ⟨ok_memOne, N5, 0, rfl, by rw [← hw]; exact range_rowL (ha_new _ _ _ hN.symm)⟩)
  have NE := Lib.hid (show N5 = L by rw [LE.out, hN])
  have X6 := Lib.hid (X.out.keep B6.out)
  clear hN hw
  refine hK.out _ _ ?_
  clear hK K
  simp only [Act.put, List.setIfInBounds_toArray, List.set_cons_zero, List.set_cons_succ]
  have MK := Lib.hid (make_any w g S D b L ⟨1, [], 0, [], 0⟩ w6 X6.out (.inr rfl) 5 (some ⟨N5, 0, none⟩) 1 [memOne] RM.out (Nat.le_refl _) (by simp) (fun _ a e => by cases e; show N5 ≠ g ∧ N5 ≠ S ∧ N5 ≠ b; have := LT.out; have := NE.out; omega)
    (by show 0 + 11000 ≤ 900000; omega) (by show ([] : List UInt8).length ≤ 100000; simp) (by show ([] : List (List UInt8 × Ent)).length ≤ 5000; simp) (by show 0 ≤ 50000; omega) (by have := B6.out.size; have := LE.out; omega) LT.out.2.2.1 WL.out)
  refine wpList_op (by rfl) (fun K hK => ?_)
  go_simp
  refine MK.out.mono ?_
  clear MK
  rintro e w7 (⟨hf, _⟩ | ⟨_, sZ, r, hwr, hbx, hbf, hr⟩)
  · rw [one_check] at hf
    cases hf
  obtain ⟨xs, d, rfl, hmode, hxl, hx7, hxf, hdl, hu7, hu8, htx⟩ := one_plainR hwr
  obtain ⟨v, rfl, hrg⟩ := hr
  have H7 := Lib.hid hbx
  have RG := Lib.hid hrg
  have MO := Lib.hid hmode
  have XL := Lib.hid hxl
  have X7 := Lib.hid hx7
  have XF := Lib.hid hxf
  have DL := Lib.hid hdl
  have U7 := Lib.hid hu7
  have U8 := Lib.hid hu8
  have TX := Lib.hid htx
  have B7 := Lib.hid (show w6.heap.size ≤ w7.heap.size from hbf.1)
  clear hwr hbx hbf hrg hmode hxl hx7 hxf hdl hu7 hu8 htx
  refine hK.out _ _ ?_
  clear hK K
  obtain ⟨rc, rfl, hsz, hone⟩ := RG.out.agg
  have IR := Lib.hid (show (Tryz.prog.info? 35).map (·.size) = some rc.size by rw [hsz]; exact info_ring)
  have SZ := Lib.hid hsz
  have ONE := Lib.hid hone
  have ZK := Lib.hid zeroK
  have OY := Lib.hid (show OkK oneY from ok_keysOf _ _)
  rw [show keysOf ⟨1, [], 0, [], 0⟩ 5 = oneY from rfl]
  clear hsz hone
  refine wpList_val (v := ?_) (by rfl) ?_ ?_
  rotate_left
  · go_simp
    with_reducible rfl
  simp only [Act.put, List.setIfInBounds_toArray, List.set_cons_zero, List.set_cons_succ]
  refine wpList_val (v := ?_) (by rfl) ?_ ?_
  rotate_left
  · go_simp
    with_reducible rfl
  simp only [Act.put, List.setIfInBounds_toArray, List.set_cons_zero, List.set_cons_succ]
  refine wpList_val (v := ?_) (by rfl) ?_ ?_
  rotate_left
  · go_simp
    with_reducible rfl
  simp only [Act.put, List.setIfInBounds_toArray, List.set_cons_zero, List.set_cons_succ]
  refine wpList_val (v := ?_) (by rfl) ?_ ?_
  rotate_left
  · go_simp
    with_reducible rfl
  simp only [Act.put, List.setIfInBounds_toArray, List.set_cons_zero, List.set_cons_succ]
  refine wpList_op (by rfl) (fun K hK => ?_)
  go_simp
  refine hK.out _ _ ?_
  clear hK K
  refine wpList_op (by rfl) (fun K hK => ?_)
  go_simp
  refine hK.out _ _ ?_
  clear hK K
  rw [← ZK.out]
  generalize hM3 : Array.size (World.heap w7) = M3
  generalize hwa : World.alloc w7 _ = wa
  have sa : wa.heap.size = M3 + 1 := by rw [← hwa, ha_size, hM3]
  have ra : wa.heap[M3]? = some (.cells RingZ 35 (0, 0)) := by rw [← hwa]; exact ha_new _ _ _ hM3.symm
  generalize hwb : World.alloc wa _ = w8
  have ba : Below wa.heap.size wa w8 := by rw [← hwb]; exact below_new _ _
  have R3 := Lib.hid (below_block ba (row_lt ra) ra)
  have R4 := Lib.hid (show w8.heap[M3 + 1]? = some (.cells (RowK kysZ).toArray 40 (0, 0)) by rw [← hwb]; exact ha_new _ _ _ sa.symm)
  have B8 := Lib.hid (show Below w7.heap.size w7 w8 from by
    have h1 : Below w7.heap.size w7 wa := by rw [← hwa]; exact below_new _ _
    exact h1.trans (ba.mono h1.size))
  have ME := Lib.hid hM3
  clear hwa sa ra hwb ba hM3
  refine wpList_store_whole rfl rfl 35 (.tmp 3) (.tmp 21) rfl M3 rc rfl rfl 35 _ R3.out IR.out (by rw [SZ.out]; rfl) ONE.out ?_
  intro w9 hz9 hg9 _
  refine wpList_store_whole rfl rfl 40 (.tmp 4) (.tmp 22) rfl (M3 + 1) (RowK oneY).toArray rfl rfl 40 _ (grown_block hg9 (fun e => by have := Option.some.inj e; omega) R4.out) (info_kysC _ OY.out) (by rw [sizeK _ ok_kysZ, sizeK _ OY.out]) (rowK_one _) ?_
  intro w10 hz10 hg10 _
  have R3 := Lib.hid (grown_block hg10 (fun e => by have := Option.some.inj e; omega) hz9)
  have R4 := Lib.hid hz10
  have BA := Lib.hid (show Below w7.heap.size w7 w10 from grown_below_on (grown_below_on B8.out hg9 (by rw [ME.out]; exact Nat.le_refl _)) hg10 (by rw [ME.out]; omega))
  have HA := Lib.hid (H7.out.keep BA.out)
  have RGA := Lib.hid (RG.out.keep BA.out)
  clear hz9 hg9 hz10 hg10 H7 RG B8
  go_upto_region 3 with fail
  refine wp_region_list ?_
  simp only [List.toList_toArray]
  refine wpList_val (v := ?_) (by rfl) ?_ ?_
  rotate_left
  · go_simp
    with_reducible rfl
  simp only [Act.put, List.setIfInBounds_toArray, List.set_cons_zero, List.set_cons_succ]
  refine wpList_val (by rfl) (run_load_row 35 (.tmp 3) rfl M3 rfl 35 rc (0, 0) _ R3.out Tryz.underlying35 rfl IR.out) ?_
  simp only [Act.put, List.setIfInBounds_toArray, List.set_cons_zero, List.set_cons_succ]
  refine wpList_val (by rfl) (run_keyK (.const (.int .u8 7)) rfl 7 rfl _) ?_
  simp only [Act.put, List.setIfInBounds_toArray, List.set_cons_zero, List.set_cons_succ]
  have UX := Lib.hid (unwrap_any w g S D b L sZ w10 HA.out (.inr MO.out) (.agg rc) xs d _ RGA.out X7.out (by rw [XL.out]; omega) (keyK 7) rfl TX.out)
  rw [U7.out] at UX
  refine wpList_op (by rfl) (fun K hK => ?_)
  go_simp
  refine UX.out.mono ?_
  clear UX
  rintro e w11 ⟨rfl, hb⟩
  have BB := Lib.hid hb
  clear hb
  refine hK.out _ _ ?_
  clear hK K
  go_upto_region 4 with (refine wpList_store_new rfl rfl 40 (.tmp 6) (.tmp 29) rfl (RowK oneY).toArray rfl rfl (info_kysC _ OY.out) (by rw [← ZK.out, sizeK _ ok_kysZ, sizeK _ OY.out]) (rowK_one _) ?_)
  generalize hM6 : Array.size (World.heap w11) = M6
  generalize hw12 : World.alloc w11 _ = w12
  have BC := Lib.hid (show Below w10.heap.size w10 w12 by rw [← hw12]; exact BB.out.alloc BB.out.size _)
  have R6 := Lib.hid (show w12.heap[M6]? = some (.cells (RowK oneY).toArray 40 (0, 0)) by rw [← hw12]; exact ha_new _ _ _ hM6.symm)
  have R3C := Lib.hid (below_block BC.out (row_lt R3.out) R3.out)
  have R4C := Lib.hid (below_block BC.out (row_lt R4.out) R4.out)
  have HC := Lib.hid (HA.out.keep BC.out)
  have RGC := Lib.hid (RGA.out.keep BC.out)
  clear hM6 hw12
  refine wp_region_list ?_
  simp only [List.toList_toArray]
  refine wpList_val (v := ?_) (by rfl) ?_ ?_
  rotate_left
  · go_simp
    with_reducible rfl
  simp only [Act.put, List.setIfInBounds_toArray, List.set_cons_zero, List.set_cons_succ]
  refine wpList_val (by rfl) (run_load_row 35 (.tmp 3) rfl M3 rfl 35 rc (0, 0) _ R3C.out Tryz.underlying35 rfl IR.out) ?_
  simp only [Act.put, List.setIfInBounds_toArray, List.set_cons_zero, List.set_cons_succ]
  refine wpList_val (by rfl) (run_keyK (.const (.int .u8 8)) rfl 8 rfl _) ?_
  simp only [Act.put, List.setIfInBounds_toArray, List.set_cons_zero, List.set_cons_succ]
  have UX := Lib.hid (unwrap_any w g S D b L sZ w12 HC.out (.inr MO.out) (.agg rc) xs d _ RGC.out X7.out (by rw [XL.out]; omega) (keyK 8) rfl TX.out)
  rw [U8.out] at UX
  refine wpList_op (by rfl) (fun K hK => ?_)
  go_simp
  refine UX.out.mono ?_
  clear UX
  rintro e w13 ⟨rfl, hb⟩
  have BD := Lib.hid hb
  clear hb
  refine hK.out _ _ ?_
  clear hK K
  go_upto_region 5 with (refine wpList_store_new rfl rfl 40 (.tmp 8) (.tmp 36) rfl (RowK kysZ).toArray rfl rfl (info_kysC _ ok_kysZ) (by rw [← ZK.out]) (rowK_one _) ?_)
  generalize hw14 : World.alloc w13 _ = w14
  have BE := Lib.hid (show Below w12.heap.size w12 w14 by rw [← hw14]; exact BD.out.alloc BD.out.size _)
  have R3E := Lib.hid (below_block BE.out (row_lt R3C.out) R3C.out)
  have R4E := Lib.hid (below_block BE.out (row_lt R4C.out) R4C.out)
  have R6E := Lib.hid (below_block BE.out (row_lt R6.out) R6.out)
  have RGE := Lib.hid (RGC.out.keep BE.out)
  have HE := Lib.hid (HC.out.keep BE.out)
  clear hw14
  refine wp_region_list ?_
  simp only [List.toList_toArray]
  refine wpList_val (v := ?_) (by rfl) ?_ ?_
  rotate_left
  · go_simp
    with_reducible rfl
  simp only [Act.put, List.setIfInBounds_toArray, List.set_cons_zero, List.set_cons_succ]
  refine wpList_val (v := ?_) (by rfl) ?_ ?_
  rotate_left
  · go_simp
    with_reducible rfl
  simp only [Act.put, List.setIfInBounds_toArray, List.set_cons_zero, List.set_cons_succ]
  refine wpList_val (v := ?_) (by rfl) ?_ ?_
  rotate_left
  · go_simp
    with_reducible rfl
  simp only [Act.put, List.setIfInBounds_toArray, List.set_cons_zero, List.set_cons_succ]
  refine wpList_valg (v := ?_) (by rfl) ?_ ?_
  rotate_left
  · go_simp
    with_reducible rfl
  simp only [Act.put, List.setIfInBounds_toArray, List.set_cons_zero, List.set_cons_succ]
  refine wpList_valg (v := ?_) (by rfl) ?_ ?_
  rotate_left
  · go_simp
    with_reducible rfl
  simp only [Act.put, List.setIfInBounds_toArray, List.set_cons_zero, List.set_cons_succ]
  refine wpList_val (v := ?_) (by rfl) ?_ ?_
  rotate_left
  · go_simp
    with_reducible rfl
  simp only [Act.put, List.setIfInBounds_toArray, List.set_cons_zero, List.set_cons_succ]
  refine wpList_val (v := ?_) (by rfl) ?_ ?_
  rotate_left
  · go_simp
    with_reducible rfl
  simp only [Act.put, List.setIfInBounds_toArray, List.set_cons_zero, List.set_cons_succ]
  refine wpList_valg (by rfl) (run_load_row 40 (.tmp 6) rfl M6 rfl 40 (RowK oneY).toArray (0, 0) _ R6E.out Tryz.underlying40 rfl (info_kysC _ OY.out)) ?_
  simp only [Act.put, List.setIfInBounds_toArray, List.set_cons_zero, List.set_cons_succ]
  refine wpList_valg (by rfl) (run_load_row 40 (.tmp 4) rfl (M3 + 1) rfl 40 (RowK oneY).toArray (0, 0) _ R4E.out Tryz.underlying40 rfl (info_kysC _ OY.out)) ?_
  simp only [Act.put, List.setIfInBounds_toArray, List.set_cons_zero, List.set_cons_succ]
  refine wpList_valg (by rfl) (run_eq_kys_true _ (.tmp 45) (.tmp 46) rfl oneY OY.out rfl rfl _) ?_
  simp only [Act.put, List.setIfInBounds_toArray, List.set_cons_zero, List.set_cons_succ]
  refine wpList_val (v := ?_) (by rfl) ?_ ?_
  rotate_left
  · go_simp
    with_reducible rfl
  simp only [Act.put, List.setIfInBounds_toArray, List.set_cons_zero, List.set_cons_succ]
  refine wpList_val (v := ?_) (by rfl) ?_ ?_
  rotate_left
  · go_simp
    with_reducible rfl
  simp only [Act.put, List.setIfInBounds_toArray, List.set_cons_zero, List.set_cons_succ]
  refine wpList_valg (v := ?_) (by rfl) ?_ ?_
  rotate_left
  · go_simp
    with_reducible rfl
  simp only [Act.put, List.setIfInBounds_toArray, List.set_cons_zero, List.set_cons_succ]
  refine wpList_valg (by rfl) (run_cell 36 (.tmp 50) rfl _ Tryz.underlying36 rfl rfl (row_cell R4E.out 0 (show (RowK oneY).toArray[0]? = some (.int .u64 5) from rfl))) ?_
  simp only [Act.put, List.setIfInBounds_toArray, List.set_cons_zero, List.set_cons_succ]
  refine wpList_valg (v := ?_) (by rfl) ?_ ?_
  rotate_left
  · go_simp
    with_reducible rfl
  simp only [Act.put, List.setIfInBounds_toArray, List.set_cons_zero, List.set_cons_succ]
  refine wpList_val (v := ?_) (by rfl) ?_ ?_
  rotate_left
  · go_simp
    with_reducible rfl
  simp only [Act.put, List.setIfInBounds_toArray, List.set_cons_zero, List.set_cons_succ]
  refine wpList_val (v := ?_) (by rfl) ?_ ?_
  rotate_left
  · go_simp
    with_reducible rfl
  simp only [Act.put, List.setIfInBounds_toArray, List.set_cons_zero, List.set_cons_succ]
  refine wpList_valg (v := ?_) (by rfl) ?_ ?_
  rotate_left
  · go_simp
    with_reducible rfl
  simp only [Act.put, List.setIfInBounds_toArray, List.set_cons_zero, List.set_cons_succ]
  refine wpList_valg (v := ?_) (by rfl) ?_ ?_
  rotate_left
  · go_simp
    with_reducible rfl
  simp only [Act.put, List.setIfInBounds_toArray, List.set_cons_zero, List.set_cons_succ]
  refine wpList_val (v := ?_) (by rfl) ?_ ?_
  rotate_left
  · go_simp
    with_reducible rfl
  simp only [Act.put, List.setIfInBounds_toArray, List.set_cons_zero, List.set_cons_succ]
  refine wpList_val (v := ?_) (by rfl) ?_ ?_
  rotate_left
  · go_simp
    with_reducible rfl
  simp only [Act.put, List.setIfInBounds_toArray, List.set_cons_zero, List.set_cons_succ]
  refine wpList_valg (by rfl) (run_load_row 35 (.tmp 3) rfl M3 rfl 35 rc (0, 0) _ R3E.out Tryz.underlying35 rfl IR.out) ?_
  simp only [Act.put, List.setIfInBounds_toArray, List.set_cons_zero, List.set_cons_succ]
  go_wp2_with fail
  refine (put_ring w14 (.agg rc) xs d _ RGE.out (by rw [XL.out]; omega) (by rw [XF.out]; omega) (by rw [DL.out]; omega)).mono ?_
  rintro e w15 ⟨u, rfl, ho, hb⟩
  obtain ⟨Au, cu, rfl, _, _, _, _⟩ := ho.read
  rw [show (xs.flatten ++ d).length = 1109 by rw [List.length_append, XF.out, DL.out]]
  have BF := Lib.hid (show Below w.heap.size w w15 from HE.out.bel.trans (hb.mono HE.out.bel.size))
  clear ho hb
  go_wp2_with fail
  go_ret
  exact ⟨rfl, BF.out⟩
end Go.Proofs.YtlocplkjokoknaaGreat

/- What a source of the bytes of 'ring' tells at first: no window of 3 bytes stands twice in it. No condition. -/
namespace Go.Proofs.YtlocplkjokoknaaGreat
set_option linter.unusedVariables false
set_option linter.unusedSimpArgs false
set_option maxRecDepth 100000
def ringF : List UInt8 := [114, 105, 110, 103]
def ringS : List UInt8 := [22, 185, 116, 88, 49, 85, 253, 203, 17, 251, 104, 50, 163, 123, 224, 156, 24, 199, 172, 236, 191, 179, 82, 194, 90, 53, 81, 43, 253, 117, 90, 51]
theorem ringS_eq : hashL ringF = ringS := by decide +kernel
def ringB0 : List (List UInt8) := [[171, 112, 233, 74, 160, 149, 74, 161, 94, 119, 207, 246, 218, 44, 95, 23, 157, 75, 57, 16, 1, 80, 167, 230, 250, 9, 81, 249, 26, 140, 217, 152], [114, 137, 138, 200, 56, 67, 248, 137, 122, 93, 21, 235, 167, 134, 54, 177, 12, 34, 139, 8, 79, 8, 23, 128, 77, 134, 219, 172, 47, 178, 34, 94], [81, 211, 5, 150, 78, 180, 233, 166, 73, 26, 184, 23, 81, 81, 46, 127, 3, 173, 195, 254, 241, 89, 135, 93, 14, 202, 37, 177, 147, 54, 120, 161], [217, 85, 108, 54, 40, 111, 218, 250, 2, 94, 18, 232, 99, 156, 75, 193, 122, 57, 250, 86, 158, 221, 227, 112, 152, 11, 79, 30, 2, 126, 72, 184], [124, 57, 172, 11, 136, 71, 111, 199, 196, 188, 246, 192, 90, 155, 37, 182, 24, 190, 187, 16, 219, 154, 126, 126, 190, 243, 255, 238, 190, 220, 228, 230], [216, 55, 40, 24, 158, 202, 3, 103, 175, 26, 2, 76, 171, 235, 223, 195, 246, 84, 91, 205, 87, 32, 198, 9, 63, 255, 45, 7, 152, 38, 180, 138]]
theorem ringB0_eq : (List.range 6).map (fun j => hashL (ringS ++ beL 8 (0 + j))) = ringB0 := by decide +kernel
def ringB1 : List (List UInt8) := [[76, 14, 6, 111, 55, 73, 6, 67, 177, 70, 142, 193, 48, 79, 40, 113, 64, 24, 93, 48, 185, 18, 27, 46, 47, 242, 178, 68, 225, 241, 240, 81], [180, 84, 24, 69, 207, 75, 5, 236, 28, 247, 146, 54, 158, 88, 205, 220, 234, 33, 42, 215, 21, 217, 212, 109, 111, 146, 22, 239, 94, 89, 103, 138], [160, 13, 234, 23, 24, 244, 31, 223, 71, 18, 220, 204, 159, 130, 64, 169, 196, 44, 237, 111, 71, 165, 125, 240, 89, 107, 178, 225, 251, 229, 53, 174], [91, 89, 193, 123, 99, 156, 193, 124, 86, 32, 145, 229, 211, 199, 168, 100, 166, 79, 55, 159, 190, 19, 151, 255, 85, 181, 219, 108, 123, 64, 174, 15], [237, 1, 8, 75, 45, 112, 247, 9, 185, 19, 120, 101, 36, 217, 180, 205, 40, 111, 66, 86, 45, 200, 98, 109, 193, 80, 55, 186, 66, 72, 78, 25], [220, 46, 146, 16, 102, 216, 193, 164, 232, 61, 146, 199, 122, 5, 173, 233, 230, 116, 208, 176, 231, 232, 73, 48, 106, 138, 220, 168, 223, 114, 39, 248]]
theorem ringB1_eq : (List.range 6).map (fun j => hashL (ringS ++ beL 8 (6 + j))) = ringB1 := by decide +kernel
def ringB2 : List (List UInt8) := [[209, 171, 23, 237, 13, 83, 109, 117, 208, 54, 131, 129, 172, 66, 109, 82, 242, 150, 196, 66, 51, 232, 159, 14, 233, 224, 212, 113, 135, 140, 84, 214], [11, 192, 234, 59, 182, 181, 50, 131, 238, 243, 33, 227, 172, 30, 211, 70, 161, 186, 106, 215, 211, 117, 108, 80, 178, 208, 187, 31, 10, 138, 131, 21], [28, 45, 243, 175, 235, 136, 163, 23, 117, 195, 93, 116, 47, 124, 200, 131, 128, 221, 244, 203, 158, 103, 191, 28, 211, 80, 188, 73, 117, 47, 176, 104], [208, 29, 64, 52, 191, 27, 67, 145, 99, 204, 237, 102, 101, 79, 224, 138, 145, 123, 100, 157, 199, 238, 129, 217, 104, 149, 209, 208, 18, 72, 40, 132], [89, 133, 80, 32, 195, 242, 182, 7, 133, 25, 166, 179, 167, 252, 215, 97, 75, 188, 132, 191, 175, 97, 151, 35, 164, 21, 169, 234, 85, 180, 99, 126], [75, 112, 125, 25, 29, 184, 75, 95, 64, 50, 146, 209, 32, 253, 228, 3, 99, 229, 132, 80, 72, 23, 47, 251, 57, 107, 198, 124, 172, 22, 109, 92]]
theorem ringB2_eq : (List.range 6).map (fun j => hashL (ringS ++ beL 8 (12 + j))) = ringB2 := by decide +kernel
def ringB3 : List (List UInt8) := [[28, 47, 35, 91, 128, 80, 145, 230, 132, 132, 196, 183, 202, 180, 149, 102, 246, 90, 231, 25, 182, 68, 223, 3, 15, 101, 117, 74, 153, 247, 85, 23], [153, 187, 67, 31, 23, 56, 98, 70, 150, 250, 250, 178, 52, 99, 80, 20, 177, 237, 209, 49, 107, 22, 243, 72, 58, 251, 59, 226, 241, 105, 34, 225], [7, 96, 52, 169, 241, 229, 225, 114, 29, 204, 248, 29, 133, 56, 237, 193, 109, 59, 226, 69, 72, 252, 94, 136, 246, 148, 237, 32, 107, 110, 12, 128], [15, 168, 207, 182, 150, 117, 211, 187, 170, 23, 138, 56, 12, 85, 172, 249, 135, 250, 161, 127, 24, 98, 4, 31, 123, 61, 184, 102, 111, 173, 7, 158], [105, 168, 94, 219, 94, 4, 99, 218, 0, 83, 214, 93, 224, 126, 6, 80, 77, 101, 27, 233, 148, 207, 25, 30, 61, 136, 29, 11, 74, 140, 92, 246], [216, 21, 207, 142, 17, 230, 252, 106, 217, 225, 209, 86, 181, 32, 101, 215, 191, 196, 126, 78, 48, 61, 102, 45, 163, 230, 175, 165, 109, 140, 134, 235]]
theorem ringB3_eq : (List.range 6).map (fun j => hashL (ringS ++ beL 8 (18 + j))) = ringB3 := by decide +kernel
def ringB4 : List (List UInt8) := [[153, 230, 227, 102, 192, 132, 7, 135, 123, 46, 228, 21, 62, 12, 24, 78, 150, 163, 198, 93, 148, 193, 69, 132, 16, 140, 6, 251, 225, 10, 179, 80], [0, 131, 112, 176, 173, 88, 145, 125, 218, 41, 70, 54, 190, 89, 112, 111, 169, 14, 73, 205, 245, 102, 17, 109, 43, 31, 75, 54, 84, 112, 211, 178], [105, 196, 176, 1, 250, 35, 89, 3, 12, 198, 75, 170, 244, 211, 249, 215, 30, 247, 95, 44, 218, 113, 217, 85, 242, 255, 49, 77, 48, 201, 121, 130], [194, 210, 106, 89, 192, 251, 24, 188, 124, 189, 30, 31, 208, 40, 73, 143, 4, 147, 5, 161, 217, 254, 238, 165, 148, 163, 172, 84, 15, 70, 252, 225], [228, 164, 59, 72, 220, 183, 167, 206, 112, 232, 22, 221, 22, 110, 180, 65, 63, 137, 145, 88, 79, 220, 137, 229, 82, 198, 100, 103, 110, 147, 106, 49], [196, 238, 42, 33, 1, 121, 119, 144, 16, 71, 70, 57, 38, 124, 155, 111, 81, 95, 32, 132, 21, 135, 171, 164, 63, 161, 95, 88, 222, 162, 80, 13]]
theorem ringB4_eq : (List.range 6).map (fun j => hashL (ringS ++ beL 8 (24 + j))) = ringB4 := by decide +kernel
def ringB5 : List (List UInt8) := [[227, 148, 138, 105, 23, 208, 71, 84, 42, 146, 241, 71, 140, 212, 65, 123, 136, 76, 20, 160, 74, 248, 146, 178, 89, 40, 228, 111, 163, 37, 105, 225], [69, 147, 49, 140, 8, 67, 192, 239, 199, 77, 139, 231, 60, 228, 66, 90, 211, 47, 63, 142, 24, 170, 69, 186, 33, 209, 255, 93, 125, 157, 75, 25], [155, 84, 241, 247, 123, 98, 125, 254, 237, 92, 140, 1, 101, 231, 213, 218, 99, 191, 124, 206, 19, 158, 79, 145, 60, 27, 66, 109, 122, 165, 240, 240], [75, 203, 238, 179, 101, 240, 157, 140, 250, 118, 26, 33, 244, 117, 214, 74, 106, 125, 44, 59, 181, 190, 35, 75, 133, 21, 130, 74, 33, 107, 51, 233], [161, 243, 219, 31, 177, 91, 178, 55, 45, 41, 17, 219, 244, 92, 49, 222, 155, 39, 99, 114, 198, 211, 71, 29, 159, 66, 3, 214, 133, 135, 24, 103], [146, 187, 63, 130, 71, 232, 55, 160, 169, 38, 246, 94, 184, 3, 1, 195, 193, 85, 107, 140, 94, 230, 16, 11, 156, 189, 245, 71, 145, 144, 50, 148]]
theorem ringB5_eq : (List.range 6).map (fun j => hashL (ringS ++ beL 8 (30 + j))) = ringB5 := by decide +kernel
def ringB6 : List (List UInt8) := [[208, 44, 10, 83, 130, 172, 87, 86, 51, 5, 204, 125, 1, 238, 196, 53, 246, 153, 192, 86, 86, 55, 234, 60, 52, 25, 243, 248, 234, 51, 115, 160], [117, 140, 65, 130, 141, 112, 35, 241, 244, 224, 71, 110, 187, 27, 81, 65, 27, 205, 165, 189, 244, 199, 64, 207, 42, 55, 56, 8, 3, 78, 227, 36], [64, 52, 154, 78, 69, 180, 207, 165, 38, 205, 229, 20, 106, 14, 141, 114, 21, 13, 192, 27, 52, 117, 159, 78, 234, 220, 54, 126, 47, 79, 124, 88], [1, 86, 79, 227, 183, 57, 135, 185, 50, 246, 99, 192, 255, 160, 81, 119, 208, 142, 159, 69, 40, 222, 161, 46, 158, 74, 230, 84, 74, 238, 16, 204], [185, 234, 72, 165, 0, 251, 207, 167, 40, 200, 151, 74, 147, 72, 124, 212, 90, 183, 232, 204, 91, 172, 94, 80, 34, 58, 214, 164, 113, 241, 151, 146], [119, 72, 107, 225, 228, 67, 200, 225, 246, 84, 187, 96, 49, 80, 247, 109, 54, 159, 129, 26, 192, 23, 135, 27, 128, 7, 205, 94, 198, 51, 247, 67]]
theorem ringB6_eq : (List.range 6).map (fun j => hashL (ringS ++ beL 8 (36 + j))) = ringB6 := by decide +kernel
def ringB7 : List (List UInt8) := [[255, 75, 133, 143, 206, 206, 181, 52, 229, 180, 110, 86, 38, 79, 153, 174, 153, 23, 122, 183, 151, 121, 140, 8, 98, 79, 216, 155, 147, 96, 6, 77], [1, 39, 8, 239, 166, 88, 67, 21, 27, 196, 82, 146, 89, 102, 118, 207, 55, 68, 97, 164, 40, 125, 170, 164, 99, 224, 97, 47, 14, 173, 167, 194], [243, 67, 120, 171, 250, 118, 10, 121, 188, 144, 59, 112, 205, 132, 13, 249, 227, 120, 175, 128, 169, 110, 62, 201, 145, 24, 203, 69, 197, 29, 5, 63]]
theorem ringB7_eq : (List.range 3).map (fun j => hashL (ringS ++ beL 8 (42 + j))) = ringB7 := by decide +kernel
def ringBs : List (List UInt8) := ringB0 ++ ringB1 ++ ringB2 ++ ringB3 ++ ringB4 ++ ringB5 ++ ringB6 ++ ringB7
def ringT : List UInt8 := ringF ++ ringBs.flatten
theorem ringT_length : ringT.length = 1444 := by decide +kernel
theorem ringBs_get (j : Nat) (hj : j < 45) : hashL (ringS ++ beL 8 j) = ringBs.getD j [] := by
  have key : ∀ (c n : Nat) (B : List (List UInt8)), (List.range n).map (fun j => hashL (ringS ++ beL 8 (c + j))) = B → ∀ i, i < n → hashL (ringS ++ beL 8 (c + i)) = B.getD i [] := by
    intro c n B h i hi
    rw [← h]
    simp [List.getD_eq_getElem?_getD, hi]
  have k0 := key 0 6 _ ringB0_eq
  have k1 := key 6 6 _ ringB1_eq
  have k2 := key 12 6 _ ringB2_eq
  have k3 := key 18 6 _ ringB3_eq
  have k4 := key 24 6 _ ringB4_eq
  have k5 := key 30 6 _ ringB5_eq
  have k6 := key 36 6 _ ringB6_eq
  have k7 := key 42 3 _ ringB7_eq
  clear key
  by_cases h0 : j < 6
  · obtain ⟨i, rfl⟩ : ∃ i, j = 0 + i := ⟨j - 0, by omega⟩
    rw [k0 i (by omega)]
    match i, (show i < 6 by omega) with
    | 0, _ => rfl
    | 1, _ => rfl
    | 2, _ => rfl
    | 3, _ => rfl
    | 4, _ => rfl
    | 5, _ => rfl
    | n + 6, h => exact absurd h (by omega)
  by_cases h1 : j < 12
  · obtain ⟨i, rfl⟩ : ∃ i, j = 6 + i := ⟨j - 6, by omega⟩
    rw [k1 i (by omega)]
    match i, (show i < 6 by omega) with
    | 0, _ => rfl
    | 1, _ => rfl
    | 2, _ => rfl
    | 3, _ => rfl
    | 4, _ => rfl
    | 5, _ => rfl
    | n + 6, h => exact absurd h (by omega)
  by_cases h2 : j < 18
  · obtain ⟨i, rfl⟩ : ∃ i, j = 12 + i := ⟨j - 12, by omega⟩
    rw [k2 i (by omega)]
    match i, (show i < 6 by omega) with
    | 0, _ => rfl
    | 1, _ => rfl
    | 2, _ => rfl
    | 3, _ => rfl
    | 4, _ => rfl
    | 5, _ => rfl
    | n + 6, h => exact absurd h (by omega)
  by_cases h3 : j < 24
  · obtain ⟨i, rfl⟩ : ∃ i, j = 18 + i := ⟨j - 18, by omega⟩
    rw [k3 i (by omega)]
    match i, (show i < 6 by omega) with
    | 0, _ => rfl
    | 1, _ => rfl
    | 2, _ => rfl
    | 3, _ => rfl
    | 4, _ => rfl
    | 5, _ => rfl
    | n + 6, h => exact absurd h (by omega)
  by_cases h4 : j < 30
  · obtain ⟨i, rfl⟩ : ∃ i, j = 24 + i := ⟨j - 24, by omega⟩
    rw [k4 i (by omega)]
    match i, (show i < 6 by omega) with
    | 0, _ => rfl
    | 1, _ => rfl
    | 2, _ => rfl
    | 3, _ => rfl
    | 4, _ => rfl
    | 5, _ => rfl
    | n + 6, h => exact absurd h (by omega)
  by_cases h5 : j < 36
  · obtain ⟨i, rfl⟩ : ∃ i, j = 30 + i := ⟨j - 30, by omega⟩
    rw [k5 i (by omega)]
    match i, (show i < 6 by omega) with
    | 0, _ => rfl
    | 1, _ => rfl
    | 2, _ => rfl
    | 3, _ => rfl
    | 4, _ => rfl
    | 5, _ => rfl
    | n + 6, h => exact absurd h (by omega)
  by_cases h6 : j < 42
  · obtain ⟨i, rfl⟩ : ∃ i, j = 36 + i := ⟨j - 36, by omega⟩
    rw [k6 i (by omega)]
    match i, (show i < 6 by omega) with
    | 0, _ => rfl
    | 1, _ => rfl
    | 2, _ => rfl
    | 3, _ => rfl
    | 4, _ => rfl
    | 5, _ => rfl
    | n + 6, h => exact absurd h (by omega)
  obtain ⟨i, rfl⟩ : ∃ i, j = 42 + i := ⟨j - 42, by omega⟩
  rw [k7 i (by omega)]
  match i, (show i < 3 by omega) with
  | 0, _ => rfl
  | 1, _ => rfl
  | 2, _ => rfl
  | n + 3, h => exact absurd h (by omega)
theorem ringT_get (i : Nat) (hi : i < ringT.length) : byteS ringF i = ringT.getD i 0 := by
  rw [ringT_length] at hi
  by_cases h : i < 4
  · rw [byteS, if_pos (by show i < 4; exact h), ringT, List.getD_eq_getElem?_getD, List.getD_eq_getElem?_getD, List.getElem?_append_left (by show i < 4; exact h)]
  · rw [byteS, if_neg (by show ¬ i < 4; exact h), ringS_eq, show ringF.length = 4 from rfl, ringBs_get _ (by omega), ringT, List.getD_eq_getElem?_getD (l := ringF ++ _), List.getElem?_append_right (by show 4 ≤ i; omega), show ringF.length = 4 from rfl]
    have hf : ∀ (B : List (List UInt8)), (∀ b ∈ B, b.length = 32) → ∀ i, i / 32 < B.length → (B.flatten)[i]?.getD 0 = (B.getD (i / 32) []).getD (i % 32) 0 := flat_get
    exact (hf _ (by decide +kernel) _ (by have h2 : ringBs.length = 45 := (by decide +kernel); omega)).symm
theorem ring_once (u v n : Nat) (hn : 3 ≤ n) (hu : u + n ≤ 1444) (hv : v + n ≤ 1444) (he : tellS ringF u n = tellS ringF v n) : u = v := by
  have h : (insAll (wins (256 ^ (2 + 1)) (valO 0 (natT (ringT.take 2))) (natT (ringT.drop 2))) .nil).isSome = true := by decide +kernel
  obtain ⟨t, ht⟩ := Option.isSome_iff_exists.1 h
  exact told_once ringT_get ht u v n (by omega) (by rw [ringT_length]; exact hu) (by rw [ringT_length]; exact hv) he
end Go.Proofs.YtlocplkjokoknaaGreat

/- append at slices of structs. No condition but those each theorem states. -/
namespace Go.Proofs.YtlocplkjokoknaaGreat
set_option linter.unusedVariables false
set_option linter.unusedSimpArgs false
open Go.RowKit

/-- A slice type's rows of the program's table: elements of sz cells, of so many bytes. -/
structure SlK (P : Program) (t e : TypeId) (z : Value) (sz b : Nat) : Prop where
  ht : P.underlying t = some (.slice e)
  hinfo : (P.info? e).map (fun i => (i.zero, i.size, i.bytes)) = some (some z, sz, b)
  hz : z.cells.size = sz
  h0 : 0 < sz
def OwnK (w : World) (base : Nat) (e : TypeId) (sz : Nat) (v : Value) (n : Nat) (l : List Value) : Prop := w.ownsRow base e sz v n l
theorem OwnK.read {w : World} {base : Nat} {e : TypeId} {sz : Nat} {v : Value} {n : Nat} {l : List Value} (h : OwnK w base e sz v n l) :
    l.length = n * sz ∧ ∃ A c, v = .slice A n c ∧ RdV w A l ∧ n ≤ c ∧ c ≤ 9223372036854775807 ∧ ∀ a, A = some a → base ≤ a.block ∧ a.block < w.heap.size := by
  have h' := h
  refine ⟨h.1, ?_⟩
  rcases h'.2 with ⟨hv, hn⟩ | ⟨g, cap, cur, hv, hb, hh, hnc, hcm, hcs, _⟩
  · exact ⟨none, 0, by rw [hv, hn], fun j v hj => by have := (List.getElem?_eq_some_iff.1 hj).1; have := h.1; rw [hn] at this; omega, by omega, by omega, fun a e => by cases e⟩
  · refine ⟨_, cap, hv, fun j u hj => ⟨g, 0, rfl, ?_⟩, hnc, by simpa [maxLen] using hcm, fun a e => by cases e; exact ⟨hb, row_lt hh⟩⟩
    have := World.ownsRow.cells h (g := g) (by rw [hv]; rfl) j _ hj
    rwa [add_at] at this
theorem OwnK.nil (w : World) (base : Nat) (e : TypeId) (sz : Nat) : OwnK w base e sz (.slice none 0 0) 0 [] := World.ownsRow_nil _ _ _ _
theorem OwnK.made (w : World) (base : Nat) (e : TypeId) (sz : Nat) (hb : base ≤ w.heap.size) : OwnK (w.alloc (.cells #[] e)) base e sz (.slice (some ⟨w.heap.size, 0, none⟩) 0 0) 0 [] := World.ownsRow_made w #[] 0 hb (Nat.zero_le _) (by simp)
theorem OwnK.lt {w : World} {base : Nat} {e : TypeId} {sz : Nat} {v : Value} {n : Nat} {l : List Value} (h : OwnK w base e sz v n l) : ∀ k, v.ownBlock = some k → base ≤ k ∧ k < w.heap.size := World.ownsRow.lt h
theorem OwnK.grown {w w' : World} {base : Nat} {e : TypeId} {sz : Nat} {v : Value} {n : Nat} {l : List Value} {r : Option Nat} (h : OwnK w base e sz v n l) (hg : w.grownBy w' r) (hne : v.ownBlock = none ∨ v.ownBlock ≠ r) : OwnK w' base e sz v n l := World.ownsRow.kept h hg hne
theorem OwnK.below {w w' : World} {base : Nat} {e : TypeId} {sz : Nat} {v : Value} {n : Nat} {l : List Value} (h : OwnK w base e sz v n l) (hb : Below w.heap.size w w') : OwnK w' base e sz v n l := h.grown (grown_of_below hb) (by cases v.ownBlock <;> simp)
theorem OwnK.mono {w : World} {base base' : Nat} {e : TypeId} {sz : Nat} {v : Value} {n : Nat} {l : List Value} (h : OwnK w base e sz v n l) (hb : base' ≤ base) : OwnK w base' e sz v n l := by
  refine ⟨h.1, ?_⟩
  rcases h.2 with h2 | ⟨g, cap, cur, hv, hg, r⟩
  · exact .inl h2
  · exact .inr ⟨g, cap, cur, hv, Nat.le_trans hb hg, r⟩
/-- append(v, ys...): the run. -/
theorem run_appK {P : Program} {t e : TypeId} {z : Value} {sz bt : Nat} (T : SlK P t e z sz bt) (ty : TypeId) (W : World) (base : Nat) (v : Value) (n : Nat) (l ys : List Value) (A : Option Addr) (m c : Nat) (hm : ys.length = m * sz) (HO : OwnK W base e sz v n l) (HR : RdV W A ys) (h1 : ∀ u ∈ ys, u.oneCell' = true)
    (hbase : base ≤ W.heap.size) (hl : n + m ≤ 9223372036854775807) (hl2 : (n + m) * bt ≤ 140737488355328) :
    ∃ v1 w1, (Builtin.append_ #[t, t] ty #[v, .slice A m c]).run P W = .ok v1 w1 ∧ OwnK w1 base e sz v1 (n + m) (l ++ ys) ∧ W.grownBy w1 v.ownBlock ∧ (v1.ownBlock = v.ownBlock ∨ v1.ownBlock = some W.heap.size) := by
  obtain ⟨i0, hi, hzz⟩ := Option.map_eq_some_iff.1 T.hinfo
  simp only [Prod.mk.injEq] at hzz
  obtain ⟨hz0, hz1, hz2⟩ := hzz
  have ht := T.ht
  have h0 := T.h0
  rcases ys with _ | ⟨y, r⟩
  · have hm0 : m = 0 := by
      rcases Nat.eq_zero_or_pos m with h | h
      · exact h
      · have := Nat.mul_pos h h0; simp at hm; omega
    subst hm0
    rcases A with _ | ad
    · refine ⟨v, W, ?_, by simpa using HO, World.grownBy.refl W _, .inl rfl⟩
      rcases HO.2 with ⟨rfl, hn⟩ | ⟨g, cap, cur, rfl, _, _, hnc, _⟩
      · simp [Builtin.append_, run_underlying ht, sizeOf, typeInfo, hi, Builtin.lenOf, Builtin.firstCells]
      · simp [Builtin.append_, run_underlying ht, sizeOf, typeInfo, hi, Builtin.lenOf, Builtin.firstCells, hnc, storeCells]
    · obtain ⟨v1, w1, hr, h2, h3, _, h5⟩ := run_append_own_at (P := P) W base t ty e i0 z sz bt ht hi hz0 hz1 hz2 T.hz h0 v n l HO ad 0 c [] (by simp) (by simp) (by simp) (by simpa [maxLen] using hl) (by simpa using hl2) hbase
      exact ⟨v1, w1, hr, by simpa [OwnK] using h2, h3, h5⟩
  · obtain ⟨b, o, rfl, _⟩ := HR 0 y (by simp)
    obtain ⟨v1, w1, hr, h2, h3, _, h5⟩ := run_append_own_at (P := P) W base t ty e i0 z sz bt ht hi hz0 hz1 hz2 T.hz h0 v n l HO ⟨b, o, none⟩ m c (y :: r) hm
      (fun j u hu => by
        obtain ⟨b', o', e', hc'⟩ := HR j u hu
        injection e' with e'
        injection e' with e1 e2
        subst e1 e2
        rw [add_at, hc']) h1 (by simpa [maxLen] using hl) hl2 hbase
    exact ⟨v1, w1, hr, h2, h3, h5⟩
section
variable {P : Program} {ops : Array Oper} {rest : List Oper} {o : Oper} {a : Act} {Q : Exit → Act → World → Prop} {K : Act → World → Prop} {E : Prop} {t e : TypeId} {z : Value} {sz bt : Nat}
theorem appK_wp (T : SlK P t e z sz bt) (s x : Operand) (ho : o.op = .call { callee := .builtin .append, args := #[s, x], argTypes := #[t, t] }) {W : World}
    (base : Nat) (v : Value) (n : Nat) (l ys : List Value) (A : Option Addr) (m c : Nat) (hs : a.eval s = v) (hx : a.eval x = .slice A m c) (hm : ys.length = m * sz) (HO : OwnK W base e sz v n l) (HR : RdV W A ys) (h1 : ∀ u ∈ ys, u.oneCell' = true) (hbase : base ≤ W.heap.size) (hl : n + m ≤ 9223372036854775807) (hl2 : (n + m) * bt ≤ 140737488355328)
    (h : ∀ v1 w1, OwnK w1 base e sz v1 (n + m) (l ++ ys) → W.grownBy w1 v.ownBlock → (v1.ownBlock = v.ownBlock ∨ v1.ownBlock = some W.heap.size) → K (a.put o.dst v1) w1) : o.wp P a W K Q := by
  obtain ⟨v1, w1, hr, h2, h3, h5⟩ := run_appK T o.type W base v n l ys A m c hm HO HR h1 hbase hl hl2
  unfold Oper.wp execOp
  simp only [ho, resolve, invoke, builtin, Sem.run_bind, Sem.run_pure, Result.andThen_ok, List.map_toArray, List.map_cons, List.map_nil, hs, hx, hr]
  exact h v1 w1 h2 h3 h5
/-- append(v, ys...) at a list of operations. -/
theorem appK_list (hgd : o.guard = none) (T : SlK P t e z sz bt) (s x : Operand) (ho : o.op = .call { callee := .builtin .append, args := #[s, x], argTypes := #[t, t] }) {W : World}
    (base : Nat) (v : Value) (n : Nat) (l ys : List Value) (A : Option Addr) (m c : Nat) (hs : a.eval s = v) (hx : a.eval x = .slice A m c) (hm : ys.length = m * sz) (HO : OwnK W base e sz v n l) (HR : RdV W A ys) (h1 : ∀ u ∈ ys, u.oneCell' = true) (hbase : base ≤ W.heap.size) (hl : n + m ≤ 9223372036854775807) (hl2 : (n + m) * bt ≤ 140737488355328)
    (h : ∀ v1 w1, OwnK w1 base e sz v1 (n + m) (l ++ ys) → W.grownBy w1 v.ownBlock → (v1.ownBlock = v.ownBlock ∨ v1.ownBlock = some W.heap.size) → wpList P ops Q rest (a.put o.dst v1) w1) : wpList P ops Q (o :: rest) a W :=
  wpList_plain hgd fun _ hK => appK_wp T s x ho base v n l ys A m c hs hx hm HO HR h1 hbase hl hl2 (fun v1 w1 h1 h2 h3 => hK _ _ (h v1 w1 h1 h2 h3))
end
end Go.Proofs.YtlocplkjokoknaaGreat

/- Rows of members; a ring without one: plain. No condition but those each theorem states. -/
namespace Go.Proofs.YtlocplkjokoknaaGreat
set_option linter.unusedVariables false
set_option linter.unusedSimpArgs false
open Go.RowKit

def rowsM (zs : List Mem) : List Value := zs.flatMap RowM
theorem rowsM_length (zs : List Mem) (h : ∀ z ∈ zs, OkM z) : (rowsM zs).length = zs.length * 34 := by
  induction zs with
  | nil => rfl
  | cons z zs ih =>
    rw [rowsM, List.flatMap_cons, List.length_append, RowM_length (h z (by simp))]
    have := ih (fun y hy => h y (by simp [hy]))
    rw [rowsM] at this
    rw [this, List.length_cons]
    omega
theorem rowsM_get (zs : List Mem) (h : ∀ z ∈ zs, OkM z) (j : Nat) (z : Mem) (hj : zs[j]? = some z) (i : Nat) (hi : i < 34) : (rowsM zs)[j * 34 + i]? = (RowM z)[i]? := by
  induction zs generalizing j with
  | nil => simp at hj
  | cons y zs ih =>
    have hy := RowM_length (h y (by simp))
    rw [rowsM, List.flatMap_cons]
    cases j with
    | zero =>
      simp only [List.getElem?_cons_zero, Option.some.injEq] at hj
      subst hj
      rw [Nat.zero_mul, Nat.zero_add, List.getElem?_append_left (by omega)]
    | succ j =>
      simp only [List.getElem?_cons_succ] at hj
      rw [List.getElem?_append_right (by omega), hy, show (j + 1) * 34 + i - 34 = j * 34 + i by omega]
      exact ih (fun x hx => h x (by simp [hx])) j hj
theorem rowsM_append (zs ys : List Mem) : rowsM (zs ++ ys) = rowsM zs ++ rowsM ys := by simp [rowsM]
theorem RdM.ofV {W : World} {A : Option Addr} {zs : List Mem} (h : ∀ z ∈ zs, OkM z) (hr : RdV W A (rowsM zs)) : RdM W A zs := by
  intro j z hj
  have hz := h z (List.mem_of_getElem? hj)
  have hlen := RowM_length hz
  obtain ⟨b, o, e, _⟩ := hr (j * 34) _ (by have := rowsM_get zs h j z hj 0 (by omega); rw [Nat.add_zero] at this; rw [this]; rfl)
  refine ⟨hz, b, o, e, fun i v hi => ?_⟩
  have hi34 : i < 34 := by have := (List.getElem?_eq_some_iff.1 hi).1; omega
  obtain ⟨b', o', e', hc⟩ := hr (j * 34 + i) v (by rw [rowsM_get zs h j z hj i hi34, hi])
  rw [e] at e'
  cases e'
  rw [← hc, Nat.add_assoc]
theorem RdM.toV {W : World} {A : Option Addr} {zs : List Mem} (h : RdM W A zs) : RdV W A (rowsM zs) := by
  intro i v hi
  have hl := rowsM_length zs h.ok
  have hlt : i < (rowsM zs).length := (List.getElem?_eq_some_iff.1 hi).1
  have hq : i / 34 < zs.length := by omega
  obtain ⟨z, b, o, hz, hok, hA, hr⟩ := h.at hq
  have h1 := rowsM_get zs h.ok (i / 34) z hz (i % 34) (Nat.mod_lt _ (by omega))
  rw [show i / 34 * 34 + i % 34 = i by omega] at h1
  refine ⟨b, o, hA, ?_⟩
  have h2 := hr (i % 34) v (by rw [← h1, hi])
  rwa [Nat.add_assoc, show i / 34 * 34 + i % 34 = i by omega] at h2
theorem rowsM_one (zs : List Mem) : ∀ u ∈ rowsM zs, u.oneCell' = true := by
  intro u hu
  simp only [rowsM, List.mem_flatMap] at hu
  obtain ⟨z, _, hz⟩ := hu
  simp only [RowM, B8, List.mem_cons, List.mem_append, List.mem_map, List.mem_nil_iff, or_false] at hz
  rcases hz with rfl | ⟨x, _, rfl⟩ | rfl <;> rfl
/-- 'xs[m:]' of a slice of members. -/
theorem RdM.drop {W : World} {A : Option Addr} {zs : List Mem} (h : RdM W A zs) (m : Nat) : RdM W (A.map fun a => ⟨a.block, a.off + m * 34, none⟩) (zs.drop m) := by
  intro j z hj
  rw [List.getElem?_drop] at hj
  obtain ⟨h1, b, o, e, hr⟩ := h _ z hj
  refine ⟨h1, b, o + m * 34, by rw [e]; rfl, fun i v hi => ?_⟩
  have h2 := hr i v hi
  rwa [show o + (m + j) * 34 + i = o + m * 34 + j * 34 + i by omega] at h2
theorem check_ne {l : List Mem} (h : checkL l = true) : 0 < l.length := by
  cases l with
  | nil => simp [checkL] at h
  | cons z l => simp
/-- Another ring, of the rest: whoever is out is not in it. -/
theorem rest_out {l : List Mem} (h : checkL l = true) {k : Nat} {z : Mem} (hk : l[k]? = some z) (j : Nat) (z' : Mem) (hj : (l.take k ++ l.drop (k + 1))[j]? = some z') : z'.k ≠ z.k := by
  have hlt : k < l.length := (List.getElem?_eq_some_iff.1 hk).1
  have ht : (l.take k).length = k := by rw [List.length_take]; omega
  rcases Nat.lt_or_ge j k with hjk | hjk
  · rw [List.getElem?_append_left (by omega), List.getElem?_take, if_pos hjk] at hj
    exact (check_keys h j k z z' hjk hj hk).1
  · rw [List.getElem?_append_right (by omega), ht, List.getElem?_drop] at hj
    exact fun e => (check_keys h k _ z' z (by omega) hk hj).1 e.symm
/-- A place in the row, by the remainder. -/
theorem rem_place (a : Int) (q : Nat) (hq : 0 < q) (h8 : q ≤ 8) (ha : -9223372036854775808 ≤ a ∧ a ≤ 9223372036854775807) : ∃ k : Nat, k < q ∧ Int.tmod (Int.tmod a q + q) q = (k : Int) ∧ -8 ≤ Int.tmod a q ∧ Int.tmod a q ≤ 8 := by
  have h1 : Int.tmod a q < q := Int.tmod_lt_of_pos a (by omega)
  have h2 : -(q : Int) < Int.tmod a q := by
    have := Int.lt_tmod_of_pos a (show (0 : Int) < q by omega)
    omega
  have h3 : 0 ≤ Int.tmod (Int.tmod a q + q) q := Int.tmod_nonneg _ (by omega)
  have h4 : Int.tmod (Int.tmod a q + q) q < q := Int.tmod_lt_of_pos _ (by omega)
  exact ⟨(Int.tmod (Int.tmod a q + q) q).toNat, by omega, by omega, by omega, by omega⟩
theorem MemK : SlK Tryz.prog 23 63 (.agg (RowM ⟨0, z32, false⟩).toArray) 34 48 := ⟨Tryz.underlying23, by kernel_rfl, by kernel_rfl, by omega⟩
/-- 'xs[m:]' of a slice of whatever elements. -/
theorem cut_fromK {P : Program} (t e : TypeId) {i : TypeInfo} (ht : P.underlying t = some (.slice e)) (hi : P.info? e = some i) (A : Option Addr) (n c m : Nat) (hm : m ≤ n) (hn : n ≤ c) (W : World) :
    (Instr.slice t (.slice A n c) (some (.int .i64 (m : Int))) none none).run P W = .ok (.slice (if c = m then A else A.map (fun x => x.add (m * i.size))) (n - m) (c - m)) W := by
  have hel : P.elem t = e := by simp [Program.elem, ht]
  have hu : P.underlying t = some (.slice (P.elem t)) := by rw [hel]; exact ht
  rw [run_slice_l W t A n c hu .i64 (m : Int) (Int.natCast_nonneg _) (by omega), hel]
  simp [sizeOf, typeInfo, hi, sliced, Result.andThen]
theorem run_cut_fromK {P : Program} {o : Oper} {a : Act} (ty : TypeId) (x l : Operand) (ho : o.op = .slice ty x (some l) none none) (e : TypeId) {i : TypeInfo} (ht : P.underlying ty = some (.slice e)) (hi : P.info? e = some i)
    (A : Option Addr) (n c m : Nat) (z : Int) (hz : z = (m : Int)) (hx : a.eval x = .slice A n c) (hl : a.eval l = .int .i64 z) (hm : m ≤ n) (hn : n ≤ c) (W : World) : (execOp a.eval o).run P W = .ok (.value (.slice (if c = m then A else A.map (fun x => x.add (m * i.size))) (n - m) (c - m))) W := by
  subst hz
  unfold execOp
  simp only [ho, hx, Option.map_some, Option.map_none, hl, Instr.sliceAt, Sem.run_bind, Sem.run_pure, run_underlying ht, Result.andThen_ok, cut_fromK ty e ht hi A n c m hm hn W]
theorem RdM.dropA {W : World} {A : Option Addr} {zs : List Mem} (h : RdM W A zs) (m c : Nat) (hc : zs.length ≤ c) (k : Nat) (hk : k = 34) : RdM W (if c = m then A else A.map (fun x => x.add (m * k))) (zs.drop m) := by
  subst hk
  split
  · rw [List.drop_of_length_le (by omega)]
    exact RdM.nil _ _
  · have h1 := h.drop m
    intro j z hj
    obtain ⟨hz, b, o, e, hr⟩ := h1 j z hj
    refine ⟨hz, b, o, ?_, hr⟩
    have hj2 := hj
    rw [List.getElem?_drop] at hj2
    obtain ⟨_, b', o', e', _⟩ := h _ z hj2
    rw [e'] at e ⊢
    rw [← e]
    simp only [Option.map_some, add_at]
section
variable {P : Program} {o : Oper} {a : Act} {Q : Exit → Act → World → Prop} {K : Act → World → Prop} {W : World}
theorem wp_build_mems0 {o : Oper} (ho : o.op = .buildSlice 23 0 #[]) (h : K (a.put o.dst (.slice (some ⟨W.heap.size, 0, none⟩) 0 0)) (W.alloc (.cells #[] 63))) : o.wp Tryz.prog a W K Q := by
  unfold Oper.wp execOp
  simp only [ho, List.map_toArray, List.map_nil]
  go_simp
  exact h
end
end Go.Proofs.YtlocplkjokoknaaGreat

/- Small laws of the layer's walks. No condition but those each theorem states. -/
namespace Go.Proofs.YtlocplkjokoknaaGreat
set_option linter.unusedVariables false
set_option linter.unusedSimpArgs false
open Go.RowKit

/-- What Make answers, in one form. -/
structure MadeR (w0 : World) (g S D b lo : Nat) (ep : UInt64) (l : List Mem) (s : BSt) (w : World) (rc : Array Value) (yk : Kys) (ea : Int) (w' : World) : Prop where
  ok : OkK yk
  sz : rc.size = 2
  one : rc.all (·.oneCell') = true
  fr : BoxF g S b w w'
  bel : Below w0.heap.size w0 w'
  bad : ea = 2 → checkL l = false
  odd : ea = 15 → checkL l = true ∧ ∃ s', WrapR (keysOf s ep) l { s with u := s.u + 64 } s' none
  good : ea = 0 → checkL l = true ∧ yk = keysOf s ep ∧ ∃ s' xs d, WrapR (keysOf s ep) l { s with u := s.u + 64 } s' (some (xs, d)) ∧ BoxB w0 g S D b lo s' w' ∧ RgB w.heap.size w' (.agg rc) xs d
theorem MakeP.one {w0 : World} {g S D b lo : Nat} {ep : UInt64} {l : List Mem} {s : BSt} {w : World} {e : Ending} {w' : World} (h : MakeP w0 g S D b lo ep l s w e w') (hb : Below w0.heap.size w0 w) :
    ∃ rc yk ea, e = .returned (.tuple #[.agg rc, .agg (RowK yk).toArray, .int .i64 ea]) ∧ (ea = 0 ∨ ea = 2 ∨ ea = 15) ∧ MadeR w0 g S D b lo ep l s w rc yk ea w' := by
  rcases h with ⟨hc, rfl, hbl⟩ | ⟨hc, s', r, hw, hx, hf, hr⟩
  · exact ⟨RingZ, kysZ, 2, rfl, .inr (.inl rfl), ok_kysZ, rfl, ringZ_one, (BoxF.refl g S b w).below hbl, hb.trans (hbl.mono hb.size), fun _ => hc, (fun h => by cases h), fun h => by cases h⟩
  · rcases r with _ | ⟨xs, d⟩
    · exact ⟨RingZ, kysZ, 15, hr, .inr (.inr rfl), ok_kysZ, rfl, ringZ_one, hf, hx.bel, (fun h => by cases h), (fun _ => ⟨hc, s', hw⟩), (fun h => by cases h)⟩
    · obtain ⟨v, he, hrg⟩ := hr
      obtain ⟨rc, rfl, h2, h3⟩ := hrg.agg
      exact ⟨rc, keysOf s ep, 0, he, .inl rfl, ok_keysOf _ _, h2, h3, hf, hx.bel, (fun h => by cases h), (fun h => by cases h), fun _ => ⟨hc, rfl, s', xs, d, hw, hx, hrg⟩⟩
end Go.Proofs.YtlocplkjokoknaaGreat

/- Two members of a ring that are the same are told not to differ. No condition but those each theorem states. -/
namespace Go.Proofs.YtlocplkjokoknaaGreat
set_option linter.unusedVariables false
set_option linter.unusedSimpArgs false
open Go.RowKit

theorem eq_memD (z z' : Mem) (hz : OkM z) (hz' : OkM z') (W : World) (dd : Nat) :
    (Op.equalIn (dd + 3) 63 (.agg (RowM z).toArray) (.agg (RowM z').toArray)).run Tryz.prog W = .ok (decide (z.n = z'.n ∧ z.k = z'.k ∧ z.o = z'.o)) W := by
  have hfs : (Tryz.prog.fieldsOf 63).toList.map (fun f => (f.name == "_", f.type, f.offset)) = [(false, 3, 0), (false, 38, 1), (false, 4, 33)] := by kernel_rfl
  have ht : Tryz.prog.underlying 63 = some (.struct (Tryz.prog.fieldsOf 63)) := by kernel_rfl
  have hp : Tryz.prog.stoodInHeld 63 = false := by kernel_rfl
  rw [run_equalIn_struct W (dd + 2) _ _ _ ht hp]
  clear ht hp
  generalize (Tryz.prog.fieldsOf 63).toList = fs at hfs
  obtain ⟨f1, f2, f3, rfl⟩ : ∃ f1 f2 f3, fs = [f1, f2, f3] := by
    rcases fs with _ | ⟨f1, _ | ⟨f2, _ | ⟨f3, _ | ⟨f4, fs⟩⟩⟩⟩ <;> simp at hfs
    exact ⟨f1, f2, f3, rfl⟩
  simp only [List.map_cons, List.map_nil, List.cons.injEq, Prod.mk.injEq, and_true] at hfs
  obtain ⟨⟨n1, t1, o1⟩, ⟨n2, t2, o2⟩, n3, t3, o3⟩ := hfs
  have n1 : f1.name ≠ "_" := by simpa using n1
  have n2 : f2.name ≠ "_" := by simpa using n2
  have n3 : f3.name ≠ "_" := by simpa using n3
  have hsz : (Tryz.prog.info? 38).map (·.size) = some 32 := by kernel_rfl
  obtain ⟨i, hi, hsz⟩ := Option.map_eq_some_iff.1 hsz
  have p1 : ∀ z : Mem, (part 3 (RowM z).toArray 0).run Tryz.prog W = .ok (.int .i64 z.n) W := by
    intro z
    have hc : (RowM z).toArray[0]? = some (.int .i64 z.n) := rfl
    simp only [part, isAgg, Sem.run_bind, run_underlying Tryz.underlying3, Result.andThen_ok, Sem.run_pure, hc]
    simp
  have p2 : ∀ z : Mem, OkM z → (part 38 (RowM z).toArray 1).run Tryz.prog W = .ok (.agg (W8 z.k)) W := by
    intro z hz
    have e1 : (List.take 32 (RowM z).tail).toArray = W8 z.k := by
      rw [RowM, List.tail_cons, List.take_append_of_le_length (by rw [B8_length, hz.1]; exact Nat.le_refl _), List.take_of_length_le (by rw [B8_length, hz.1]; exact Nat.le_refl _)]
      rfl
    simp only [part, isAgg, Sem.run_bind, run_underlying Tryz.underlying38, Result.andThen_ok, Sem.run_pure, sizeOf, typeInfo, hi, hsz]
    simp [hsz, hi]
    exact e1
  have p4 : ∀ z : Mem, OkM z → (part 4 (RowM z).toArray 33).run Tryz.prog W = .ok (.bool z.o) W := by
    intro z hz
    have hc : (RowM z).toArray[33]? = some (.bool z.o) := rowM_o hz.1
    simp only [part, isAgg, Sem.run_bind, run_underlying Tryz.underlying4, Result.andThen_ok, Sem.run_pure, hc]
    simp
  have q1 := run_equalIn_int (P := Tryz.prog) W (dd + 1) 3 .i64 .i64 z.n z'.n Tryz.underlying3
  have q2 := eq_arr2 W 38 5 32 Tryz.underlying38 Tryz.underlying5 (by kernel_rfl) z.k z'.k hz.1 hz'.1 dd
  have q4 := run_equalIn_bool (P := Tryz.prog) W (dd + 1) 4 z.o z'.o Tryz.underlying4
  have a1 := p1 z
  have a2 := p1 z'
  have b1 := p2 z hz
  have b2 := p2 z' hz'
  have d1 := p4 z hz
  have d2 := p4 z' hz'
  clear p1 p2 p4 hsz hi
  have ee : (z.n == z'.n) = decide (z.n = z'.n) := by
    by_cases h : z.n = z'.n
    · rw [h]; simp
    · rw [decide_eq_false h, beq_eq_false_iff_ne]
      exact h
  rw [ee] at q1
  unfold Op.eqFields
  rw [if_pos n1, t1, o1, Sem.run_bind, a1, Result.andThen_ok, Sem.run_bind, a2, Result.andThen_ok, Sem.run_bind, q1, Result.andThen_ok]
  by_cases h1 : z.n = z'.n
  · rw [decide_eq_true h1]
    unfold Op.eqFields
    simp only [Bool.not_true, Bool.false_eq_true, if_false]
    rw [if_pos n2, t2, o2, Sem.run_bind, b1, Result.andThen_ok, Sem.run_bind, b2, Result.andThen_ok, Sem.run_bind, q2, Result.andThen_ok]
    by_cases h2 : z.k = z'.k
    · rw [decide_eq_true h2]
      unfold Op.eqFields
      simp only [Bool.not_true, Bool.false_eq_true, if_false]
      rw [if_pos n3, t3, o3, Sem.run_bind, d1, Result.andThen_ok, Sem.run_bind, d2, Result.andThen_ok, Sem.run_bind, q4, Result.andThen_ok]
      unfold Op.eqFields
      by_cases h4 : z.o = z'.o <;> simp [h1, h2, h4]
    · rw [decide_eq_false h2]
      simp [h2]
  · rw [decide_eq_false h1]
    simp [h1]
theorem run_neq_mem_same {o : Oper} {a : Act} (t2 : TypeId) (x y : Operand) (ho : o.op = .binOp .neq 63 x y t2) (z : Mem) (hz : OkM z) (hx : a.eval x = .agg (RowM z).toArray) (hy : a.eval y = .agg (RowM z).toArray) (W : World) :
    (execOp a.eval o).run Tryz.prog W = .ok (.value (.bool false)) W := by
  have hm : Tryz.prog.eqGuardType Tryz.prog.depth 63 = false := by kernel_rfl
  unfold execOp
  have h := eq_memD z z hz hz W 9997
  rw [decide_eq_true (⟨rfl, rfl, rfl⟩ : z.n = z.n ∧ z.k = z.k ∧ z.o = z.o)] at h
  simp only [ho, hx, hy, Sem.run_bind, Sem.run_pure, run_neq_struct, run_eqGuard_agg (w := W) _ _ x y _ _ hm, h, Result.andThen_ok]
  rfl
theorem run_zero_key {o : Oper} {a : Act} (ho : o.op = .build 38 #[]) (W : World) : (execOp a.eval o).run Tryz.prog W = .ok (.value (.agg (W8 (List.replicate 32 0)))) W := by
  have h2 : ∀ W : World, (Instr.build 38 #[]).run Tryz.prog W = .ok (.agg (W8 (List.replicate 32 0))) W := by
    intro W
    kernel_rfl
  unfold execOp
  have h3 := h2 W
  simp only [ho, List.map_toArray, List.map_nil, Sem.run_bind, h3, Result.andThen_ok, Sem.run_pure]
theorem run_neq_bool_same {o : Oper} {a : Act} (t2 : TypeId) (x y : Operand) (ho : o.op = .binOp .neq 4 x y t2) (q : Bool) (hx : a.eval x = .bool q) (hy : a.eval y = .bool q) (W : World) : (execOp a.eval o).run Tryz.prog W = .ok (.value (.bool false)) W := by
  unfold execOp
  simp only [ho, hx, hy]
  cases q <;> go_simp
theorem run_eq_zero {o : Oper} {a : Act} (t2 : TypeId) (x y : Operand) (ho : o.op = .binOp .eql 25 x y t2) (z : Int) (q : Bool) (h : decide (z = 0) = q) (hx : a.eval x = .int .i64 z) (hy : a.eval y = .int .i64 0) (W : World) : (execOp a.eval o).run Tryz.prog W = .ok (.value (.bool q)) W := by
  unfold execOp
  simp only [ho, hx, hy]
  subst h
  go_simp
  by_cases h : z = 0 <;> simp [h]
end Go.Proofs.YtlocplkjokoknaaGreat

/- errors.Is at two of the program's own numbers. No condition. -/
namespace Go.Proofs.YtlocplkjokoknaaGreat
set_option linter.unusedVariables false
set_option linter.unusedSimpArgs false
open Go.RowKit Go.Extern.Stop Go.Stop Go.Extern

/-- The block that stands for types. -/
noncomputable def isGz : Nat := Tryz.prog.globals.size
theorem is_typeOf (v : Value) (w : World) : (Extern.ReflectliteType.typeOf #[.iface 25 v]).run Tryz.prog w = .ok (.iface 188 (.agg #[.pointer (some ⟨isGz, 25, none⟩)])) w := by kernel_rfl
theorem is_noIs (v : Value) (xT : TypeId) (w : World) : (Instr.typeAssert (.iface 25 v) xT 190 true).run Tryz.prog w = .ok (.tuple #[.nilIface, .bool false]) w := run_typeAssert_lacksB Tryz.underlying190 (by kernel_rfl) (by kernel_rfl) v xT w
theorem is_noUn (v : Value) (xT : TypeId) (w : World) : (Instr.typeAssert (.iface 25 v) xT 193 true).run Tryz.prog w = .ok (.tuple #[.nilIface, .bool false]) w := run_typeAssert_lacksB Tryz.underlying193 (by kernel_rfl) (by kernel_rfl) v xT w
theorem is_noUns (v : Value) (xT : TypeId) (w : World) : (Instr.typeAssert (.iface 25 v) xT 195 true).run Tryz.prog w = .ok (.tuple #[.nilIface, .bool false]) w := run_typeAssert_lacksB Tryz.underlying195 (by kernel_rfl) (by kernel_rfl) v xT w
theorem is_eq3 (w : World) : (binOp .eql 138 (.iface 25 (.int .i64 3)) (.iface 25 (.int .i64 3))).run Tryz.prog w = .ok (.bool true) w := by kernel_rfl
theorem is_eq10 (w : World) : (binOp .eql 138 (.iface 25 (.int .i64 10)) (.iface 25 (.int .i64 3))).run Tryz.prog w = .ok (.bool false) w := by kernel_rfl
theorem is_method (n : Nat) (v : Value) (w : World) : (Go.method (n + 1) 188 v "Comparable").run Tryz.prog w = .ok (161, v) w := by kernel_rfl
/-- What the model gives for 'Comparable'. -/
def isComp : Array Value → Sem Value := Extern.ReflectliteType.method fun t => do Rtype.noPackHeld "Comparable" t; pure (.bool (← typeInfo t).comparable)
theorem is_comparable (w : World) : (isComp #[.agg #[.pointer (some ⟨isGz, 25, none⟩)]]).run Tryz.prog w = .ok (.bool true) w := by kernel_rfl
theorem is_callComp (args : Array Value) (w : World) : (callFunc 161 args).run Tryz.prog w = ((isComp args).run Tryz.prog w).andThen fun v w' => .ok (Next.value v) w' :=
  @run_callFunc_extern Tryz.prog 161 _ isComp Tryz.func161 (by kernel_rfl) (by kernel_rfl) (by kernel_rfl) (by kernel_rfl) args w
theorem is_big (w : World) : Calls Tryz.prog 65 #[.iface 25 (.int .i64 3), .iface 25 (.int .i64 3)] w fun e w' => e = .returned (.bool true) ∧ w' = w := by
  have h8 := @run_callFunc_extern Tryz.prog 84 _ Extern.ReflectliteType.typeOf Tryz.func84 (by kernel_rfl) (by kernel_rfl) (by kernel_rfl) (by kernel_rfl)
  have h32 := is_callComp
  have tT := is_typeOf
  have cT := is_comparable
  have mR := is_method
  have heq := is_eq3
  go_enter Tryz.func65, Tryz.ntmps65
  go_wp2
  refine wp_loop_rounds 1 ?_
  rw [rounds_succ]
  go_wp2
  go_ret
  exact ⟨rfl, rfl⟩
theorem is_end (w : World) : Calls Tryz.prog 65 #[.iface 25 (.int .i64 10), .iface 25 (.int .i64 3)] w fun e w' => e = .returned (.bool false) ∧ w' = w := by
  have h8 := @run_callFunc_extern Tryz.prog 84 _ Extern.ReflectliteType.typeOf Tryz.func84 (by kernel_rfl) (by kernel_rfl) (by kernel_rfl) (by kernel_rfl)
  have h32 := is_callComp
  have tT := is_typeOf
  have cT := is_comparable
  have mR := is_method
  have heq := is_eq10
  have nE := is_noIs
  have uE := is_noUn
  have vE := is_noUns
  go_enter Tryz.func65, Tryz.ntmps65
  go_wp2
  refine wp_loop_rounds 1 ?_
  rw [rounds_succ]
  go_wp2
  go_ret
  exact ⟨rfl, rfl⟩
end Go.Proofs.YtlocplkjokoknaaGreat

/- wire.Reader: one is made; what is wrong with it. No condition but those each theorem states. -/
namespace Go.Proofs.YtlocplkjokoknaaGreat
set_option linter.unusedVariables false
set_option linter.unusedSimpArgs false
open Go.RowKit
attribute [local go_sem ↓] Go.wp_at_zero Go.wp_at_succ

set_option maxRecDepth 100000 in
set_option maxHeartbeats 1000000 in
theorem wrong_any (g D : Nat) (s : RSt) (w : World) (h : Rdr g D s w) :
    Calls Tryz.prog 42 #[.pointer (some ⟨g, 0, none⟩)] w fun e w' => e = .returned (.int .i64 (s.e : Int)) ∧ w' = w := by
  have R := Lib.hid h
  obtain ⟨A, c, h1, _⟩ := h.has
  have c1 := row_cell h1 1 rfl
  have hc := errV_cases h.ok
  clear h1 h
  rcases hc with ⟨he, hv⟩ | ⟨he, _, hv⟩ | ⟨he, _, hv⟩
  · have E := Lib.hid he
    clear hv he c1
    go_enter Tryz.func42, Tryz.ntmps42
    go_wp2_with fail
    refine (fine_any g D s w R.out).mono ?_
    rw [E.out]
    rintro e w ⟨rfl, rfl⟩
    go_wp2_with fail
    go_ret
    exact ⟨by rw [E.out]; rfl, rfl⟩
  · rw [hv] at c1
    have E := Lib.hid he
    clear hv he
    go_enter Tryz.func42, Tryz.ntmps42
    go_wp2_with fail
    refine (fine_any g D s w R.out).mono ?_
    rw [E.out]
    rintro e w1 ⟨rfl, hw⟩
    rw [hw]
    clear hw w1
    go_wp2_with fail
    refine (is_big w).mono ?_
    rintro e w1 ⟨rfl, hw⟩
    rw [hw]
    clear hw w1
    go_wp2_with fail
    go_ret
    exact ⟨by rw [E.out]; rfl, rfl⟩
  · rw [hv] at c1
    have E := Lib.hid he
    clear hv he
    go_enter Tryz.func42, Tryz.ntmps42
    go_wp2_with fail
    refine (fine_any g D s w R.out).mono ?_
    rw [E.out]
    rintro e w1 ⟨rfl, hw⟩
    rw [hw]
    clear hw w1
    go_wp2_with fail
    refine (is_end w).mono ?_
    rintro e w1 ⟨rfl, hw⟩
    rw [hw]
    clear hw w1
    go_wp2_with fail
    go_ret
    exact ⟨by rw [E.out]; rfl, rfl⟩
end Go.Proofs.YtlocplkjokoknaaGreat

/- Members by value: built, and laid as a slice of one. No condition but those each theorem states. -/
namespace Go.Proofs.YtlocplkjokoknaaGreat
set_option linter.unusedVariables false
set_option linter.unusedSimpArgs false
open Go.RowKit

theorem build_memQ (z : Int) (q : Bool) (W : World) : (Instr.build 63 #[(0, .int .i64 z), (2, .bool q)]).run Tryz.prog W = .ok (.agg (.int .i64 z :: (B8 z32 ++ [.bool q])).toArray) W := by kernel_rfl
theorem run_memQ {o : Oper} {a : Act} (x y : Operand) (ho : o.op = .build 63 #[(0, x), (2, y)]) (z : Int) (q : Bool) (hx : a.eval x = .int .i64 z) (hy : a.eval y = .bool q) (W : World) : (execOp a.eval o).run Tryz.prog W = .ok (.value (.agg (RowM ⟨z, z32, q⟩).toArray)) W := by
  unfold execOp
  simp only [ho, List.map_toArray, List.map_cons, List.map_nil, hx, hy, Sem.run_bind, build_memQ, Result.andThen_ok, Sem.run_pure, RowM]
theorem build_memsV : ∀ (z v0 v1 v2 v3 v4 v5 v6 v7 v8 v9 v10 v11 v12 v13 v14 v15 v16 v17 v18 v19 v20 v21 v22 v23 v24 v25 v26 v27 v28 v29 v30 v31 q : Value) (W : World), (Instr.buildSlice 23 1 #[(0, .agg #[z, v0, v1, v2, v3, v4, v5, v6, v7, v8, v9, v10, v11, v12, v13, v14, v15, v16, v17, v18, v19, v20, v21, v22, v23, v24, v25, v26, v27, v28, v29, v30, v31, q])]).run Tryz.prog W = .ok (.slice (some ⟨W.heap.size, 0, none⟩) 1 1) (W.alloc (.cells #[z, v0, v1, v2, v3, v4, v5, v6, v7, v8, v9, v10, v11, v12, v13, v14, v15, v16, v17, v18, v19, v20, v21, v22, v23, v24, v25, v26, v27, v28, v29, v30, v31, q] 63)) := by
  intros
  kernel_rfl
theorem build_memsG (z : Mem) (hz : OkM z) (W : World) : (Instr.buildSlice 23 1 #[(0, .agg (RowM z).toArray)]).run Tryz.prog W = .ok (.slice (some ⟨W.heap.size, 0, none⟩) 1 1) (W.alloc (.cells (RowM z).toArray 63)) := by
  obtain ⟨n, k, q⟩ := z
  have hk : k.length = 32 := hz.1
  match k, hk with
  | [k0, k1, k2, k3, k4, k5, k6, k7, k8, k9, k10, k11, k12, k13, k14, k15, k16, k17, k18, k19, k20, k21, k22, k23, k24, k25, k26, k27, k28, k29, k30, k31], _ => exact build_memsV _ _ _ _ _ _ _ _ _ _ _ _ _ _ _ _ _ _ _ _ _ _ _ _ _ _ _ _ _ _ _ _ _ _ W
theorem rowM_fit (z : Mem) (hz : z.k = z32) (x : List UInt8) (hx : x.length ≤ 32) : ((RowM z).toArray.toList.take 1 ++ (B8 x ++ (RowM z).toArray.toList.drop (1 + x.length))).toArray = (RowM { z with k := fitK x }).toArray := by
  have h1 : RowM z = .int .i64 z.n :: (B8 z32 ++ [.bool z.o]) := by rw [RowM, hz]
  show ((RowM z).take 1 ++ (B8 x ++ (RowM z).drop (1 + x.length))).toArray = _
  rw [h1, Nat.add_comm 1, List.drop_succ_cons, List.drop_append_of_le_length (by simp [B8_length, z32]; omega)]
  simp [RowM, fitK, B8, List.map_drop]
section
variable {o : Oper} {a : Act} {Q : Exit → Act → World → Prop} {K : Act → World → Prop} {W : World}
theorem wp_mems1 (x : Operand) (z : Mem) (hz : OkM z) (ho : o.op = .buildSlice 23 1 #[(0, x)]) (hx : a.eval x = .agg (RowM z).toArray) (h : K (a.put o.dst (.slice (some ⟨W.heap.size, 0, none⟩) 1 1)) (W.alloc (.cells (RowM z).toArray 63))) : o.wp Tryz.prog a W K Q := by
  have h1 := build_memsG z hz W
  unfold Oper.wp execOp
  simp only [ho, List.map_toArray, List.map_cons, List.map_nil, hx, Sem.run_bind, Sem.run_pure, h1, Result.andThen_ok]
  exact h
end
end Go.Proofs.YtlocplkjokoknaaGreat

/- Members: who is in a ring, by the owners' key. No condition but those each theorem states. -/
namespace Go.Proofs.YtlocplkjokoknaaGreat
set_option linter.unusedVariables false
set_option linter.unusedSimpArgs false
open Go.RowKit
attribute [local go_sem ↓] Go.wp_at_zero Go.wp_at_succ

def parseL : Nat → RSt → List Mem
  | 0, _ => []
  | n + 1, s => if s.e ≠ 0 then [] else ⟨((numS s 1).2 : Int), fitK (takeS (numS (numS s 1).1 1).1 32).2.1, decide ((numS (numS s 1).1 1).2 = 1)⟩ :: parseL n (takeS (numS (numS s 1).1 1).1 32).1
def membersL (t : List UInt8) : List Mem := parseL (numS ⟨t, 0⟩ 1).2 (numS ⟨t, 0⟩ 1).1
theorem numS_one (s : RSt) : (numS s 1).2 ≤ 255 := by
  have h1 := beVal_lt (takeS s (min 1 8)).2.1
  have h2 := takeS_le s (min 1 8) 1 (by omega)
  have h3 : 256 ^ (takeS s (min 1 8)).2.1.length ≤ 256 ^ 1 := Nat.pow_le_pow_right (by omega) h2
  rw [numS]
  show beVal (takeS s (min 1 8)).2.1 ≤ 255
  omega
theorem parseL_ok (n : Nat) (s : RSt) : ∀ z ∈ parseL n s, OkM z := by
  induction n generalizing s with
  | zero => intro z hz; cases hz
  | succ n ih =>
    intro z hz
    rw [parseL] at hz
    split at hz
    · cases hz
    · rcases List.mem_cons.1 hz with rfl | hz
      · refine ⟨fitK_length _ (takeS_le _ _ 32 (by omega)), ?_, ?_⟩
        · show -9223372036854775808 ≤ ((numS s 1).2 : Int); omega
        · have := numS_one s
          show ((numS s 1).2 : Int) ≤ 9223372036854775807
          omega
      · exact ih _ z hz
theorem parseL_len (n : Nat) (s : RSt) : (parseL n s).length ≤ n := by
  induction n generalizing s with
  | zero => exact Nat.le_refl _
  | succ n ih =>
    rw [parseL]
    split
    · simp
    · have := ih (takeS (numS (numS s 1).1 1).1 32).1
      simp only [List.length_cons]
      omega
/-- What Members leaves. -/
def MembersP (s : BSt) (key d : List UInt8) (w : World) (e : Ending) (w' : World) : Prop :=
  ((openS s key dirB d = none ∧ e = .returned (.tuple #[.slice none 0 0, .int .i64 12])) ∨
   (∃ t, openS s key dirB d = some t ∧ (checkL (membersL t) && decide (dirL (membersL t) = t)) = false ∧ e = .returned (.tuple #[.slice none 0 0, .int .i64 11])) ∨
   (∃ t A c, openS s key dirB d = some t ∧ (checkL (membersL t) && decide (dirL (membersL t) = t)) = true ∧ e = .returned (.tuple #[.slice A (membersL t).length c, .int .i64 0]) ∧ RdM w' A (membersL t) ∧ (membersL t).length ≤ c)) ∧ Below w.heap.size w w'
set_option maxRecDepth 100000 in
set_option maxHeartbeats 8000000 in
theorem members_any (w0 : World) (g S D b lo : Nat) (s : BSt) (w : World) (h : BoxB w0 g S D b lo s w) (hmo : s.mode = 0 ∨ s.mode = 1) (v : Value) (xs : List (List UInt8)) (d : List UInt8) (base : Nat) (hv : RgB base w v xs d) (hd : d.length ≤ 70000)
    (k : List UInt8) (hk : k.length = 32) (ht : ∀ p ∈ s.m, s.mode = 1 → p.2.text.length ≤ 100000) :
    Calls Tryz.prog 19 #[.pointer (some ⟨g, 0, none⟩), v, .agg (W8 k)] w (MembersP s k d w) := by
  have TB := Lib.hid (show ByteT Tryz.prog from ⟨Tryz.underlying22, by kernel_rfl⟩)
  have H := Lib.hid h
  have HMO := Lib.hid hmo
  have HK := Lib.hid hk
  have HT := Lib.hid ht
  obtain ⟨A1, c1, vs, dv, rfl, _, _, _, _, _, hdv⟩ := hv
  obtain ⟨Ad, cd, rfl, hcd, hrd, _⟩ := hdv
  obtain ⟨nd, hnd⟩ : ∃ nd, nd = d.length := ⟨_, rfl⟩
  obtain ⟨rc, hrc⟩ : ∃ rc : Array Value, rc = #[.slice A1 xs.length c1, .slice Ad d.length cd] := ⟨_, rfl⟩
  rw [← hrc]
  have IR := Lib.hid (show (Tryz.prog.info? 35).map (·.size) = some rc.size by rw [hrc]; exact info_ring)
  have R1 := Lib.hid (show rc[1]? = some (.slice Ad nd cd) by rw [hrc, hnd]; rfl)
  have IK := Lib.hid (info_keyW hk)
  have RDD := Lib.hid hrd
  have ND := Lib.hid hnd.symm
  have CD := Lib.hid (show nd ≤ cd by omega)
  have NDB := Lib.hid (show nd ≤ 70000 by omega)
  clear h hmo hk ht hcd hrd hrc hnd hd
  go_enter Tryz.func19, Tryz.ntmps19
  go_upto_region 1 with fail
  generalize hM4 : Array.size (World.heap w) = M4
  generalize hwa : World.alloc w _ = wa
  have sa : wa.heap.size = M4 + 1 := by rw [← hwa, ha_size, hM4]
  have ra : wa.heap[M4]? = some (.cells rc 35 (0, 0)) := by rw [← hwa]; exact ha_new _ _ _ hM4.symm
  generalize hwb : World.alloc wa _ = w3
  have ba : Below wa.heap.size wa w3 := by rw [← hwb]; exact below_new _ _
  have R4 := Lib.hid (below_block ba (row_lt ra) ra)
  have R5 := Lib.hid (show w3.heap[M4 + 1]? = some (.cells (W8 k) 38 (0, 0)) by rw [← hwb]; exact ha_new _ _ _ sa.symm)
  have B3 := Lib.hid (show Below w.heap.size w w3 from by
    have h1 : Below w.heap.size w wa := by rw [← hwa]; exact below_new _ _
    exact h1.trans (ba.mono h1.size))
  have H3 := Lib.hid (H.out.keep B3.out)
  clear hwa sa ra hwb ba hM4
  go_wp2_with fail
  refine (none_any w0 g S D b lo s w3 H3.out).mono ?_
  rintro e w4 ⟨rfl, hb⟩
  have B4 := Lib.hid hb
  clear hb
  have R44 := Lib.hid (below_block B4.out (row_lt R4.out) R4.out)
  have R54 := Lib.hid (below_block B4.out (row_lt R5.out) R5.out)
  have BP := Lib.hid (show Below w.heap.size w w4 from B3.out.trans (B4.out.mono B3.out.size))
  go_upto_region 3 with fail
  refine wp_region_list ?_
  simp only [List.toList_toArray]
  refine wpList_val (v := ?_) (by rfl) ?_ ?_
  rotate_left
  · go_simp
    with_reducible rfl
  simp only [Act.put, List.setIfInBounds_toArray, List.set_cons_zero, List.set_cons_succ]
  refine wpList_val (by rfl) (run_load_row 38 (.tmp 5) rfl (M4 + 1) rfl 38 (W8 k) (0, 0) _ R54.out Tryz.underlying38 rfl IK.out) ?_
  simp only [Act.put, List.setIfInBounds_toArray, List.set_cons_zero, List.set_cons_succ]
  refine wpList_op (by rfl) (fun K hK => ?_)
  refine wp_dir rfl ?_
  generalize hB : Array.size (World.heap w4) = N4
  generalize hw : World.alloc w4 _ = w9
  have B9 := Lib.hid (show Below w4.heap.size w4 w9 by rw [← hw]; exact below_new _ _)
  have R9 := Lib.hid (show w9.heap[N4]? = some (.cells (W8 dirB) 5 (0, 0)) by rw [← hw]; exact ha_new _ _ _ hB.symm)
  have N4E := Lib.hid hB
  clear hB hw
  refine hK.out _ _ ?_
  clear hK K
  simp only [Act.put, List.setIfInBounds_toArray, List.set_cons_zero, List.set_cons_succ]
  refine wpList_op (by rfl) (fun K hK => ?_)
  refine wp_cv (.tmp 19) rfl R9.out rfl ?_
  intro w10 hr10 hg10 _
  have B10 := Lib.hid (show Below w4.heap.size w4 w10 from grown_below_on B9.out hg10 (by rw [N4E.out]; exact Nat.le_refl _))
  have R10 := Lib.hid (show RdB w10 (some ⟨N4, 0, none⟩) dirB from RdB.row hr10)
  have R4X := Lib.hid (below_block B10.out (row_lt R44.out) R44.out)
  clear hr10 hg10 R9 B9
  refine hK.out _ _ ?_
  clear hK K
  simp only [Act.put, List.setIfInBounds_toArray, List.set_cons_zero, List.set_cons_succ]
  refine wpList_val (v := ?_) (by rfl) ?_ ?_
  rotate_left
  · go_simp
    with_reducible rfl
  simp only [Act.put, List.setIfInBounds_toArray, List.set_cons_zero, List.set_cons_succ]
  refine wpList_val (by rfl) (run_cell 22 (.tmp 21) rfl _ Tryz.underlying22 rfl rfl (row_cell R4X.out 1 R1.out)) ?_
  simp only [Act.put, List.setIfInBounds_toArray, List.set_cons_zero, List.set_cons_succ]
  refine wpList_op (by rfl) (fun K hK => ?_)
  go_simp
  refine (bopen_both w0 g S D b lo s w10 ((H.out.keep BP.out).keep B10.out) HMO.out k dirB d HK.out (some ⟨N4, 0, none⟩) 3 3 rfl R10.out (by omega) Ad nd cd ND.out CD.out ((RDD.out.keep BP.out).keep B10.out) NDB.out HT.out).mono ?_
  rcases hop : openS s k dirB d with _ | t
  · have OP := Lib.hid hop
    clear hop
    rintro e w11 hop
    obtain ⟨rfl, hb⟩ := OpenP.no hop
    have BN := Lib.hid (show Below w.heap.size w w11 from BP.out.trans ((B10.out.trans (hb.mono B10.out.size)).mono BP.out.size))
    clear hop hb
    refine hK.out _ _ ?_
    clear hK K
    go_wp2_with fail
    go_ret2
    exact ⟨.inl ⟨OP.out, rfl⟩, BN.out⟩
  · have OP := Lib.hid hop
    have TLEN := Lib.hid (openS_len hop (by rw [ND.out]; exact NDB.out) HT.out HMO.out)
    clear hop
    rintro e w11 hop
    obtain ⟨⟨vt, rfl, ho⟩, hb⟩ := OpenP.yes hop
    obtain ⟨At, ct, rfl, hrt, _, _, _⟩ := ho.read
    have RT := Lib.hid hrt
    have BN := Lib.hid (show Below w.heap.size w w11 from BP.out.trans ((B10.out.trans (hb.mono B10.out.size)).mono BP.out.size))
    obtain ⟨nt, hnt⟩ : ∃ nt, nt = t.length := ⟨_, rfl⟩
    rw [← hnt]
    have NT := Lib.hid hnt.symm
    clear hop ho hb hrt hnt
    refine hK.out _ _ ?_
    clear hK K
    go_wp2_with fail
    refine (rnew_any w11 At nt ct t NT.out RT.out (by have := TLEN.out; have := NT.out; omega)).mono ?_
    rintro e w12 ⟨rg, D0, rfl, hg, _, hrd, hb2⟩
    obtain ⟨RD0, hD, hrd⟩ := hrd.fitL
    have RD := Lib.hid hrd
    have BW := Lib.hid (show Below w.heap.size w w12 from BN.out.trans (hb2.mono BN.out.size))
    have B12 := Lib.hid (show Below w11.heap.size w11 w12 from hb2)
    have DL := Lib.hid hD
    have GL := Lib.hid (show w.heap.size ≤ rg ∧ w11.heap.size ≤ rg by have := BN.out.size; omega)
    clear hg hrd hb2 hD
    go_wp2_with fail
    refine (num_any rg RD0 ⟨t, 0⟩ 1 (by omega) w12 RD.out).mono ?_
    rintro e w13 ⟨rfl, hrd, hg13⟩
    obtain ⟨m0, hm0⟩ : ∃ m0, m0 = (numS ⟨t, 0⟩ 1).2 := ⟨_, rfl⟩
    rw [← hm0]
    have M0B := Lib.hid (show m0 ≤ 255 by rw [hm0]; exact numS_one _)
    have MEM := Lib.hid (show membersL t = [] ++ parseL m0 (numS ⟨t, 0⟩ 1).1 by rw [hm0]; rfl)
    have RD13 := Lib.hid (show Rdr rg RD0 (numS ⟨t, 0⟩ 1).1 w13 from hrd)
    have BW13 := Lib.hid (grown_below_on BW.out hg13 GL.out.1)
    have B13 := Lib.hid (show Below w11.heap.size w11 w13 from grown_below_on B12.out hg13 GL.out.2)
    have RG13 := Lib.hid RD13.out.lt
    have RDL13 := Lib.hid (show RD0 < w13.heap.size by have := DL.out; have := hg13.size; omega)
    clear hrd hg13 hm0
    go_wp2_with fail
    go_loopw [11, 12] (fun u i wr => ∃ (m : Nat) (sr : RSt) (zs : List Mem), m ≤ 255 ∧ i = .int .u64 (m : Int) ∧ zs.length + m ≤ 255 ∧ OwnK wr w13.heap.size 63 34 u zs.length (rowsM zs) ∧ (∀ z ∈ zs, OkM z) ∧ Rdr rg RD0 sr wr ∧ membersL t = zs ++ parseL m sr ∧ Below w.heap.size w wr ∧ Below w11.heap.size w11 wr ∧ w13.heap.size ≤ wr.heap.size) (fun _ i _ => (intOf i).toNat)
    case atStart => exact ⟨m0, _, [], M0B.out, rfl, by simpa using M0B.out, OwnK.nil _ _ _ _, by simp, RD13.out, MEM.out, BW13.out, B13.out, Nat.le_refl _⟩
    case round =>
      obtain ⟨m, sr, zs, hm, rfl, hzl, ho, hzk, hrd, hmem, hbw, hb11, hsz⟩ := hrel
      have MB := Lib.hid hm
      have ZL := Lib.hid hzl
      have O := Lib.hid ho
      have ZK2 := Lib.hid hzk
      have RDX := Lib.hid hrd
      have MX := Lib.hid hmem
      have BX := Lib.hid hbw
      have BY := Lib.hid hb11
      have SZX := Lib.hid hsz
      have mb : (m : Int) ≤ 255 := by omega
      clear hm hzl ho hzk hrd hmem hbw hb11 hsz
      obtain ⟨wp, rfl⟩ : ∃ wp : World, wp = wr := ⟨_, rfl⟩
      by_cases hm0 : m = 0
      · subst hm0
        have ME := Lib.hid (show membersL t = zs by rw [MX.out, parseL, List.append_nil])
        go_upto_region 14 with fail
        obtain ⟨_, Ar, cr, rfl, hrv, hcr, _, _⟩ := O.out.read
        have RM := Lib.hid (RdM.ofV ZK2.out hrv)
        have CR := Lib.hid hcr
        have ZB := Lib.hid (show zs.length ≤ 255 by have := ZL.out; omega)
        clear hrv hcr
        go_wp2_with fail
        refine (check_any wp Ar cr zs RM.out CR.out (by have := ZB.out; omega)).mono ?_
        rintro e wq ⟨rfl, hb⟩
        have BQ := Lib.hid hb
        clear hb
        rcases hck : checkL zs with _ | _
        · have CF := Lib.hid hck
          rw [show chk zs = 2 by rw [chk, hck]; rfl]
          clear hck
          go_wp2_with fail
          go_ret2
          exact ⟨.inr (.inl ⟨t, OP.out, by rw [ME.out, CF.out]; rfl, rfl⟩), BX.out.trans (BQ.out.mono BX.out.size)⟩
        · have CF := Lib.hid hck
          rw [show chk zs = 0 by rw [chk, hck]; rfl]
          clear hck
          have SP := Lib.hid (checkL_spec CF.out)
          go_wp2_with fail
          refine (dir_any wq Ar cr zs (RM.out.keep BQ.out) SP.out.1 SP.out.2).mono ?_
          rintro e wr2 ⟨vd, rfl, ho, hb⟩
          obtain ⟨Ax, cx, rfl, hrx, _, _, _⟩ := ho.read
          have RX := Lib.hid hrx
          have BR2 := Lib.hid (BQ.out.trans (hb.mono BQ.out.size))
          clear ho hb hrx
          go_wp2_with fail
          refine (beq_any wr2 Ax At _ nt cx ct (dirL zs) t rfl NT.out RX.out (RT.out.keep (BY.out.trans (BR2.out.mono BY.out.size)))).mono ?_
          rintro e wx ⟨rfl, hw⟩
          rw [hw]
          clear hw wx
          rcases hdt : decide (dirL zs = t) with _ | _
          · have DF := Lib.hid hdt
            clear hdt
            go_wp2_with fail
            go_ret2
            exact ⟨.inr (.inl ⟨t, OP.out, by rw [ME.out, CF.out, DF.out]; rfl, rfl⟩), BX.out.trans (BR2.out.mono BX.out.size)⟩
          · have DF := Lib.hid hdt
            clear hdt
            go_wp2_with fail
            go_ret2
            exact ⟨.inr (.inr ⟨t, Ar, cr, OP.out, by rw [ME.out, CF.out, DF.out]; rfl, by rw [ME.out]; rfl, by rw [ME.out]; exact RM.out.keep BR2.out, by rw [ME.out]; exact CR.out⟩), BX.out.trans (BR2.out.mono BX.out.size)⟩
      · have hD : decide ((0 : Int) < (m : Int)) = true := by simp; omega
        have mp : (0 : Int) < (m : Int) := by omega
        go_wp2_with fail
        refine (wrong_any rg RD0 sr wp RDX.out).mono ?_
        rintro e wq ⟨rfl, hw⟩
        rw [hw]
        clear hw wq
        by_cases he : sr.e = 0
        · have hE : ((sr.e : Int) == 0) = true := by simp [he]
          have ME := Lib.hid (show membersL t = zs ++ (⟨((numS sr 1).2 : Int), fitK (takeS (numS (numS sr 1).1 1).1 32).2.1, decide ((numS (numS sr 1).1 1).2 = 1)⟩ :: parseL (m - 1) (takeS (numS (numS sr 1).1 1).1 32).1) by
            rw [MX.out]
            obtain ⟨m', rfl⟩ : ∃ m', m = m' + 1 := ⟨m - 1, by omega⟩
            rw [parseL, if_neg (by simpa using he)]
            rfl)
          rw [show ((sr.e : Nat) : Int) = 0 by rw [he]; rfl]
          clear hE
          have ewm : IntKind.u64.wrap ((m : Int) - 1) = (m : Int) - 1 := by rw [IntKind.wrap_u64]; omega
          go_wp2_with fail
          refine (num_any rg RD0 sr 1 (by omega) wp RDX.out).mono ?_
          rintro e w2 ⟨rfl, hrd, hg⟩
          obtain ⟨na, hna⟩ : ∃ na, na = (numS sr 1).2 := ⟨_, rfl⟩
          rw [← hna]
          have NA := Lib.hid (show na ≤ 255 by rw [hna]; exact numS_one _)
          have NAE := Lib.hid hna
          have ena : IntKind.i64.wrap (na : Int) = (na : Int) := by rw [IntKind.wrap_i64]; have := NA.out; omega
          have O := Lib.hid (O.out.grown hg (.inr (fun e => by have := (O.out.lt rg e).1; have := RG13.out; omega)))
          have RDX := Lib.hid (show Rdr rg RD0 (numS sr 1).1 w2 from hrd)
          have BX := Lib.hid (grown_below_on BX.out hg GL.out.1)
          have BY := Lib.hid (grown_below_on BY.out hg GL.out.2)
          have SZX := Lib.hid (Nat.le_trans SZX.out hg.size)
          clear hrd hg hna
          go_wp2_with fail
          refine (num_any rg RD0 (numS sr 1).1 1 (by omega) w2 RDX.out).mono ?_
          rintro e w3' ⟨rfl, hrd, hg⟩
          obtain ⟨no, hno⟩ : ∃ no, no = (numS (numS sr 1).1 1).2 := ⟨_, rfl⟩
          rw [← hno]
          have NOE := Lib.hid hno
          obtain ⟨qq, hqq⟩ : ∃ qq : Bool, qq = decide (no = 1) := ⟨_, rfl⟩
          have dq : ((no : Int) == 1) = qq := by
            rw [hqq]
            by_cases h : no = 1
            · subst h; rfl
            · rw [decide_eq_false h]; simp; omega
          have QE := Lib.hid hqq
          have O := Lib.hid (O.out.grown hg (.inr (fun e => by have := (O.out.lt rg e).1; have := RG13.out; omega)))
          have RDX := Lib.hid (show Rdr rg RD0 (numS (numS sr 1).1 1).1 w3' from hrd)
          have BX := Lib.hid (grown_below_on BX.out hg GL.out.1)
          have BY := Lib.hid (grown_below_on BY.out hg GL.out.2)
          have SZX := Lib.hid (Nat.le_trans SZX.out hg.size)
          clear hrd hg hno hqq
          have OKM0 := Lib.hid (show OkM ⟨(na : Int), z32, qq⟩ from ⟨rfl, by show -9223372036854775808 ≤ (na : Int); omega, by show (na : Int) ≤ 9223372036854775807; have := NA.out; omega⟩)
          have SZ0 := Lib.hid (show (34 : Nat) = (RowM ⟨(na : Int), z32, qq⟩).toArray.size by rw [List.size_toArray, RowM_length OKM0.out])
          have IM0 := Lib.hid (show (Tryz.prog.info? 63).map (·.size) = some (RowM ⟨(na : Int), z32, qq⟩).toArray.size by rw [← SZ0.out]; exact info_mem)
          go_upto_region 12 with (first | (refine wpList_val rfl (run_memQ (.tmp 43) (.tmp 46) rfl (na : Int) qq rfl rfl _) ?_) | (refine wpList_store_new rfl rfl 63 (.tmp 13) (.tmp 47) rfl (RowM ⟨(na : Int), z32, qq⟩).toArray rfl rfl IM0.out SZ0.out (rowM_one _) ?_))
          clear dq ena
          generalize hM13 : Array.size (World.heap w3') = M13
          generalize hw4 : World.alloc w3' _ = w4
          have B4 := Lib.hid (show Below w3'.heap.size w3' w4.drew by rw [← hw4]; exact (below_new _ _).drew)
          have R13 := Lib.hid (show w4.drew.heap[M13]? = some (.cells (RowM ⟨(na : Int), z32, qq⟩).toArray 63 (0, 0)) by rw [← hw4]; exact ha_new _ _ _ hM13.symm)
          have M13L := Lib.hid (show rg < M13 ∧ RD0 < M13 ∧ w.heap.size ≤ M13 ∧ w11.heap.size ≤ M13 ∧ w13.heap.size ≤ M13 by have := RDX.out.lt; have := RDL13.out; have := SZX.out; have := GL.out; have := BW13.out.size; have := B13.out.size; omega)
          have OM := Lib.hid (show ∀ q, _ = some q → q < M13 from fun q e => by have := (O.out.lt q e).2; omega)
          have O := Lib.hid (O.out.below B4.out)
          have RDX := Lib.hid (RDX.out.keep B4.out)
          have BX := Lib.hid (BX.out.trans (B4.out.mono BX.out.size))
          have BY := Lib.hid (BY.out.trans (B4.out.mono BY.out.size))
          have SZX := Lib.hid (Nat.le_trans SZX.out B4.out.size)
          clear hM13 hw4 B4
          refine wp_region_road (fun _ => True) [(true, 0), (true, 1), (true, 2), (false, 3), (false, 4)] (by kernel_rfl) (by kernel_rfl) (fun _ _ d _ _ h => by cases d <;> exact h) ?_
          simp only [List.filterMap_cons, List.filterMap_nil, List.getElem?_toArray, List.getElem?_cons_zero, List.getElem?_cons_succ, Option.map_some]
          generalize World.drew w4 = wd at R13 O RDX BX BY SZX ⊢
          refine planG_q (v := ?_) (by rfl) (trivial) ?_ ?_
          rotate_left
          · intro W hW
            go_simp
            with_reducible rfl
          simp only [Act.put, List.setIfInBounds_toArray, List.set_cons_zero, List.set_cons_succ]
          refine planG_q (by rfl) (trivial) (fun W hW => run_arr_off 38 (.tmp 48) rfl 32 5 Tryz.underlying38 rfl M13 1 rfl W) ?_
          simp only [Act.put, List.setIfInBounds_toArray, List.set_cons_zero, List.set_cons_succ]
          refine planG_q (v := ?_) (by rfl) (trivial) ?_ ?_
          rotate_left
          · intro W hW
            go_simp
            with_reducible rfl
          simp only [Act.put, List.setIfInBounds_toArray, List.set_cons_zero, List.set_cons_succ]
          refine planG_t (by rfl) (fun K hK => ?_)
          go_simp
          refine (raw_any rg RD0 (numS (numS sr 1).1 1).1 32 wd RDX.out).mono ?_
          rintro e w5 ⟨⟨v5, rfl, ho5⟩, hrd, hg⟩
          obtain ⟨x2, hx2⟩ : ∃ x, x = (takeS (numS (numS sr 1).1 1).1 32).2.1 := ⟨_, rfl⟩
          have X2 := Lib.hid hx2
          have X2L := Lib.hid (show x2.length ≤ 32 by rw [hx2]; exact takeS_le _ _ 32 (by omega))
          have ho5 : OwnB w5 wd.heap.size v5 x2 := by rw [hx2]; exact ho5
          obtain ⟨A5, c5, rfl, hr5, _, _, _⟩ := ho5.read
          have RX2 := Lib.hid hr5
          have R13 := Lib.hid (grown_block hg (fun e => by have := Option.some.inj e; have := M13L.out; omega) R13.out)
          have O := Lib.hid (O.out.grown hg (.inr (fun e => by have := (O.out.lt rg e).1; have := RG13.out; omega)))
          have RDX := Lib.hid (show Rdr rg RD0 (takeS (numS (numS sr 1).1 1).1 32).1 w5 from hrd)
          have BX := Lib.hid (grown_below_on BX.out hg GL.out.1)
          have BY := Lib.hid (grown_below_on BY.out hg GL.out.2)
          have SZX := Lib.hid (Nat.le_trans SZX.out hg.size)
          clear ho5 hrd hg hx2 hr5
          refine hK.out _ _ (trivial) ?_
          clear hK K
          refine planG_t (by rfl) (fun K hK => ?_)
          refine copyA_wp TB.out (.tmp 49) (.tmp 51) rfl M13 1 32 32 A5 x2.length c5 rfl rfl (RowM ⟨(na : Int), z32, qq⟩).toArray 63 R13.out x2 rfl RX2.out x2.length (Nat.min_eq_left X2L.out).symm (by rw [← SZ0.out]; have := X2L.out; omega) ?_
          rw [List.take_length, rowM_fit _ rfl x2 X2L.out]
          intro w6 hr6 hg _
          obtain ⟨zn, hzn⟩ : ∃ zn : Mem, zn = ⟨(na : Int), fitK x2, qq⟩ := ⟨_, rfl⟩
          have R13 := Lib.hid (show w6.heap[M13]? = some (.cells (RowM zn).toArray 63 (0, 0)) by rw [hzn]; exact hr6)
          have ZNO := Lib.hid (show OkM zn by rw [hzn]; exact ⟨fitK_length _ X2L.out, OKM0.out.2⟩)
          have MEZ := Lib.hid (show membersL t = (zs ++ [zn]) ++ parseL (m - 1) (takeS (numS (numS sr 1).1 1).1 32).1 by rw [ME.out, hzn, X2.out, NAE.out, QE.out, NOE.out]; simp)
          have O := Lib.hid (O.out.grown hg (.inr (fun e => by have := OM.out M13 e; omega)))
          have RDX := Lib.hid (RDX.out.far hg (fun q e => by cases e; have := M13L.out; omega))
          have BX := Lib.hid (grown_below_on BX.out hg M13L.out.2.2.1)
          have BY := Lib.hid (grown_below_on BY.out hg M13L.out.2.2.2.1)
          have SZX := Lib.hid (Nat.le_trans SZX.out hg.size)
          clear hr6 hg hzn
          refine hK.out _ _ (trivial) ?_
          clear hK K
          refine planG_nil ?_
          go_upto_region 13 with fail
          refine wp_region_list ?_
          simp only [List.toList_toArray]
          refine wpList_val (v := ?_) (by rfl) ?_ ?_
          rotate_left
          · go_simp
            with_reducible rfl
          simp only [Act.put, List.setIfInBounds_toArray, List.set_cons_zero, List.set_cons_succ]
          refine wpList_val (by rfl) (run_load_range 63 (.tmp 13) rfl M13 0 rfl (RowM zn) (range_rowL R13.out) Tryz.underlying63 rfl (by rw [RowM_length ZNO.out]; exact info_mem)) ?_
          simp only [Act.put, List.setIfInBounds_toArray, List.set_cons_zero, List.set_cons_succ]
          refine wpList_op (by rfl) (fun K hK => ?_)
          refine wp_mems1 (.tmp 54) zn ZNO.out rfl rfl ?_
          generalize hB : Array.size (World.heap w6) = N5
          generalize hw : World.alloc w6 _ = w7
          have B7 := Lib.hid (show Below w6.heap.size w6 w7 by rw [← hw]; exact below_new _ _)
          have RV7 := Lib.hid (show RdV w7 (some ⟨N5, 0, none⟩) (RowM zn) from fun j v hj => ⟨N5, 0, rfl, range_rowL (show w7.heap[N5]? = some (.cells (RowM zn).toArray 63 (0, 0)) by rw [← hw]; exact ha_new _ _ _ hB.symm) j v hj⟩)
          have O := Lib.hid (O.out.below B7.out)
          have RDX := Lib.hid (RDX.out.keep B7.out)
          have BX := Lib.hid (BX.out.trans (B7.out.mono BX.out.size))
          have BY := Lib.hid (BY.out.trans (B7.out.mono BY.out.size))
          have SZX := Lib.hid (Nat.le_trans SZX.out B7.out.size)
          clear hB hw B7
          refine hK.out _ _ ?_
          clear hK K
          simp only [Act.put, List.setIfInBounds_toArray, List.set_cons_zero, List.set_cons_succ]
          refine appK_list rfl MemK (.tmp 53) (.tmp 55) rfl w13.heap.size _ zs.length (rowsM zs) (RowM zn) (some ⟨N5, 0, none⟩) 1 1 rfl rfl (by rw [RowM_length ZNO.out]) O.out RV7.out (by have h1 := rowsM_one [zn]; simpa [rowsM] using h1) SZX.out (by have := ZL.out; omega) (by have := ZL.out; omega) ?_
          intro v8 w8 ho hg _
          have O8 := Lib.hid (show OwnK w8 w13.heap.size 63 34 v8 (zs ++ [zn]).length (rowsM (zs ++ [zn])) by
            rw [List.length_append, rowsM_append]
            have h1 : rowsM [zn] = RowM zn := by simp [rowsM]
            rw [h1]
            exact ho)
          have RD8 := Lib.hid (RDX.out.far hg (fun q e => by have := (O.out.lt q e).1; have := RG13.out; have := RDL13.out; omega))
          have BX8 := Lib.hid (BX.out.trans (grown_below hg BX.out.size (fun q e => by have := (O.out.lt q e).1; have := BW13.out.size; omega)))
          have BY8 := Lib.hid (BY.out.trans (grown_below hg BY.out.size (fun q e => by have := (O.out.lt q e).1; have := B13.out.size; omega)))
          have SZ8 := Lib.hid (Nat.le_trans SZX.out hg.size)
          have ZK8 := Lib.hid (show ∀ z ∈ zs ++ [zn], OkM z from fun z hz => by
            rcases List.mem_append.1 hz with h | h
            · exact ZK2.out z h
            · simp only [List.mem_cons, List.mem_nil_iff, or_false] at h
              rw [h]
              exact ZNO.out)
          clear ho hg
          simp only [Act.put, List.setIfInBounds_toArray, List.set_cons_zero, List.set_cons_succ]
          go_wp2_with fail
          go_roundw
          case rel => exact ⟨m - 1, _, zs ++ [zn], by omega, by first | go_num | (congr 1; omega), by have := ZL.out; simp; omega, O8.out, ZK8.out, RD8.out, MEZ.out, BX8.out, BY8.out, SZ8.out⟩
          case measure => simp [intOf]; omega
        · have hE : ((sr.e : Int) == 0) = false := by simp [he]
          have ME := Lib.hid (show membersL t = zs by
            rw [MX.out]
            obtain ⟨m', rfl⟩ : ∃ m', m = m' + 1 := ⟨m - 1, by omega⟩
            rw [parseL, if_pos he, List.append_nil])
          go_upto_region 14 with fail
          obtain ⟨_, Ar, cr, rfl, hrv, hcr, _, _⟩ := O.out.read
          have RM := Lib.hid (RdM.ofV ZK2.out hrv)
          have CR := Lib.hid hcr
          have ZB := Lib.hid (show zs.length ≤ 255 by have := ZL.out; omega)
          clear hrv hcr
          go_wp2_with fail
          refine (check_any wp Ar cr zs RM.out CR.out (by have := ZB.out; omega)).mono ?_
          rintro e wq ⟨rfl, hb⟩
          have BQ := Lib.hid hb
          clear hb
          rcases hck : checkL zs with _ | _
          · have CF := Lib.hid hck
            rw [show chk zs = 2 by rw [chk, hck]; rfl]
            clear hck
            go_wp2_with fail
            go_ret2
            exact ⟨.inr (.inl ⟨t, OP.out, by rw [ME.out, CF.out]; rfl, rfl⟩), BX.out.trans (BQ.out.mono BX.out.size)⟩
          · have CF := Lib.hid hck
            rw [show chk zs = 0 by rw [chk, hck]; rfl]
            clear hck
            have SP := Lib.hid (checkL_spec CF.out)
            go_wp2_with fail
            refine (dir_any wq Ar cr zs (RM.out.keep BQ.out) SP.out.1 SP.out.2).mono ?_
            rintro e wr2 ⟨vd, rfl, ho, hb⟩
            obtain ⟨Ax, cx, rfl, hrx, _, _, _⟩ := ho.read
            have RX := Lib.hid hrx
            have BR2 := Lib.hid (BQ.out.trans (hb.mono BQ.out.size))
            clear ho hb hrx
            go_wp2_with fail
            refine (beq_any wr2 Ax At _ nt cx ct (dirL zs) t rfl NT.out RX.out (RT.out.keep (BY.out.trans (BR2.out.mono BY.out.size)))).mono ?_
            rintro e wx ⟨rfl, hw⟩
            rw [hw]
            clear hw wx
            rcases hdt : decide (dirL zs = t) with _ | _
            · have DF := Lib.hid hdt
              clear hdt
              go_wp2_with fail
              go_ret2
              exact ⟨.inr (.inl ⟨t, OP.out, by rw [ME.out, CF.out, DF.out]; rfl, rfl⟩), BX.out.trans (BR2.out.mono BX.out.size)⟩
            · have DF := Lib.hid hdt
              clear hdt
              go_wp2_with fail
              go_ret2
              exact ⟨.inr (.inr ⟨t, Ar, cr, OP.out, by rw [ME.out, CF.out, DF.out]; rfl, by rw [ME.out]; rfl, by rw [ME.out]; exact RM.out.keep BR2.out, by rw [ME.out]; exact CR.out⟩), BX.out.trans (BR2.out.mono BX.out.size)⟩
end Go.Proofs.YtlocplkjokoknaaGreat

/- Read: the ring of bytes. No condition but those each theorem states. -/
namespace Go.Proofs.YtlocplkjokoknaaGreat
set_option linter.unusedVariables false
set_option linter.unusedSimpArgs false
open Go.RowKit
attribute [local go_sem ↓] Go.wp_at_zero Go.wp_at_succ

def readX (l : List UInt8) (n : Nat) : List (List UInt8) := (List.range n).map fun i => (l.drop (101 * i)).take 101
theorem readX_succ (l : List UInt8) (n : Nat) : readX l (n + 1) = readX l n ++ [(l.drop (101 * n)).take 101] := by simp [readX, List.range_succ]
theorem takeS_ge (l : List UInt8) (n : Nat) (h0 : 0 < n) (h : n ≤ l.length) : takeS ⟨l, 0⟩ (n : Int) = (⟨l.drop n, 0⟩, l.take n, true) := by
  rw [takeS, if_neg (by simp; omega), if_neg (by simp; omega)]
  simp
set_option maxRecDepth 100000 in
set_option maxHeartbeats 1000000 in
theorem read_bad (w : World) (A : Option Addr) (n c : Nat) (hn : n ≠ 1109) (hb : n ≤ 140737488355328) :
    Calls Tryz.prog 22 #[.slice A n c] w fun e w' => e = .returned (.tuple #[.agg RingZ, .int .i64 11]) ∧ Below w.heap.size w w' := by
  have HB := Lib.hid hb
  clear hb
  go_enter Tryz.func22, Tryz.ntmps22
  go_upto_region 1 with fail
  generalize hM2 : Array.size (World.heap w) = M2
  generalize hw1 : World.alloc w _ = w1
  have B1 := Lib.hid (show Below w.heap.size w w1 by rw [← hw1]; exact below_new _ _)
  have R2 := Lib.hid (show w1.heap[M2]? = some (.cells RingZ 35 (0, 0)) by rw [← hw1]; exact ha_new _ _ _ hM2.symm)
  have ME := Lib.hid hM2
  clear hw1 hM2
  have hne : ((n : Int) == 1109) = false := by simp; omega
  have hne2 : ((n : Int) != 1109) = true := by simp; omega
  have hne3 : ¬ ((n : Int) = 1109) := by omega
  go_wp2_with (refine wpList_store_whole rfl rfl 35 (.tmp 2) (.tmp 9) rfl M2 RingZ rfl rfl 35 _ R2.out info_ringZ rfl ringZ_one ?_; intro w12 hz12 hg12 _)
  exact ret_cell M2 35 RingZ _ rfl rfl rfl rfl hz12 Tryz.underlying35 rfl info_ringZ ⟨rfl, grown_below_on B1.out hg12 (by rw [ME.out]; exact Nat.le_refl _)⟩
set_option maxRecDepth 100000 in
set_option maxHeartbeats 4000000 in
theorem read_any (w : World) (A : Option Addr) (c : Nat) (l : List UInt8) (hn : l.length = 1109) (hR : RdB w A l) :
    Calls Tryz.prog 22 #[.slice A 1109 c] w fun e w' => (∃ v, e = .returned (.tuple #[v, .int .i64 0]) ∧ RgB w.heap.size w' v (readX l 8) (l.drop 808)) ∧ Below w.heap.size w w' := by
  have TO := Lib.hid (show SlT Tryz.prog 33 22 (.slice none 0 0) 24 from ⟨Tryz.underlying33, by kernel_rfl, rfl⟩)
  have HN := Lib.hid hn
  have HR := Lib.hid hR
  clear hn hR
  go_enter Tryz.func22, Tryz.ntmps22
  go_upto_region 1 with fail
  generalize hM2 : Array.size (World.heap w) = M2
  generalize hw1 : World.alloc w _ = w1
  have B1 := Lib.hid (show Below w.heap.size w w1 by rw [← hw1]; exact below_new _ _)
  have R2 := Lib.hid (show w1.heap[M2]? = some (.cells RingZ 35 (0, 0)) by rw [← hw1]; exact ha_new _ _ _ hM2.symm)
  have ME := Lib.hid hM2
  clear hw1 hM2
  go_wp2_with fail
  refine (rnew_any w1 A 1109 c l HN.out (HR.out.keep B1.out) (by omega)).mono ?_
  rintro e w2 ⟨g, D0, rfl, hg, _, hrd, hb2⟩
  obtain ⟨D, hD, hrd⟩ := hrd.fitL
  have RD := Lib.hid hrd
  have BW := Lib.hid (show Below w.heap.size w w2 from B1.out.trans (hb2.mono B1.out.size))
  have R2B := Lib.hid (below_block hb2 (row_lt R2.out) R2.out)
  have DL := Lib.hid hD
  have GL := Lib.hid (show M2 < g ∧ w.heap.size ≤ g ∧ g < w2.heap.size by have := row_lt R2.out; have := B1.out.size; have := hrd.lt; omega)
  clear hg hrd hb2 hD
  go_upto_region 5 with fail
  generalize hM5 : Array.size (World.heap w2) = M5
  generalize hw3 : World.alloc w2 _ = w3
  have B3 := Lib.hid (show Below w2.heap.size w2 w3 by rw [← hw3]; exact below_new _ _)
  have R5 := Lib.hid (show w3.heap[M5]? = some (.cells #[.slice none 0 0, .slice none 0 0] 35 (0, 0)) by rw [← hw3]; exact ha_new _ _ _ hM5.symm)
  have M5E := Lib.hid hM5
  have P0 := Lib.hid (show RnW w2 g g g M5 M5 (readX l 0) (.slice none 0 0) [] w3 from ⟨(BoxF.refl g g g w2).below B3.out, R5.out, OwnV.nil _ _ _, rfl, fun j x hx => by simp [readX] at hx, by rw [M5E.out]; exact Nat.le_refl _, by have := GL.out; have := M5E.out; omega, by rw [M5E.out]; exact Nat.le_refl _⟩)
  have RD3 := Lib.hid (RD.out.keep B3.out)
  have BW3 := Lib.hid (BW.out.trans (B3.out.mono BW.out.size))
  clear hM5 hw3 R5
  go_wp2_with fail
  go_loopw [12] (fun i wr => ∃ (j : Nat) (v : Value) (vs : List Value), j ≤ 8 ∧ i = .int .i64 (j : Int) ∧ Rdr g D ⟨l.drop (101 * j), 0⟩ wr ∧ RnW w2 g g g M5 M5 (readX l j) v vs wr ∧ Below w.heap.size w wr) (fun i _ => 8 - (intOf i).toNat)
  case atStart => exact ⟨0, _, [], by omega, rfl, by simpa using RD3.out, P0.out, BW3.out⟩
  case round =>
    obtain ⟨j, v, vs, hj, rfl, hrd, hrn, hbw⟩ := hrel
    have J := Lib.hid hj
    have RDJ := Lib.hid hrd
    have RN := Lib.hid hrn
    have BP := Lib.hid hbw
    clear hj hrd hrn hbw
    obtain ⟨wp, rfl⟩ : ∃ wp : World, wp = wr := ⟨_, rfl⟩
    by_cases hlt : j < 8
    · have hD : decide ((j : Int) < 8) = true := by simp; omega
      have J8 := Lib.hid hlt
      have j7 : (j : Int) ≤ 7 := by omega
      clear hlt
      have TS := Lib.hid (show takeS ⟨l.drop (101 * j), 0⟩ 101 = (⟨l.drop (101 * (j + 1)), 0⟩, (l.drop (101 * j)).take 101, true) by
        have h1 := takeS_ge (l.drop (101 * j)) 101 (by omega) (by rw [List.length_drop, HN.out]; have := J8.out; omega)
        rw [show ((101 : Nat) : Int) = 101 from rfl] at h1
        rw [h1, List.drop_drop, show 101 * j + 101 = 101 * (j + 1) by omega])
      go_upto_region 7 with fail
      have RN := Lib.hid (RN.out.keep (Below.refl _ _).drew)
      have RDJ := Lib.hid (RDJ.out.keep (Below.refl _ _).drew)
      have BP := Lib.hid BP.out.drew
      refine wp_region_till (fun W => W.heap[M5]? = some (.cells #[v, .slice none 0 0] 35 (0, 0))) 7 [(true, 0), (true, 1), (true, 2), (false, 3), (false, 4), (false, 5), (true, 6)] _ (by kernel_rfl) (by kernel_rfl) rfl (fun _ _ d _ _ h => by cases d <;> exact h) ?_
      simp only [List.filterMap_cons, List.filterMap_nil, List.getElem?_toArray, List.getElem?_cons_zero, List.getElem?_cons_succ, Option.map_some]
      generalize World.drew wp = wd at RN RDJ BP ⊢
      refine till_q (v := ?_) (by rfl) (RN.out.row) ?_ ?_
      rotate_left
      · intro W hW
        go_simp
        with_reducible rfl
      simp only [Act.put, List.setIfInBounds_toArray, List.set_cons_zero, List.set_cons_succ]
      refine till_q (by rfl) (RN.out.row) (fun W hW => run_cell 33 (.tmp 14) rfl _ Tryz.underlying33 rfl rfl (row_cell hW 0 rfl)) ?_
      simp only [Act.put, List.setIfInBounds_toArray, List.set_cons_zero, List.set_cons_succ]
      refine till_q (v := ?_) (by rfl) (RN.out.row) ?_ ?_
      rotate_left
      · intro W hW
        go_simp
        with_reducible rfl
      simp only [Act.put, List.setIfInBounds_toArray, List.set_cons_zero, List.set_cons_succ]
      refine till_t (by rfl) (fun K hK => ?_)
      go_simp
      refine (raw_any g D ⟨l.drop (101 * j), 0⟩ 101 wd RDJ.out).mono ?_
      rw [TS.out]
      obtain ⟨x, hx⟩ : ∃ x, x = (l.drop (101 * j)).take 101 := ⟨_, rfl⟩
      rw [← hx]
      have XE := Lib.hid hx
      have XL := Lib.hid (show x.length = 101 by rw [hx, List.length_take, List.length_drop, HN.out]; have := J8.out; omega)
      rintro e w5 ⟨⟨v5, rfl, ho⟩, hrd, hg5⟩
      obtain ⟨Ax, cx, rfl, hrx, hcx, _, hax⟩ := ho.read
      rw [XL.out]
      have RN5 := Lib.hid (RN.out.boxF (boxF_of_grown hg5))
      have RD5 := Lib.hid hrd
      have BP5 := Lib.hid (grown_below_on BP.out hg5 GL.out.2.1)
      have RX := Lib.hid hrx
      have CX := Lib.hid (show 101 ≤ cx by rw [← XL.out]; exact hcx)
      have AX := Lib.hid (show ∀ a, Ax = some a → M5 < a.block ∧ a.block < w5.heap.size ∧ some a.block ≠ v.ownBlock from fun a e => ⟨by have := (hax a e).1; have := row_lt RN.out.row; omega, (hax a e).2, fun e2 => by have := (RN.out.own.lt _ e2.symm).2; have := (hax a e).1; omega⟩)
      clear ho hrd hg5 hrx hcx hax hx
      refine hK.out _ _ (RN5.out.row) ?_
      clear hK K
      refine till_t (by rfl) (fun K hK => ?_)
      refine wp_build_slice (.tmp 17) rfl Ax 101 cx rfl ?_
      generalize hB : Array.size (World.heap w5) = N5
      generalize hw : World.alloc w5 _ = w6
      have B6 := Lib.hid (show Below w5.heap.size w5 w6 by rw [← hw]; exact below_new _ _)
      have R6 := Lib.hid (show RdV w6 (some ⟨N5, 0, none⟩) [.slice Ax 101 cx] from RdV.row (t := 22) (fr := (0, 0)) (by rw [← hw]; exact ha_new _ _ _ hB.symm))
      have RN6 := Lib.hid (RN5.out.keep B6.out)
      have OV := Lib.hid RN6.out.own
      have VL := Lib.hid (show vs.length ≤ 8 by rw [RN6.out.vl]; simp [readX]; have := J8.out; omega)
      clear hB hw
      refine hK.out _ _ (RN6.out.row) ?_
      clear hK K
      refine till_t (by rfl) (fun K hK => ?_)
      refine appV_wp TO.out (.tmp 15) (.tmp 18) rfl (M5 + 1) v vs [.slice Ax 101 cx] (some ⟨N5, 0, none⟩) 1 1 rfl rfl rfl OV.out R6.out (by intro u hu; simp only [List.mem_cons, List.mem_nil_iff, or_false] at hu; rw [hu]; rfl) (by have := row_lt RN6.out.row; omega) (by have := VL.out; omega) (by have := VL.out; omega) ?_
      intro v3 w7 ho hg hat
      have RM := Lib.hid (show w7.heap[M5]? = some (.cells #[v, .slice none 0 0] 35 (0, 0)) from grown_block hg (fun e => by have := (RN6.out.own.lt _ e.symm).1; omega) RN6.out.row)
      have RD7 := Lib.hid ((RD5.out.keep B6.out).far hg (fun q e => by have := (RN6.out.own.lt _ e).1; have := RN.out.mw; have := GL.out; have := DL.out; omega))
      have BP7 := Lib.hid (show Below w.heap.size w w7 from (BP5.out.trans (B6.out.mono BP5.out.size)).trans (grown_below hg (Nat.le_trans BP5.out.size B6.out.size) (fun q e => by have := (RN6.out.own.lt _ e).1; have := RN.out.mw; have := BW.out.size; omega)))
      have O3 := Lib.hid ho
      have G3 := Lib.hid hg
      have AT3 := Lib.hid hat
      obtain ⟨A3, c3, rfl, _, _, _, _⟩ := ho.read
      clear ho hg hat
      refine hK.out _ _ (RM.out) ?_
      clear hK K
      refine till_q (v := ?_) (by rfl) (RM.out) ?_ ?_
      rotate_left
      · intro W hW
        go_simp
        with_reducible rfl
      simp only [Act.put, List.setIfInBounds_toArray, List.set_cons_zero, List.set_cons_succ]
      refine till_last (fun K hK => ?_)
      refine wp_store_slices (.tmp 20) (.tmp 19) rfl M5 0 _ _ _ rfl rfl RM.out (by simp) ?_
      intro w8 hr8 hg8 _
      have RN8 := Lib.hid (show RnW w2 g g g M5 M5 (readX l (j + 1)) _ _ w8 by
        rw [readX_succ, ← XE.out]
        exact RN5.out.next RX.out XL.out CX.out AX.out B6.out O3.out G3.out AT3.out hr8 hg8)
      have RD8 := Lib.hid (RD7.out.far hg8 (fun q e => by cases e; have := RN.out.mw; have := GL.out; have := DL.out; omega))
      have BP8 := Lib.hid (grown_below_on BP7.out hg8 (by have := RN.out.mw; have := BW.out.size; omega))
      clear hr8 hg8
      refine hK.out _ _ ?_
      clear hK K
      go_wp2_with fail
      go_roundw
      case rel => exact ⟨j + 1, _, _, by have := J8.out; omega, by go_num, RD8.out, RN8.out, BP8.out⟩
      case measure => have := J8.out; simp [intOf]; omega
    · obtain rfl : j = 8 := by have := J.out; omega
      clear hlt
      have TS := Lib.hid (show takeS ⟨l.drop (101 * 8), 0⟩ 301 = (⟨[], 0⟩, l.drop 808, true) by
        have h1 := takeS_ge (l.drop (101 * 8)) 301 (by omega) (by rw [List.length_drop, HN.out]; omega)
        rw [show ((301 : Nat) : Int) = 301 from rfl] at h1
        rw [h1, List.drop_of_length_le (by rw [List.length_drop, HN.out]; omega), List.take_of_length_le (by rw [List.length_drop, HN.out]; omega)])
      go_wp2_with fail
      refine (raw_any g D ⟨l.drop (101 * 8), 0⟩ 301 wp RDJ.out).mono ?_
      rw [TS.out]
      obtain ⟨x, hx⟩ : ∃ x, x = l.drop 808 := ⟨_, rfl⟩
      rw [← hx]
      have XE := Lib.hid hx
      have XL := Lib.hid (show x.length = 301 by rw [hx, List.length_drop, HN.out])
      rintro e w5 ⟨⟨v5, rfl, ho⟩, hrd, hg5⟩
      obtain ⟨Ax, cx, rfl, hrx, hcx, _, hax⟩ := ho.read
      rw [XL.out]
      have RN5 := Lib.hid (RN.out.boxF (boxF_of_grown hg5))
      have BP5 := Lib.hid (grown_below_on BP.out hg5 GL.out.2.1)
      have R25 := Lib.hid (row_boxF R2B.out RN5.out.fr (by have := GL.out; omega))
      have RG5 := Lib.hid (RN5.out.ring (BoxF.refl g g g w5) hrx XL.out (show 301 ≤ cx by rw [← XL.out]; exact hcx) (fun a e => ⟨by have := (hax a e).1; have := row_lt RN.out.row; omega, (hax a e).2⟩))
      obtain ⟨Av, cv, hv, _, _, _, _⟩ := RN5.out.own.read
      have ONE := Lib.hid (show (#[v, .slice Ax 301 cx] : Array Value).all (·.oneCell') = true by rw [hv]; simp [Value.oneCell'])
      have ML := Lib.hid (show w.heap.size ≤ M5 by have := RN.out.mw; have := BW.out.size; omega)
      clear ho hrd hg5 hrx hcx hax hx hv
      go_upto_region 10 with (refine wpList_op rfl (fun K hK => ?_); refine wp_store_bytes (.tmp 24) (.tmp 23) rfl M5 1 _ _ _ rfl rfl RN5.out.row (by simp) ?_; intro w6 hr6 hg6 _; refine hK.out _ _ ?_)
      clear hK K
      have R6 := Lib.hid (show w6.heap[M5]? = some (.cells #[v, .slice Ax 301 cx] 35 (0, 0)) from hr6)
      have R26 := Lib.hid (grown_block hg6 (fun e => by have := Option.some.inj e; have := RN.out.mw; have := GL.out; omega) R25.out)
      have BP6 := Lib.hid (grown_below_on BP5.out hg6 ML.out)
      have RG6 := Lib.hid (RG5.out.grown hg6 (by omega))
      clear hr6 hg6
      refine wp_region_list ?_
      simp only [List.toList_toArray]
      refine wpList_val (by rfl) (run_load_row 35 (.tmp 5) rfl M5 rfl 35 #[v, .slice Ax 301 cx] (0, 0) _ R6.out Tryz.underlying35 rfl info_ring) ?_
      simp only [Act.put, List.setIfInBounds_toArray, List.set_cons_zero, List.set_cons_succ]
      refine wpList_store_whole rfl rfl 35 (.tmp 2) (.tmp 25) rfl M2 #[v, .slice Ax 301 cx] rfl rfl 35 _ R26.out info_ring rfl ONE.out ?_
      intro w7 hz7 hg7 _
      have Z7 := Lib.hid hz7
      have BF := Lib.hid (grown_below_on BP6.out hg7 (by rw [ME.out]; exact Nat.le_refl _))
      have RG7 := Lib.hid ((RG6.out.grown hg7 (by have := RN.out.mw; have := GL.out; omega)).low (show w.heap.size ≤ M5 + 1 by have := ML.out; omega))
      clear hz7 hg7
      go_wp2_with fail
      exact ret_cell M2 35 #[v, .slice Ax 301 cx] _ rfl rfl rfl rfl Z7.out Tryz.underlying35 rfl info_ring ⟨⟨_, rfl, by rw [← XE.out]; exact RG7.out⟩, BF.out⟩
end Go.Proofs.YtlocplkjokoknaaGreat

/- What is told of the members is them; a ring's bytes are cut where they were joined: plain. No condition but those each theorem states. -/
namespace Go.Proofs.YtlocplkjokoknaaGreat
set_option linter.unusedVariables false
set_option linter.unusedSimpArgs false
open Go.RowKit

theorem numS_byte (b : UInt8) (r : List UInt8) : numS ⟨b :: r, 0⟩ 1 = (⟨r, 0⟩, b.toNat) := by
  have h := takeS_all [b] r 1 (by omega) rfl
  rw [show ((1 : Nat) : Int) = 1 from rfl] at h
  rw [numS, show min (1 : Int) 8 = 1 from rfl]
  show ((takeS ⟨[b] ++ r, 0⟩ 1).1, beVal (takeS ⟨[b] ++ r, 0⟩ 1).2.1) = _
  rw [h]
  simp [beVal]
theorem numB_nat {n : Int} (h0 : 0 ≤ n) (h1 : n ≤ 255) : ((numB n).toNat : Int) = n := by
  rw [numB, UInt8.toNat_ofNat']
  omega
theorem parseL_dir (l : List Mem) (hl : ∀ z ∈ l, OkM z) (hn : ∀ z ∈ l, 0 ≤ z.n ∧ z.n ≤ 255) (r : List UInt8) : parseL l.length ⟨(l.map memL).flatten ++ r, 0⟩ = l := by
  induction l with
  | nil => rfl
  | cons z l ih =>
    have hk := (hl z (by simp)).1
    have e0 : ((z :: l).map memL).flatten ++ r = numB z.n :: flagB z.o :: (z.k ++ ((l.map memL).flatten ++ r)) := by simp [memL, List.append_assoc]
    rw [List.length_cons, parseL, if_neg (by simp), e0, numS_byte]
    simp only
    rw [numS_byte]
    simp only
    have h2 := takeS_all z.k ((l.map memL).flatten ++ r) 32 (by omega) hk
    rw [show ((32 : Nat) : Int) = 32 from rfl] at h2
    rw [h2]
    simp only
    rw [fitK_full hk, ih (fun y hy => hl y (by simp [hy])) (fun y hy => hn y (by simp [hy])), numB_nat (hn z (by simp)).1 (hn z (by simp)).2]
    obtain ⟨zn, zk, zo⟩ := z
    cases zo <;> rfl
theorem membersL_dir {l : List Mem} (h : checkL l = true) (hl : ∀ z ∈ l, OkM z) : membersL (dirL l) = l := by
  obtain ⟨h8, hn⟩ := checkL_spec h
  have e0 : dirL l = numB l.length :: ((l.map memL).flatten ++ List.replicate (273 - (1 + 34 * l.length)) 0) := by simp [dirL]
  rw [membersL, e0, numS_byte]
  simp only
  have h1 : (numB (l.length : Int)).toNat = l.length := by
    have := numB_nat (n := (l.length : Int)) (by omega) (by omega)
    omega
  rw [h1]
  exact parseL_dir l hl hn _
theorem readX_flat (l : List UInt8) (n : Nat) : (readX l n).flatten ++ l.drop (101 * n) = l := by
  induction n with
  | zero => simp [readX]
  | succ n ih =>
    rw [readX_succ, List.flatten_append, List.append_assoc]
    conv => rhs; rw [← ih]
    congr 1
    simp only [List.flatten_cons, List.flatten_nil, List.append_nil]
    conv => rhs; rw [← List.take_append_drop 101 (l.drop (101 * n)), List.drop_drop]
    rw [show 101 * n + 101 = 101 * (n + 1) by omega]
theorem readX_len (l : List UInt8) (h : l.length = 1109) : (readX l 8).length = 8 ∧ (readX l 8).flatten.length = 808 ∧ (l.drop 808).length = 301 := by
  have h1 := congrArg List.length (readX_flat l 8)
  rw [List.length_append, List.length_drop] at h1
  refine ⟨by simp [readX], by omega, by rw [List.length_drop]; omega⟩
/-- The owners' key tells the members. -/
theorem opens_dir {y : Kys} {l : List Mem} {s : BSt} {d : List UInt8} (hm : s.mode = 1) (h : lookM s.m d = some (dirE y l)) : openS s y.o dirB d = some (dirL l) := by
  rw [openS, if_neg (by omega), h]
  simp [dirE]
end Go.Proofs.YtlocplkjokoknaaGreat
