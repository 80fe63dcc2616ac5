/- Part 5 of what the law LawRingAgain needs. No condition but those each theorem states. -/
import Derived.ChangeOld
import Derived.ChangeSlices
import Derived.Deep.Matrix
import Derived.Deep.MidRow
import Derived.Deep.SlicePairs
import Derived.OpenShut
import Derived.ProofKit
import Derived.SizedLaws
import Derived.Test.YtlocplkjokoknaaPkLawRingAgainD
/- Unwrap. No condition but those each theorem states. -/
namespace Go.Proofs.Ytlocplkjokoknaa
set_option linter.unusedVariables false
set_option linter.unusedSimpArgs false
open Go.RowKit
attribute [local go_sem ↓] Go.wp_at_zero Go.wp_at_succ

/-- What a key learns of wraps. -/
def unwrapL (s : BSt) (k : List UInt8) : List (List UInt8) → Kys × Int
  | [] => (kysZ, 13)
  | x :: xs => match openS s k wrapB x with
    | none => unwrapL s k xs
    | some t => if learnB t then (learnK t, 0) else unwrapL s k xs
theorem unwrapL_drop {s : BSt} {k x : List UInt8} {xs : List (List UInt8)} {j : Nat} (h : xs[j]? = some x) : unwrapL s k (xs.drop j) = (match openS s k wrapB x with | none => unwrapL s k (xs.drop (j + 1)) | some t => if learnB t then (learnK t, 0) else unwrapL s k (xs.drop (j + 1))) := by
  obtain ⟨hj, he⟩ := List.getElem?_eq_some_iff.1 h
  rw [List.drop_eq_getElem_cons hj, he]
  rfl
theorem ok_unwrapL (s : BSt) (k : List UInt8) (xs : List (List UInt8)) : OkK (unwrapL s k xs).1 := by
  induction xs with
  | nil => exact ok_kysZ
  | cons x xs ih =>
    rw [unwrapL]
    split
    · exact ih
    · split
      · exact ok_learnK _
      · exact ih
theorem openS_len {s : BSt} {k b x t : List UInt8} (h : openS s k b x = some t) (hx : x.length ≤ 70000) (ht : ∀ p ∈ s.m, s.mode = 1 → p.2.text.length ≤ 100000) (hmo : s.mode = 0 ∨ s.mode = 1) : t.length ≤ 100000 := by
  rcases hmo with h0 | h1
  · rw [openS, if_pos h0] at h
    split at h
    · cases h
    · rw [openL] at h
      split at h
      · cases h
      · split at h
        · injection h with h
          rw [← h, streamL_length, List.length_take, List.length_drop]
          omega
        · cases h
  · rw [openS, if_neg (by omega)] at h
    cases hl : lookM s.m x with
    | none => rw [hl] at h; cases h
    | some e =>
      rw [hl] at h
      simp only at h
      split at h
      · injection h with h
        simp only [lookM, Option.map_eq_some_iff] at hl
        obtain ⟨p, hp, he⟩ := hl
        rw [← h, ← he]
        exact ht p (List.mem_of_find?_eq_some hp) h1
      · cases h
set_option maxRecDepth 100000 in
set_option maxHeartbeats 4000000 in
theorem unwrap_any (w0 : World) (g S D b lo : Nat) (s : BSt) (w : World) (h : BoxB w0 g S D b lo s w) (hmo : s.mode = 0 ∨ s.mode = 1) (v : Value) (xs : List (List UInt8)) (d : List UInt8) (base : Nat) (hv : RgB base w v xs d) (hxs : ∀ x ∈ xs, x.length ≤ 70000) (hl : xs.length ≤ 1000)
    (k : List UInt8) (hk : k.length = 32) (ht : ∀ p ∈ s.m, s.mode = 1 → p.2.text.length ≤ 100000) :
    Calls Try.prog 12 #[.pointer (some ⟨g, 0, none⟩), v, .agg (W8 k)] w fun e w' => e = .returned (.tuple #[.agg (RowK (unwrapL s k xs).1).toArray, .int .i64 (unwrapL s k xs).2]) ∧ Below w.heap.size w w' := by
  have ZK := Lib.hid zeroK
  have H := Lib.hid h
  have HMO := Lib.hid hmo
  have HXS := Lib.hid hxs
  have HK := Lib.hid hk
  have HT := Lib.hid ht
  obtain ⟨A1, c1, vs, dv, rfl, hc1, hvl, hrv, hA1, hxv, hdv⟩ := hv
  obtain ⟨q, hq⟩ : ∃ q, q = xs.length := ⟨_, rfl⟩
  have RV := Lib.hid hrv
  have XV := Lib.hid hxv
  have VL := Lib.hid (show vs.length = q by rw [hvl, hq])
  obtain ⟨rc, hrc⟩ : ∃ rc : Array Value, rc = #[.slice A1 xs.length c1, dv] := ⟨_, rfl⟩
  rw [← hrc]
  have IR := Lib.hid (show (Try.prog.info? 32).map (·.size) = some rc.size by rw [hrc]; exact info_ring)
  have R0 := Lib.hid (show rc[0]? = some (.slice A1 q c1) by rw [hrc, hq]; rfl)
  have IK := Lib.hid (info_keyW hk)
  obtain ⟨r, hr⟩ : ∃ r, r = unwrapL s k xs := ⟨_, rfl⟩
  rw [← hr]
  have RE := Lib.hid hr
  have Q1 := Lib.hid hq.symm
  have OKR := Lib.hid (show OkK r.1 by rw [hr]; exact ok_unwrapL _ _ _)
  have QB := Lib.hid (show q ≤ 1000 by omega)
  have b0 : (q : Int) ≤ 1000 := by omega
  clear h hmo hxs hk ht hc1 hvl hrv hA1 hxv hdv hrc hr hq hl
  go_enter Try.func12, Try.ntmps12
  go_upto_region 1 with fail
  rw [← ZK.out]
  generalize hM4 : Array.size (World.heap w) = M4
  generalize hwa : World.alloc w _ = wa
  have sa : wa.heap.size = M4 + 1 := by rw [← hwa, ha_size, hM4]
  have ra : wa.heap[M4]? = some (.cells rc 32 (0, 0)) := by rw [← hwa]; exact ha_new _ _ _ hM4.symm
  generalize hwb : World.alloc wa _ = wb
  have sb : wb.heap.size = M4 + 2 := by rw [← hwb, ha_size, sa]
  have rb : wb.heap[M4 + 1]? = some (.cells (W8 k) 35 (0, 0)) := by rw [← hwb]; exact ha_new _ _ _ sa.symm
  have ba : Below wa.heap.size wa wb := by rw [← hwb]; exact below_new _ _
  generalize hwc : World.alloc wb _ = w3
  have bb : Below wb.heap.size wb w3 := by rw [← hwc]; exact below_new _ _
  have R6 := Lib.hid (show w3.heap[M4 + 1 + 1]? = some (.cells (RowK kysZ).toArray 37 (0, 0)) by rw [← hwc]; exact ha_new _ _ _ sb.symm)
  have R5 := Lib.hid (below_block bb (row_lt rb) rb)
  have R4 := Lib.hid (below_block bb (row_lt (below_block ba (row_lt ra) ra)) (below_block ba (row_lt ra) ra))
  have B3 := Lib.hid (show Below w.heap.size w w3 from by
    have h1 : Below w.heap.size w wa := by rw [← hwa]; exact below_new _ _
    exact (h1.trans (ba.mono h1.size)).trans (bb.mono (h1.trans (ba.mono h1.size)).size))
  have ME := Lib.hid hM4
  have H3 := Lib.hid (H.out.keep B3.out)
  clear hwa sa ra hwb sb rb ba hwc bb hM4
  go_wp2_with fail
  refine (none_any w0 g S D b lo s w3 H3.out).mono ?_
  rintro e w4 ⟨rfl, hb⟩
  have B4 := Lib.hid hb
  clear hb
  have R44 := Lib.hid (below_block B4.out (row_lt R4.out) R4.out)
  go_upto_region 3 with fail
  refine wp_region_list ?_
  simp only [List.toList_toArray]
  refine wpList_val (v := ?_) (by rfl) ?_ ?_
  rotate_left
  · go_simp
    with_reducible rfl
  simp only [Act.put, List.setIfInBounds_toArray, List.set_cons_zero, List.set_cons_succ]
  refine wpList_val (by rfl) (run_cell 30 (.tmp 17) rfl _ Try.underlying30 rfl rfl (row_cell R44.out 0 R0.out)) ?_
  simp only [Act.put, List.setIfInBounds_toArray, List.set_cons_zero, List.set_cons_succ]
  refine wpList_val (v := ?_) (by rfl) ?_ ?_
  rotate_left
  · go_simp
    with_reducible rfl
  simp only [Act.put, List.setIfInBounds_toArray, List.set_cons_zero, List.set_cons_succ]
  refine wpList_val (v := ?_) (by rfl) ?_ ?_
  rotate_left
  · go_simp
    with_reducible rfl
  simp only [Act.put, List.setIfInBounds_toArray, List.set_cons_zero, List.set_cons_succ]
  go_wp2_with fail
  go_loopw [20] (fun i wr => ∃ j : Nat, j ≤ q ∧ i = .int .i64 (j : Int) ∧ r = unwrapL s k (xs.drop j) ∧ Below w3.heap.size w3 wr) (fun i _ => q - (intOf i).toNat)
  case atStart => exact ⟨0, Nat.zero_le _, rfl, RE.out, B4.out⟩
  case round =>
    obtain ⟨j, hj, rfl, hre, hb⟩ := hrel
    have J := Lib.hid hj
    have RJ := Lib.hid hre
    have BW := Lib.hid hb
    clear hj hre hb B4 R44
    obtain ⟨wp, rfl⟩ : ∃ wp : World, wp = wr := ⟨_, rfl⟩
    have BP := Lib.hid (show Below w.heap.size w wp from B3.out.trans (BW.out.mono B3.out.size))
    have R6P := Lib.hid (below_block BW.out (row_lt R6.out) R6.out)
    by_cases hlt : j < q
    · have hD : decide ((j : Int) < (q : Int)) = true := by simp; omega
      obtain ⟨x, hx⟩ : ∃ x, xs[j]? = some x := ⟨_, List.getElem?_eq_getElem (by rw [Q1.out]; exact hlt)⟩
      obtain ⟨u, hu, hsl⟩ := XV.out j x hx
      obtain ⟨Ax, cx, rfl, hcx, hrx, _⟩ := hsl
      obtain ⟨b1, o1, hA1, hcell⟩ := RV.out j _ hu
      obtain ⟨m, hm⟩ : ∃ m, m = x.length := ⟨_, rfl⟩
      rw [← hm] at hcell hcx
      have XM := Lib.hid (List.mem_of_getElem? hx)
      have UD := Lib.hid (unwrapL_drop (s := s) (k := k) hx)
      have CX := Lib.hid (cell_same hcell (BP.out.block b1 (cell_lt hcell)))
      have RX := Lib.hid (hrx.keep BP.out)
      have XC := Lib.hid hcx
      have XL := Lib.hid hm.symm
      have XB := Lib.hid (show m ≤ 70000 by rw [hm]; exact HXS.out x XM.out)
      have AE := Lib.hid hA1
      have JQ := Lib.hid hlt
      have jb : (j : Int) ≤ 999 := by have := QB.out; omega
      have R5P := Lib.hid (below_block BW.out (row_lt R5.out) R5.out)
      clear hx hu hcx hrx hA1 hcell hm hlt
      go_upto_region 5 with fail
      refine wp_region_list ?_
      simp only [List.toList_toArray]
      refine wpList_val (by rfl) (run_iaddr_slk 30 (.tmp 18) (.tmp 20) rfl 22 Try.underlying30 1 (by kernel_rfl) b1 o1 q c1 j JQ.out .i64 _ rfl (by rw [← AE.out]; rfl) rfl _) ?_
      simp only [Act.put, List.setIfInBounds_toArray, List.set_cons_zero, List.set_cons_succ]
      refine wpList_val (by rfl) (run_cell 22 (.tmp 22) rfl _ Try.underlying22 rfl rfl (by rw [Nat.mul_one]; exact CX.out)) ?_
      simp only [Act.put, List.setIfInBounds_toArray, List.set_cons_zero, List.set_cons_succ]
      go_upto_region 6 with fail
      refine wp_region_list ?_
      simp only [List.toList_toArray]
      refine wpList_val (v := ?_) (by rfl) ?_ ?_
      rotate_left
      · go_simp
        with_reducible rfl
      simp only [Act.put, List.setIfInBounds_toArray, List.set_cons_zero, List.set_cons_succ]
      refine wpList_val (by rfl) (run_load_row 35 (.tmp 5) rfl (M4 + 1) rfl 35 (W8 k) (0, 0) _ R5P.out Try.underlying35 rfl IK.out) ?_
      simp only [Act.put, List.setIfInBounds_toArray, List.set_cons_zero, List.set_cons_succ]
      refine wpList_op (by rfl) (fun K hK => ?_)
      refine wp_wrap rfl ?_
      generalize hB : Array.size (World.heap wp) = N4
      generalize hw : World.alloc wp _ = w9
      have B9 := Lib.hid (show Below wp.heap.size wp w9 by rw [← hw]; exact below_new _ _)
      have R9 := Lib.hid (show w9.heap[N4]? = some (.cells (W8 wrapB) 5 (0, 0)) by rw [← hw]; exact ha_new _ _ _ hB.symm)
      have N4E := Lib.hid hB
      clear hB hw
      refine hK.out _ _ ?_
      clear hK K
      simp only [Act.put, List.setIfInBounds_toArray, List.set_cons_zero, List.set_cons_succ]
      refine wpList_op (by rfl) (fun K hK => ?_)
      refine wp_cv (.tmp 27) rfl R9.out rfl ?_
      intro w10 hr10 hg10 _
      have B10 := Lib.hid (show Below wp.heap.size wp w10 from grown_below_on B9.out hg10 (by rw [N4E.out]; exact Nat.le_refl _))
      have R10 := Lib.hid (show RdB w10 (some ⟨N4, 0, none⟩) wrapB from RdB.row hr10)
      clear hr10 hg10 R9 B9
      refine hK.out _ _ ?_
      clear hK K
      simp only [Act.put, List.setIfInBounds_toArray, List.set_cons_zero, List.set_cons_succ]
      refine wpList_val (v := ?_) (by rfl) ?_ ?_
      rotate_left
      · go_simp
        with_reducible rfl
      simp only [Act.put, List.setIfInBounds_toArray, List.set_cons_zero, List.set_cons_succ]
      refine wpList_op (by rfl) (fun K hK => ?_)
      go_simp
      refine (bopen_both w0 g S D b lo s w10 ((H.out.keep BP.out).keep B10.out) HMO.out k wrapB x HK.out (some ⟨N4, 0, none⟩) 4 4 rfl R10.out (by omega) Ax m cx XL.out XC.out (RX.out.keep B10.out) XB.out HT.out).mono ?_
      rcases hop : openS s k wrapB x with _ | t
      · have RN := Lib.hid (show r = unwrapL s k (xs.drop (j + 1)) by have h1 := UD.out; rw [hop] at h1; rw [RJ.out, h1])
        clear hop
        rintro e w11 hop
        obtain ⟨rfl, hb⟩ := OpenP.no hop
        have BN := Lib.hid (show Below w3.heap.size w3 w11 from BW.out.trans ((B10.out.trans (hb.mono B10.out.size)).mono BW.out.size))
        clear hop hb
        refine hK.out _ _ ?_
        clear hK K
        go_wp2_with fail
        go_roundw
        case rel => exact ⟨j + 1, by have := JQ.out; omega, by go_num, RN.out, BN.out⟩
        case measure => have := JQ.out; simp [intOf]; omega
      · have UT := Lib.hid (show r = if learnB t then (learnK t, 0) else unwrapL s k (xs.drop (j + 1)) by have h1 := UD.out; rw [hop] at h1; rw [RJ.out, h1])
        have TLEN := Lib.hid (openS_len hop (by rw [XL.out]; exact XB.out) HT.out HMO.out)
        clear hop
        rintro e w11 hop
        obtain ⟨⟨vt, rfl, ho⟩, hb⟩ := OpenP.yes hop
        obtain ⟨At, ct, rfl, hrt, _, _, _⟩ := ho.read
        have RT := Lib.hid hrt
        have BN := Lib.hid (show Below w3.heap.size w3 w11 from BW.out.trans ((B10.out.trans (hb.mono B10.out.size)).mono BW.out.size))
        obtain ⟨nt, hnt⟩ : ∃ nt, nt = t.length := ⟨_, rfl⟩
        rw [← hnt]
        have NT := Lib.hid hnt.symm
        clear hop ho hb hrt hnt
        refine hK.out _ _ ?_
        clear hK K
        go_upto_region 8 with fail
        refine wp_region_list ?_
        simp only [List.toList_toArray]
        refine wpList_val (v := ?_) (by rfl) ?_ ?_
        rotate_left
        · go_simp
          with_reducible rfl
        simp only [Act.put, List.setIfInBounds_toArray, List.set_cons_zero, List.set_cons_succ]
        refine wpList_op (by rfl) (fun K hK => ?_)
        go_simp
        refine (learn_any w11 At nt ct t NT.out RT.out (by have := TLEN.out; have := NT.out; omega)).mono ?_
        rintro e w12 ⟨rfl, hb⟩
        have B12 := Lib.hid (show Below w3.heap.size w3 w12 from BN.out.trans (hb.mono BN.out.size))
        obtain ⟨y, hy⟩ : ∃ y, y = learnK t := ⟨_, rfl⟩
        obtain ⟨lb, hlb⟩ : ∃ lb, lb = learnB t := ⟨_, rfl⟩
        rw [← hy, ← hlb] at UT ⊢
        have OY := Lib.hid (show OkK y by rw [hy]; exact ok_learnK t)
        clear hb hy hlb
        refine hK.out _ _ ?_
        clear hK K
        rcases lb with _ | _
        · have RN := Lib.hid (show r = unwrapL s k (xs.drop (j + 1)) by rw [UT.out]; rfl)
          go_upto_region 9 with (refine wpList_store_new rfl rfl 37 (.tmp 12) (.tmp 38) rfl (RowK y).toArray rfl rfl (info_kysC _ OY.out) (by rw [← ZK.out, sizeK _ ok_kysZ, sizeK _ OY.out]) (rowK_one _) ?_)
          generalize hw13 : World.alloc w12 _ = w13
          have BE := Lib.hid (show Below w3.heap.size w3 w13 by rw [← hw13]; exact B12.out.alloc B12.out.size _)
          clear hw13
          go_wp2_with fail
          go_roundw
          case rel => exact ⟨j + 1, by have := JQ.out; omega, by go_num, RN.out, BE.out⟩
          case measure => have := JQ.out; simp [intOf]; omega
        · have RN := Lib.hid (show r = (y, 0) by rw [UT.out]; rfl)
          go_upto_region 9 with (refine wpList_store_new rfl rfl 37 (.tmp 12) (.tmp 38) rfl (RowK y).toArray rfl rfl (info_kysC _ OY.out) (by rw [← ZK.out, sizeK _ ok_kysZ, sizeK _ OY.out]) (rowK_one _) ?_)
          generalize hM12 : Array.size (World.heap w12) = M12
          generalize hw13 : World.alloc w12 _ = w13
          have BE := Lib.hid (show Below w3.heap.size w3 w13 by rw [← hw13]; exact B12.out.alloc B12.out.size _)
          have R12 := Lib.hid (show w13.heap[M12]? = some (.cells (RowK y).toArray 37 (0, 0)) by rw [← hw13]; exact ha_new _ _ _ hM12.symm)
          have R6E := Lib.hid (below_block BE.out (row_lt R6.out) R6.out)
          clear hM12 hw13
          go_upto_region 10 with fail
          refine wp_region_list ?_
          simp only [List.toList_toArray]
          refine wpList_val (by rfl) (run_load_row 37 (.tmp 12) rfl M12 rfl 37 (RowK y).toArray (0, 0) _ R12.out Try.underlying37 rfl (info_kysC _ OY.out)) ?_
          simp only [Act.put, List.setIfInBounds_toArray, List.set_cons_zero, List.set_cons_succ]
          refine wpList_store_whole rfl rfl 37 (.tmp 6) (.tmp 41) rfl (M4 + 1 + 1) (RowK y).toArray rfl rfl 37 _ R6E.out (info_kysC _ OY.out) (by rw [sizeK _ ok_kysZ, sizeK _ OY.out]) (rowK_one _) ?_
          intro w14 hr14 hg14 _
          have Z14 := Lib.hid hr14
          have BF := Lib.hid (grown_below_on (B3.out.trans (BE.out.mono B3.out.size)) hg14 (by rw [ME.out]; omega))
          clear hr14 hg14
          go_wp2_with fail
          exact ret_cell (M4 + 1 + 1) 37 (RowK y).toArray _ rfl rfl rfl rfl Z14.out Try.underlying37 rfl (info_kysC _ OY.out) ⟨by rw [RN.out]; rfl, BF.out⟩
    · have hD : decide ((j : Int) < (q : Int)) = false := by simp; omega
      have RN := Lib.hid (show r = (kysZ, 13) by rw [RJ.out, List.drop_of_length_le (by rw [Q1.out]; omega)]; rfl)
      go_upto_region 12 with fail
      refine wp_region_list ?_
      simp only [List.toList_toArray]
      refine wpList_val (by rfl) (run_zeroK rfl _) ?_
      simp only [Act.put, List.setIfInBounds_toArray, List.set_cons_zero, List.set_cons_succ]
      refine wpList_store_whole rfl rfl 37 (.tmp 6) (.tmp 43) rfl (M4 + 1 + 1) (RowK kysZ).toArray rfl rfl 37 _ R6P.out (info_kysC _ ok_kysZ) rfl (rowK_one _) ?_
      intro w14 hr14 hg14 _
      have Z14 := Lib.hid hr14
      have BF := Lib.hid (grown_below_on BP.out hg14 (by rw [ME.out]; omega))
      clear hr14 hg14
      go_wp2_with fail
      exact ret_cell (M4 + 1 + 1) 37 (RowK kysZ).toArray _ rfl rfl rfl rfl Z14.out Try.underlying37 rfl (info_kysC _ ok_kysZ) ⟨by rw [RN.out]; rfl, BF.out⟩
end Go.Proofs.Ytlocplkjokoknaa

/- A number that is laid is read: plain. No condition but those each theorem states. -/
namespace Go.Proofs.Ytlocplkjokoknaa
set_option linter.unusedVariables false
set_option linter.unusedSimpArgs false
open Go.RowKit

theorem beVal_foldl (k x : Nat) : ∀ v, (beL k x).foldl (fun v c => v * 256 + c.toNat) v = v * 2 ^ (8 * k) + x % 2 ^ (8 * k) := by
  induction k with
  | zero => intro v; simp [beL, Nat.mod_one]
  | succ k ih =>
    intro v
    rw [beL, List.foldl_cons, ih, show 8 * (k + 1) = 8 * k + 8 by omega, Nat.pow_add]
    have h1 : (UInt8.ofNat (x / 2 ^ (8 * k))).toNat = (x / 2 ^ (8 * k)) % 256 := by simp
    rw [h1, Nat.mod_mul]
    generalize 2 ^ (8 * k) = p
    generalize x / p % (2 ^ 8) = q
    generalize x % p = r
    have e : (2 : Nat) ^ 8 = 256 := by decide
    rw [e]
    rw [Nat.add_mul, Nat.mul_assoc, Nat.mul_comm 256 p, Nat.mul_comm q p]
    omega
theorem beVal_beL (k x : Nat) : beVal (beL k x) = x % 2 ^ (8 * k) := by
  have := beVal_foldl k x 0
  simpa [beVal] using this
theorem takeS_all (l more : List UInt8) (n : Nat) (h0 : 0 < n) (hn : l.length = n) : takeS ⟨l ++ more, 0⟩ (n : Int) = (⟨more, 0⟩, l, true) := by
  unfold takeS
  rw [if_neg (by simp; omega), if_neg (by simp; omega)]
  simp [← hn]
theorem takeS_short (l : List UInt8) (n : Nat) (h0 : 0 < n) (hn : l.length < n) : takeS ⟨l, 0⟩ (n : Int) = (⟨[], 10⟩, [], false) := by
  unfold takeS
  rw [if_neg (by simp; omega), if_pos (by simp; omega)]
/-- A number that was laid in so many bytes. -/
theorem numS_beL (x : Nat) (n : Nat) (h0 : 0 < n) (h8 : n ≤ 8) (more : List UInt8) : numS ⟨beL n x ++ more, 0⟩ (n : Int) = (⟨more, 0⟩, x % 2 ^ (8 * n)) := by
  unfold numS
  rw [show min (n : Int) 8 = (n : Int) by omega, takeS_all _ _ _ h0 (beL_length _ _), beVal_beL]
end Go.Proofs.Ytlocplkjokoknaa

/- A ring in the mode Ideal, over a source that tells no window twice: plain. No condition but those each theorem states. -/
namespace Go.Proofs.Ytlocplkjokoknaa
set_option linter.unusedVariables false
set_option linter.unusedSimpArgs false
open Go.RowKit

/-- What is learned of a text that was wrapped. -/
def seenK (y : Kys) (o : Bool) : Kys := ⟨y.e, y.k, if o then y.o else z32, o⟩
theorem learnK_text {y : Kys} (hy : OkK y) (o : Bool) : learnK (textL y o) = seenK y o := by
  have e0 : textL y o = beL 8 y.e.toNat ++ (y.k ++ ([if o then 1 else 0] ++ (if o then y.o else z32))) := by simp [textL, List.append_assoc]
  have ho : (if o then y.o else z32).length = 32 := by cases o <;> simp [hy.2, z32]
  have h1 : learn1 (textL y o) = (⟨y.k ++ ([if o then 1 else 0] ++ (if o then y.o else z32)), 0⟩, y.e.toNat) := by
    rw [learn1, e0]
    have := numS_beL y.e.toNat 8 (by omega) (by omega) (y.k ++ ([if o then 1 else 0] ++ (if o then y.o else z32)))
    rw [show ((8 : Nat) : Int) = 8 from rfl] at this
    rw [this, Nat.mod_eq_of_lt (by have := y.e.toNat_lt; simpa using this)]
  have h2 : learn2 (textL y o) = (⟨[if o then 1 else 0] ++ (if o then y.o else z32), 0⟩, y.k, true) := by
    rw [learn2, h1]
    have := takeS_all y.k ([if o then 1 else 0] ++ (if o then y.o else z32)) 32 (by omega) hy.1
    rw [show ((32 : Nat) : Int) = 32 from rfl] at this
    exact this
  have h3 : learn3 (textL y o) = (⟨if o then y.o else z32, 0⟩, if o then 1 else 0) := by
    rw [learn3, h2, numS]
    have := takeS_all [if o then 1 else 0] (if o then y.o else z32) 1 (by omega) rfl
    rw [show ((1 : Nat) : Int) = 1 from rfl] at this
    rw [show min (1 : Int) 8 = 1 from rfl]
    show ((takeS ⟨[if o then 1 else 0] ++ (if o then y.o else z32), 0⟩ 1).1, beVal (takeS ⟨[if o then 1 else 0] ++ (if o then y.o else z32), 0⟩ 1).2.1) = _
    rw [this]
    cases o <;> rfl
  have h4 : learn4 (textL y o) = (⟨[], 0⟩, (if o then y.o else z32), true) := by
    rw [learn4, h3]
    have := takeS_all (if o then y.o else z32) [] 32 (by omega) ho
    rw [show ((32 : Nat) : Int) = 32 from rfl, List.append_nil] at this
    exact this
  rw [learnK, h1, h2, h3, h4, seenK]
  show (⟨UInt64.ofNat y.e.toNat, fitK y.k, fitK (if o then y.o else z32), decide ((if o then 1 else 0) = 1)⟩ : Kys) = _
  rw [fitK_full hy.1, fitK_full ho, UInt64.ofNat_toNat]
  cases o <;> rfl
theorem learnB_text {y : Kys} (hy : OkK y) (o : Bool) : learnB (textL y o) = true := by
  rw [learnB, learnK_text hy]
  apply decide_eq_true
  cases o <;> rfl
theorem learnB_full : learnB fullL = false := by decide +kernel
/-- The entry of a wrap. -/
def entI (y : Kys) (l : List Mem) (i : Nat) (e : Ent) : Prop :=
  match l[i]? with
  | some z => e = ⟨z.k, wrapB, textL y z.o⟩
  | none => e.beside = wrapB ∧ e.text = fullL
theorem entAt_entI (y : Kys) (l : List Mem) (i : Nat) (s : BSt) : entI y l i (entAt y l i s).2 := by
  unfold entI entAt
  cases l[i]? with
  | some z => rfl
  | none => exact ⟨rfl, rfl⟩
theorem seal_ideal {N : Nat} {s s' : BSt} {e : Ent} {r : Option (List UInt8)} (hs : SealR s e s' r) (hm : s.mode = 1) (ho : OnceS s.F N) (hw : WinB s) (hN : s.u + (e.text.length + 28) ≤ N) :
    ∃ x, r = some x ∧ x.length = e.text.length + 28 ∧ lookM s'.m x = some e ∧ (∀ e' x', lookM s.m x' = some e' → lookM s'.m x' = some e') ∧ WinB s' ∧ s'.u ≤ s.u + (e.text.length + 28) ∧ s'.mode = 1 ∧ s'.F = s.F := by
  obtain ⟨x, h1, h2, h3, h4, h5, h6⟩ := seal_good hs ho (fun _ => hw) hN
  have h7 := hs.mode
  have hm' : s'.mode = 1 := h7.1.trans hm
  refine ⟨x, h1, h2, ?_, fun e' x' hx => ?_, h5 hm', h6, hm', h7.2.1⟩
  · rcases h3 with ⟨h, _⟩ | ⟨_, h⟩
    · omega
    · exact h
  · rcases h4 e' x' (.inr ⟨hm, hx⟩) with ⟨h, _⟩ | ⟨_, h⟩
    · omega
    · exact h
/-- What a ring's wraps are. -/
structure RgI (y : Kys) (l : List Mem) (s : BSt) (xs : List (List UInt8)) (n : Nat) : Prop where
  len : xs.length = n
  each : ∀ (i : Nat) (x : List UInt8), xs[i]? = some x → x.length = 101 ∧ ∃ e, lookM s.m x = some e ∧ entI y l i e
theorem win_u {s : BSt} (h : WinB s) (u : Nat) (hu : s.u ≤ u) : WinB { s with u := u } := fun p hp => by
  obtain ⟨v, h1, h2, h3⟩ := h p hp
  exact ⟨v, h1, Nat.le_trans h2 hu, h3⟩
theorem wraps_ideal {N : Nat} {y : Kys} (hy : OkK y) {l : List Mem} {s : BSt} (hm : s.mode = 1) (ho : OnceS s.F N) (hw : WinB s) {n : Nat} {s1 : BSt} {xs : List (List UInt8)} (h : WrapsR y l s n s1 xs) (hN : s.u + n * 133 ≤ N) :
    RgI y l s1 xs n ∧ WinB s1 ∧ s1.u ≤ s.u + n * 133 ∧ s1.mode = 1 ∧ s1.F = s.F ∧ (∀ e' x', lookM s.m x' = some e' → lookM s1.m x' = some e') := by
  induction h with
  | zero => exact ⟨⟨rfl, fun i x hx => by simp at hx⟩, hw, by omega, hm, rfl, fun _ _ h => h⟩
  | @succ i sa sb xs x hwr hse ih =>
    obtain ⟨h1, h2, h3, h4, h5, h6⟩ := ih (by omega)
    obtain ⟨k1, k2, k3, k4, k5⟩ := @entAt_state y l i sa
    have hx : (entAt y l i sa).1 = { sa with u := (entAt y l i sa).1.u } := by
      unfold entAt
      split <;> rfl
    have hu : sa.u ≤ (entAt y l i sa).1.u := by
      unfold entAt
      split <;> simp
    have hw1 : WinB (entAt y l i sa).1 := by rw [hx]; exact win_u h2 _ hu
    obtain ⟨x', e1, e2, e3, e4, e5, e6, e7, e8⟩ := seal_ideal hse (by rw [k1]; exact h4) (by rw [k2, h5]; exact ho) hw1 (by rw [entAt_text hy]; omega)
    rw [entAt_text hy] at e2 e6
    injection e1 with e1
    subst e1
    refine ⟨⟨by simp [h1.len], fun j z hj => ?_⟩, e5, by omega, e7, by rw [e8, k2, h5], fun e' x' h => e4 e' x' (by rw [k5]; exact h6 e' x' h)⟩
    rcases Nat.lt_or_ge j xs.length with hjl | hjl
    · rw [List.getElem?_append_left hjl] at hj
      obtain ⟨q1, e, q2, q3⟩ := h1.each j z hj
      exact ⟨q1, e, e4 _ _ (by rw [k5]; exact q2), q3⟩
    · have hje : j = xs.length := by
        have := (List.getElem?_eq_some_iff.1 hj).1
        simp at this
        omega
      subst hje
      rw [List.getElem?_append_right (Nat.le_refl _), Nat.sub_self] at hj
      simp only [List.getElem?_cons_zero, Option.some.injEq] at hj
      subst hj
      exact ⟨e2, _, e3, by rw [h1.len]; exact entAt_entI y l i sa⟩
/-- A ring made. -/
theorem ring_ideal {N : Nat} {y : Kys} (hy : OkK y) {l : List Mem} (hl : ∀ z ∈ l, OkM z) (h8 : l.length ≤ 8) {s s' : BSt} (hm : s.mode = 1) (ho : OnceS s.F N) (hw : WinB s) {r : Option (List (List UInt8) × List UInt8)} (h : WrapR y l s s' r) (hN : s.u + 1365 ≤ N) :
    ∃ xs d, r = some (xs, d) ∧ RgI y l s' xs 8 ∧ lookM s'.m d = some (dirE y l) ∧ d.length = 301 ∧ WinB s' ∧ s'.u ≤ s.u + 1365 ∧ s'.mode = 1 ∧ s'.F = s.F ∧ (∀ e' x', lookM s.m x' = some e' → lookM s'.m x' = some e') := by
  have hd : (dirE y l).text.length = 273 := dirL_length hl h8
  rcases h with ⟨i, s1, xs, hi, hwr, hse, rfl⟩ | ⟨s1, xs, hwr, hse, rfl⟩ | ⟨s1, xs, d, hwr, hse, rfl⟩
  · exfalso
    obtain ⟨h1, h2, h3, h4, h5, h6⟩ := wraps_ideal hy hm ho hw hwr (by omega)
    obtain ⟨k1, k2, k3, k4, k5⟩ := @entAt_state y l i s1
    have hx : (entAt y l i s1).1 = { s1 with u := (entAt y l i s1).1.u } := by
      unfold entAt
      split <;> rfl
    have hu : s1.u ≤ (entAt y l i s1).1.u := by
      unfold entAt
      split <;> simp
    have hw1 : WinB (entAt y l i s1).1 := by rw [hx]; exact win_u h2 _ hu
    obtain ⟨x', e1, _⟩ := seal_ideal hse (by rw [k1]; exact h4) (by rw [k2, h5]; exact ho) hw1 (by rw [entAt_text hy]; omega)
    cases e1
  · exfalso
    obtain ⟨h1, h2, h3, h4, h5, h6⟩ := wraps_ideal hy hm ho hw hwr (by omega)
    obtain ⟨x', e1, _⟩ := seal_ideal hse h4 (by rw [h5]; exact ho) h2 (by rw [hd]; omega)
    cases e1
  · obtain ⟨h1, h2, h3, h4, h5, h6⟩ := wraps_ideal hy hm ho hw hwr (by omega)
    obtain ⟨x', e1, e2, e3, e4, e5, e6, e7, e8⟩ := seal_ideal hse h4 (by rw [h5]; exact ho) h2 (by rw [hd]; omega)
    injection e1 with e1
    subst e1
    rw [hd] at e2 e6
    refine ⟨xs, d, rfl, ⟨h1.len, fun i x hx => ?_⟩, e3, e2, e5, by omega, e7, by rw [e8, h5], fun e' x' h => e4 e' x' (h6 e' x' h)⟩
    obtain ⟨q1, e, q2, q3⟩ := h1.each i x hx
    exact ⟨q1, e, e4 _ _ q2, q3⟩
theorem RgI.more {y : Kys} {l : List Mem} {s s' : BSt} {xs : List (List UInt8)} {n : Nat} (h : RgI y l s xs n) (hm : ∀ e' x', lookM s.m x' = some e' → lookM s'.m x' = some e') : RgI y l s' xs n :=
  ⟨h.len, fun i x hx => by
    obtain ⟨q1, e, q2, q3⟩ := h.each i x hx
    exact ⟨q1, e, hm _ _ q2, q3⟩⟩
/-- From the i-th wrap on: a key that is no member's from there learns nothing. -/
theorem unwrap_none {y : Kys} {l : List Mem} {s : BSt} {xs : List (List UInt8)} {n : Nat} (h : RgI y l s xs n) (hm : s.mode = 1) (k : List UInt8) (i : Nat) (hk : ∀ j z, i ≤ j → l[j]? = some z → z.k ≠ k) : unwrapL s k (xs.drop i) = (kysZ, 13) := by
  have key : ∀ q i, n - i = q → (∀ j z, i ≤ j → l[j]? = some z → z.k ≠ k) → unwrapL s k (xs.drop i) = (kysZ, 13) := by
    intro q
    induction q with
    | zero =>
      intro i hi _
      rw [List.drop_of_length_le (by rw [h.len]; omega)]
      rfl
    | succ q ih =>
      intro i hi hk
      obtain ⟨x, hx⟩ : ∃ x, xs[i]? = some x := ⟨_, List.getElem?_eq_getElem (by rw [h.len]; omega)⟩
      have hr := ih (i + 1) (by omega) (fun j z hj => hk j z (by omega))
      obtain ⟨_, e, h1, h2⟩ := h.each i x hx
      rw [unwrapL_drop hx, hr]
      have ho : openS s k wrapB x = if e.key = k ∧ e.beside = wrapB then some e.text else none := by rw [openS, if_neg (by omega), h1]
      rw [ho]
      unfold entI at h2
      split at h2
      · rename_i z hz
        rw [if_neg (fun hh => hk i z (Nat.le_refl _) hz (by rw [← hh.1, h2]))]
      · by_cases hh : e.key = k ∧ e.beside = wrapB
        · rw [if_pos hh, h2.2]
          simp only
          rw [learnB_full]
          rfl
        · rw [if_neg hh]
  exact key _ i rfl hk
/-- A member's key learns what was wrapped for it. -/
theorem unwrap_mem {y : Kys} (hy : OkK y) {l : List Mem} {s : BSt} {xs : List (List UInt8)} {n : Nat} (h : RgI y l s xs n) (hm : s.mode = 1) (j : Nat) (hj : j < n) (z : Mem) (hz : l[j]? = some z) (hd : ∀ i z', i < j → l[i]? = some z' → z'.k ≠ z.k) : unwrapL s z.k xs = (seenK y z.o, 0) := by
  have key : ∀ q i, j - i = q → i ≤ j → unwrapL s z.k (xs.drop i) = (seenK y z.o, 0) := by
    intro q
    induction q with
    | zero =>
      intro i hi hij
      obtain rfl : i = j := by omega
      obtain ⟨x, hx⟩ : ∃ x, xs[i]? = some x := ⟨_, List.getElem?_eq_getElem (by rw [h.len]; exact hj)⟩
      obtain ⟨_, e, h1, h2⟩ := h.each i x hx
      unfold entI at h2
      rw [hz] at h2
      have h2 : e = ⟨z.k, wrapB, textL y z.o⟩ := h2
      have ho : openS s z.k wrapB x = some (textL y z.o) := by rw [openS, if_neg (by omega), h1, h2]; simp
      rw [unwrapL_drop hx, ho]
      simp only
      rw [learnB_text hy, learnK_text hy]
      rfl
    | succ q ih =>
      intro i hi hij
      obtain ⟨x, hx⟩ : ∃ x, xs[i]? = some x := ⟨_, List.getElem?_eq_getElem (by rw [h.len]; omega)⟩
      obtain ⟨_, e, h1, h2⟩ := h.each i x hx
      have hl : i < l.length := by have := (List.getElem?_eq_some_iff.1 hz).1; omega
      unfold entI at h2
      rw [List.getElem?_eq_getElem hl] at h2
      have h2 : e = ⟨l[i].k, wrapB, textL y l[i].o⟩ := h2
      have hne := hd i _ (by omega) (List.getElem?_eq_getElem hl)
      have ho : openS s z.k wrapB x = none := by
        rw [openS, if_neg (by omega), h1, h2]
        simp only
        rw [if_neg (fun hh => hne hh.1)]
      rw [unwrapL_drop hx, ho]
      exact ih (i + 1) (by omega) (by omega)
  have := key j 0 (by omega) (by omega)
  rwa [List.drop_zero] at this
/-- No two members of a ring have one key. -/
theorem check_keys {l : List Mem} (h : checkL l = true) (i j : Nat) (z z' : Mem) (hij : i < j) (hi : l[i]? = some z') (hj : l[j]? = some z) : z'.k ≠ z.k ∧ z'.n ≠ z.n := by
  simp only [checkL, Bool.and_eq_true] at h
  have h1 := h.2
  simp only [okFrom, List.all_eq_true, List.mem_range, Bool.or_eq_true, decide_eq_true_eq] at h1
  have h2 := h1 j (List.getElem?_eq_some_iff.1 hj).1
  rw [hj] at h2
  simp only [okAt, Bool.and_eq_true, Bool.not_eq_true', List.any_eq_false] at h2
  have h3 : okAt l j z = true := by
    rcases h2 with h2 | h2
    · omega
    · simpa [okAt] using h2
  simp only [okAt, Bool.and_eq_true, Bool.not_eq_true', List.any_eq_false] at h3
  have h4 := h3.2 z' (List.mem_of_getElem? (by rw [List.getElem?_take, if_pos hij, hi]))
  simp only [sameM, Bool.or_eq_true, decide_eq_true_eq, not_or] at h4
  exact ⟨h4.2, h4.1⟩
theorem wraps_texts {y : Kys} (hy : OkK y) {l : List Mem} {s : BSt} {n : Nat} (hn : 273 ≤ n) (h0 : ∀ p ∈ s.m, s.mode = 1 → p.2.text.length ≤ n) {i : Nat} {s1 : BSt} {xs : List (List UInt8)} (h : WrapsR y l s i s1 xs) : ∀ p ∈ s1.m, s1.mode = 1 → p.2.text.length ≤ n := by
  induction h with
  | zero => exact h0
  | @succ i sa sb xs x _ hse ih =>
    obtain ⟨k1, _, _, _, k5⟩ := @entAt_state y l i sa
    exact sealR_texts hse n (by rw [k1, k5]; exact ih) (by rw [entAt_text hy]; omega)
theorem wrap_texts {y : Kys} (hy : OkK y) {l : List Mem} (hl : ∀ z ∈ l, OkM z) (h8 : l.length ≤ 8) {s s' : BSt} {n : Nat} (hn : 273 ≤ n) (h0 : ∀ p ∈ s.m, s.mode = 1 → p.2.text.length ≤ n) {r : Option (List (List UInt8) × List UInt8)} (h : WrapR y l s s' r) : ∀ p ∈ s'.m, s'.mode = 1 → p.2.text.length ≤ n := by
  have hd : (dirE y l).text.length ≤ n := by rw [show (dirE y l).text = dirL l from rfl, dirL_length hl h8]; exact hn
  rcases h with ⟨i, s1, xs, hi, hwr, hse, rfl⟩ | ⟨s1, xs, hwr, hse, rfl⟩ | ⟨s1, xs, d, hwr, hse, rfl⟩
  · obtain ⟨k1, _, _, _, k5⟩ := @entAt_state y l i s1
    exact sealR_texts hse n (by rw [k1, k5]; exact wraps_texts hy hn h0 hwr) (by rw [entAt_text hy]; omega)
  · exact sealR_texts hse n (wraps_texts hy hn h0 hwr) hd
  · exact sealR_texts hse n (wraps_texts hy hn h0 hwr) hd
/-- What wrap leaves of a box. -/
theorem wrap_bounds {y : Kys} (hy : OkK y) {l : List Mem} (hl : ∀ z ∈ l, OkM z) (h8 : l.length ≤ 8) {s s' : BSt} {r : Option (List (List UInt8) × List UInt8)} (h : WrapR y l s s' r) : s'.mode = s.mode ∧ s'.F = s.F ∧ s'.u ≤ s.u + 9200 ∧ s'.n ≤ s.n + 9 ∧ s'.m.length ≤ s.m.length + 9 := by
  have hd : (dirE y l).text.length = 273 := dirL_length hl h8
  rcases h with ⟨i, s1, xs, hi, hwr, hse, rfl⟩ | ⟨s1, xs, hwr, hse, rfl⟩ | ⟨s1, xs, d, hwr, hse, rfl⟩
  · obtain ⟨k1, k2, k3, k4, k5⟩ := @entAt_state y l i s1
    obtain ⟨b1, b2, b3, b4, b5⟩ := hwr.bounds hy
    obtain ⟨c1, c2, c3, c4, c5⟩ := hse.mode
    rw [entAt_text hy] at c3
    rw [k1] at c1
    rw [k2] at c2
    rw [k5] at c5
    exact ⟨c1.trans b1, c2.trans b2, by omega, by omega, by omega⟩
  · obtain ⟨b1, b2, b3, b4, b5⟩ := hwr.bounds hy
    obtain ⟨c1, c2, c3, c4, c5⟩ := hse.mode
    rw [hd] at c3
    exact ⟨c1.trans b1, c2.trans b2, by omega, by omega, by omega⟩
  · obtain ⟨b1, b2, b3, b4, b5⟩ := hwr.bounds hy
    obtain ⟨c1, c2, c3, c4, c5⟩ := hse.mode
    rw [hd] at c3
    exact ⟨c1.trans b1, c2.trans b2, by omega, by omega, by omega⟩
end Go.Proofs.Ytlocplkjokoknaa

/- Two keys of a ring are told to be the same just if they are. No condition but those each theorem states. -/
namespace Go.Proofs.Ytlocplkjokoknaa
set_option linter.unusedVariables false
set_option linter.unusedSimpArgs false
open Go.RowKit

theorem eq_kysD (y y' : Kys) (hy : OkK y) (hy' : OkK y') (W : World) (dd : Nat) :
    (Op.equalIn (dd + 3) 37 (.agg (RowK y).toArray) (.agg (RowK y').toArray)).run Try.prog W = .ok (decide (y.e = y'.e ∧ y.k = y'.k ∧ y.o = y'.o ∧ y.w = y'.w)) W := by
  have hfs : (Try.prog.fieldsOf 37).toList.map (fun f => (f.name == "_", f.type, f.offset)) = [(false, 33, 0), (false, 35, 1), (false, 35, 33), (false, 4, 65)] := by kernel_rfl
  have ht : Try.prog.underlying 37 = some (.struct (Try.prog.fieldsOf 37)) := by kernel_rfl
  have hp : Try.prog.stoodInHeld 37 = false := by kernel_rfl
  rw [run_equalIn_struct W (dd + 2) _ _ _ ht hp]
  clear ht hp
  generalize (Try.prog.fieldsOf 37).toList = fs at hfs
  obtain ⟨f1, f2, f3, f4, rfl⟩ : ∃ f1 f2 f3 f4, fs = [f1, f2, f3, f4] := by
    rcases fs with _ | ⟨f1, _ | ⟨f2, _ | ⟨f3, _ | ⟨f4, _ | ⟨f5, fs⟩⟩⟩⟩⟩ <;> simp at hfs
    exact ⟨f1, f2, f3, f4, rfl⟩
  simp only [List.map_cons, List.map_nil, List.cons.injEq, Prod.mk.injEq, and_true] at hfs
  obtain ⟨⟨n1, t1, o1⟩, ⟨n2, t2, o2⟩, ⟨n3, t3, o3⟩, n4, t4, o4⟩ := hfs
  have n1 : f1.name ≠ "_" := by simpa using n1
  have n2 : f2.name ≠ "_" := by simpa using n2
  have n3 : f3.name ≠ "_" := by simpa using n3
  have n4 : f4.name ≠ "_" := by simpa using n4
  have hsz : (Try.prog.info? 35).map (·.size) = some 32 := by kernel_rfl
  obtain ⟨i, hi, hsz⟩ := Option.map_eq_some_iff.1 hsz
  have p1 : ∀ y : Kys, (part 33 (RowK y).toArray 0).run Try.prog W = .ok (.int .u64 (y.e.toNat : Int)) W := by
    intro y
    have hc : (RowK y).toArray[0]? = some (.int .u64 (y.e.toNat : Int)) := rfl
    simp only [part, isAgg, Sem.run_bind, run_underlying Try.underlying33, Result.andThen_ok, Sem.run_pure, hc]
    simp
  have p2 : ∀ y : Kys, OkK y → (part 35 (RowK y).toArray 1).run Try.prog W = .ok (.agg (W8 y.k)) W := by
    intro y hy
    have e1 : (List.take 32 (RowK y).tail).toArray = W8 y.k := by
      rw [RowK, List.tail_cons, List.take_append_of_le_length (by rw [B8_length, hy.1]; exact Nat.le_refl _), List.take_of_length_le (by rw [B8_length, hy.1]; exact Nat.le_refl _)]
      rfl
    simp only [part, isAgg, Sem.run_bind, run_underlying Try.underlying35, Result.andThen_ok, Sem.run_pure, sizeOf, typeInfo, hi, hsz]
    simp [hsz, hi]
    exact e1
  have p3 : ∀ y : Kys, OkK y → (part 35 (RowK y).toArray 33).run Try.prog W = .ok (.agg (W8 y.o)) W := by
    intro y hy
    have e1 : (List.take 32 (List.drop 33 (RowK y))).toArray = W8 y.o := by
      have l1 : (Value.int .u64 (y.e.toNat : Int) :: B8 y.k).length = 33 := by simp [B8_length, hy.1]
      rw [show RowK y = (Value.int .u64 (y.e.toNat : Int) :: B8 y.k) ++ (B8 y.o ++ [.bool y.w]) from rfl, List.drop_left' l1, List.take_append_of_le_length (by rw [B8_length, hy.2]; exact Nat.le_refl _), List.take_of_length_le (by rw [B8_length, hy.2]; exact Nat.le_refl _)]
      rfl
    simp only [part, isAgg, Sem.run_bind, run_underlying Try.underlying35, Result.andThen_ok, Sem.run_pure, sizeOf, typeInfo, hi, hsz]
    simp [hsz, hi]
    exact e1
  have p4 : ∀ y : Kys, OkK y → (part 4 (RowK y).toArray 65).run Try.prog W = .ok (.bool y.w) W := by
    intro y hy
    have hc := rowK_w hy
    simp only [part, isAgg, Sem.run_bind, run_underlying Try.underlying4, Result.andThen_ok, Sem.run_pure, hc]
    simp
  have q1 := run_equalIn_int (P := Try.prog) W (dd + 1) 33 .u64 .u64 (y.e.toNat : Int) (y'.e.toNat : Int) Try.underlying33
  have q2 := eq_arr2 W 35 5 32 Try.underlying35 Try.underlying5 (by kernel_rfl) y.k y'.k hy.1 hy'.1 dd
  have q3 := eq_arr2 W 35 5 32 Try.underlying35 Try.underlying5 (by kernel_rfl) y.o y'.o hy.2 hy'.2 dd
  have q4 := run_equalIn_bool (P := Try.prog) W (dd + 1) 4 y.w y'.w Try.underlying4
  have a1 := p1 y
  have a2 := p1 y'
  have b1 := p2 y hy
  have b2 := p2 y' hy'
  have c1 := p3 y hy
  have c2 := p3 y' hy'
  have d1 := p4 y hy
  have d2 := p4 y' hy'
  clear p1 p2 p3 p4 hsz hi
  have ee : ((y.e.toNat : Int) == (y'.e.toNat : Int)) = decide (y.e = y'.e) := by
    by_cases h : y.e = y'.e
    · rw [h]; simp
    · have : y.e.toNat ≠ y'.e.toNat := fun hh => h (UInt64.toNat_inj.1 hh)
      rw [decide_eq_false h, beq_eq_false_iff_ne]
      omega
  rw [ee] at q1
  unfold Op.eqFields
  rw [if_pos n1, t1, o1, Sem.run_bind, a1, Result.andThen_ok, Sem.run_bind, a2, Result.andThen_ok, Sem.run_bind, q1, Result.andThen_ok]
  by_cases h1 : y.e = y'.e
  · rw [decide_eq_true h1]
    unfold Op.eqFields
    simp only [Bool.not_true, Bool.false_eq_true, if_false]
    rw [if_pos n2, t2, o2, Sem.run_bind, b1, Result.andThen_ok, Sem.run_bind, b2, Result.andThen_ok, Sem.run_bind, q2, Result.andThen_ok]
    by_cases h2 : y.k = y'.k
    · rw [decide_eq_true h2]
      unfold Op.eqFields
      simp only [Bool.not_true, Bool.false_eq_true, if_false]
      rw [if_pos n3, t3, o3, Sem.run_bind, c1, Result.andThen_ok, Sem.run_bind, c2, Result.andThen_ok, Sem.run_bind, q3, Result.andThen_ok]
      by_cases h3 : y.o = y'.o
      · rw [decide_eq_true h3]
        unfold Op.eqFields
        simp only [Bool.not_true, Bool.false_eq_true, if_false]
        rw [if_pos n4, t4, o4, Sem.run_bind, d1, Result.andThen_ok, Sem.run_bind, d2, Result.andThen_ok, Sem.run_bind, q4, Result.andThen_ok]
        unfold Op.eqFields
        by_cases h4 : y.w = y'.w <;> simp [h1, h2, h3, h4]
      · rw [decide_eq_false h3]
        simp [h3]
    · rw [decide_eq_false h2]
      simp [h2]
  · rw [decide_eq_false h1]
    simp [h1]
theorem kys_ext (y y' : Kys) : (y.e = y'.e ∧ y.k = y'.k ∧ y.o = y'.o ∧ y.w = y'.w) ↔ y = y' := by
  cases y
  cases y'
  simp
instance : DecidableEq Kys := fun y y' => decidable_of_iff _ (kys_ext y y')
theorem run_eq_kys {o : Oper} {a : Act} (t2 : TypeId) (x z : Operand) (ho : o.op = .binOp .eql 37 x z t2) (y y' : Kys) (hy : OkK y) (hy' : OkK y') (hx : a.eval x = .agg (RowK y).toArray) (hz : a.eval z = .agg (RowK y').toArray) (W : World) :
    (execOp a.eval o).run Try.prog W = .ok (.value (.bool (decide (y = y')))) W := by
  have hm : Try.prog.eqGuardType Try.prog.depth 37 = false := by kernel_rfl
  have h : (Op.equalIn 10000 37 (.agg (RowK y).toArray) (.agg (RowK y').toArray)).run Try.prog W = .ok (decide (y = y')) W :=
    (eq_kysD y y' hy hy' W 9997).trans (congrArg (fun b => Result.ok b W) (decide_eq_decide.2 (kys_ext y y')))
  unfold execOp
  simp only [ho, hx, hz, Sem.run_bind, Sem.run_pure, run_eql_struct, run_eqGuard_agg (w := W) _ _ x z _ _ hm, h, Result.andThen_ok]
end Go.Proofs.Ytlocplkjokoknaa

/- Put: a ring's bytes. No condition but those each theorem states. -/
namespace Go.Proofs.Ytlocplkjokoknaa
set_option linter.unusedVariables false
set_option linter.unusedSimpArgs false
open Go.RowKit
attribute [local go_sem ↓] Go.wp_at_zero Go.wp_at_succ

theorem flat_len (ls : List (List UInt8)) (j : Nat) : (ls.take j).flatten.length ≤ ls.flatten.length := by
  conv => rhs; rw [← List.take_append_drop j ls]
  rw [List.flatten_append, List.length_append]
  omega
set_option maxRecDepth 100000 in
set_option maxHeartbeats 4000000 in
theorem put_ring (w : World) (v : Value) (xs : List (List UInt8)) (d : List UInt8) (base : Nat) (hv : RgB base w v xs d) (hl : xs.length ≤ 1000) (hf : xs.flatten.length ≤ 1000000) (hd : d.length ≤ 1000000) :
    Calls Try.prog 10 #[v] w fun e w' => ∃ u, e = .returned u ∧ OwnB w' w.heap.size u (xs.flatten ++ d) ∧ Below w.heap.size w w' := by
  have TB := Lib.hid (show ByteT Try.prog from ⟨Try.underlying22, by kernel_rfl⟩)
  obtain ⟨A1, c1, vs, dv, rfl, hc1, hvl, hrv, hA1, hxv, hdv⟩ := hv
  obtain ⟨Ad, cd, rfl, hcd, hrd, _⟩ := hdv
  obtain ⟨q, hq⟩ : ∃ q, q = xs.length := ⟨_, rfl⟩
  obtain ⟨nd, hnd⟩ : ∃ nd, nd = d.length := ⟨_, rfl⟩
  have RV := Lib.hid hrv
  have XV := Lib.hid hxv
  have RDD := Lib.hid hrd
  have FL := Lib.hid hf
  obtain ⟨rc, hrc⟩ : ∃ rc : Array Value, rc = #[.slice A1 xs.length c1, .slice Ad d.length cd] := ⟨_, rfl⟩
  rw [← hrc]
  have IR := Lib.hid (show (Try.prog.info? 32).map (·.size) = some rc.size by rw [hrc]; exact info_ring)
  have R0 := Lib.hid (show rc[0]? = some (.slice A1 q c1) by rw [hrc, hq]; rfl)
  have R1 := Lib.hid (show rc[1]? = some (.slice Ad nd cd) by rw [hrc, hnd]; rfl)
  have Q1 := Lib.hid hq.symm
  have ND := Lib.hid hnd.symm
  have NDB := Lib.hid (show nd ≤ 1000000 by omega)
  have QB := Lib.hid (show q ≤ 1000 by omega)
  have b0 : (q : Int) ≤ 1000 := by omega
  obtain ⟨X, hX⟩ : ∃ X, X = xs.flatten ++ d := ⟨_, rfl⟩
  rw [← hX]
  have XE := Lib.hid hX
  clear hc1 hvl hrv hA1 hxv hcd hrd hrc hq hnd hl hf hd hX
  go_enter Try.func10, Try.ntmps10
  go_upto_region 1 with fail
  generalize hM4 : Array.size (World.heap w) = M4
  generalize hwa : World.alloc w _ = w3
  have R4 := Lib.hid (show w3.heap[M4]? = some (.cells rc 32 (0, 0)) by rw [← hwa]; exact ha_new _ _ _ hM4.symm)
  have B3 := Lib.hid (show Below w.heap.size w w3 by rw [← hwa]; exact below_new _ _)
  have ME := Lib.hid hM4
  clear hwa hM4
  go_upto_region 2 with fail
  refine wp_region_list ?_
  simp only [List.toList_toArray]
  refine wpList_val (v := ?_) (by rfl) ?_ ?_
  rotate_left
  · go_simp
    with_reducible rfl
  simp only [Act.put, List.setIfInBounds_toArray, List.set_cons_zero, List.set_cons_succ]
  refine wpList_val (by rfl) (run_cell 30 (.tmp 6) rfl _ Try.underlying30 rfl rfl (row_cell R4.out 0 R0.out)) ?_
  simp only [Act.put, List.setIfInBounds_toArray, List.set_cons_zero, List.set_cons_succ]
  refine wpList_val (v := ?_) (by rfl) ?_ ?_
  rotate_left
  · go_simp
    with_reducible rfl
  simp only [Act.put, List.setIfInBounds_toArray, List.set_cons_zero, List.set_cons_succ]
  refine wpList_val (v := ?_) (by rfl) ?_ ?_
  rotate_left
  · go_simp
    with_reducible rfl
  simp only [Act.put, List.setIfInBounds_toArray, List.set_cons_zero, List.set_cons_succ]
  go_wp2_with fail
  go_loopw [3, 9] (fun u i wr => ∃ j : Nat, j ≤ q ∧ i = .int .i64 (j : Int) ∧ OwnB wr w3.heap.size u (xs.take j).flatten ∧ Below w3.heap.size w3 wr) (fun _ i _ => q - (intOf i).toNat)
  case atStart => exact ⟨0, Nat.zero_le _, rfl, OwnB.nil _ _, Below.refl _ _⟩
  case round =>
    obtain ⟨j, hj, rfl, ho, hb⟩ := hrel
    have J := Lib.hid hj
    have O := Lib.hid ho
    have Z := Lib.hid hb
    clear hj ho hb
    obtain ⟨wp, rfl⟩ : ∃ wp : World, wp = wr := ⟨_, rfl⟩
    have BP := Lib.hid (show Below w.heap.size w wp from B3.out.trans (Z.out.mono B3.out.size))
    have R4P := Lib.hid (below_block Z.out (row_lt R4.out) R4.out)
    by_cases hlt : j < q
    · have hD : decide ((j : Int) < (q : Int)) = true := by simp; omega
      obtain ⟨x, hx⟩ : ∃ x, xs[j]? = some x := ⟨_, List.getElem?_eq_getElem (by rw [Q1.out]; exact hlt)⟩
      obtain ⟨u, hu, hsl⟩ := XV.out j x hx
      obtain ⟨Ax, cx, rfl, hcx, hrx, _⟩ := hsl
      obtain ⟨b1, o1, hA1, hcell⟩ := RV.out j _ hu
      obtain ⟨m, hm⟩ : ∃ m, m = x.length := ⟨_, rfl⟩
      rw [← hm] at hcell hcx
      have TK := Lib.hid (show (xs.take (j + 1)).flatten = (xs.take j).flatten ++ x by rw [List.take_add_one, hx]; simp)
      have TL := Lib.hid (show (xs.take j).flatten.length + m ≤ 1000000 by
        have h1 := flat_len xs (j + 1)
        rw [List.take_add_one, hx] at h1
        simp only [Option.toList_some, List.flatten_append, List.length_append, List.flatten_cons, List.flatten_nil, List.append_nil] at h1
        have := FL.out
        omega)
      have CX := Lib.hid (cell_same hcell (BP.out.block b1 (cell_lt hcell)))
      have RX := Lib.hid (hrx.keep BP.out)
      have XL := Lib.hid hm.symm
      have AE := Lib.hid hA1
      have JQ := Lib.hid hlt
      have jb : (j : Int) ≤ 999 := by have := QB.out; omega
      clear hx hu hcx hrx hA1 hcell hm hlt
      go_upto_region 4 with fail
      refine wp_region_list ?_
      simp only [List.toList_toArray]
      refine wpList_val (by rfl) (run_iaddr_slk 30 (.tmp 7) (.tmp 9) rfl 22 Try.underlying30 1 (by kernel_rfl) b1 o1 q c1 j JQ.out .i64 _ rfl (by rw [← AE.out]; rfl) rfl _) ?_
      simp only [Act.put, List.setIfInBounds_toArray, List.set_cons_zero, List.set_cons_succ]
      refine wpList_val (by rfl) (run_cell 22 (.tmp 11) rfl _ Try.underlying22 rfl rfl (by rw [Nat.mul_one]; exact CX.out)) ?_
      simp only [Act.put, List.setIfInBounds_toArray, List.set_cons_zero, List.set_cons_succ]
      go_upto_region 5 with fail
      refine wp_region_list ?_
      simp only [List.toList_toArray]
      refine wpList_val (v := ?_) (by rfl) ?_ ?_
      rotate_left
      · go_simp
        with_reducible rfl
      simp only [Act.put, List.setIfInBounds_toArray, List.set_cons_zero, List.set_cons_succ]
      refine wpList_val (v := ?_) (by rfl) ?_ ?_
      rotate_left
      · go_simp
        with_reducible rfl
      simp only [Act.put, List.setIfInBounds_toArray, List.set_cons_zero, List.set_cons_succ]
      refine wpList_op (by rfl) (fun K hK => ?_)
      refine app_wp TB.out (.tmp 13) (.tmp 14) rfl w3.heap.size _ (xs.take j).flatten x Ax m cx rfl rfl XL.out O.out RX.out Z.out.size (by have := TL.out; omega) ?_
      intro v4 w4 ho hg _
      have Z := Lib.hid (below_own Z.out O.out hg)
      have O := Lib.hid (show OwnB w4 w3.heap.size v4 (xs.take (j + 1)).flatten by rw [TK.out]; exact ho)
      clear ho hg
      refine hK.out _ _ ?_
      clear hK K
      simp only [Act.put, List.setIfInBounds_toArray, List.set_cons_zero, List.set_cons_succ]
      go_wp2_with fail
      go_roundw
      case rel => exact ⟨j + 1, by have := JQ.out; omega, by go_num, O.out, Z.out⟩
      case measure => have := JQ.out; simp [intOf]; omega
    · have hD : decide ((j : Int) < (q : Int)) = false := by simp; omega
      have O := Lib.hid (show OwnB wp w3.heap.size _ xs.flatten by have h1 := O.out; rwa [List.take_of_length_le (by rw [Q1.out]; omega)] at h1)
      go_upto_region 7 with fail
      refine wp_region_list ?_
      simp only [List.toList_toArray]
      refine wpList_val (v := ?_) (by rfl) ?_ ?_
      rotate_left
      · go_simp
        with_reducible rfl
      simp only [Act.put, List.setIfInBounds_toArray, List.set_cons_zero, List.set_cons_succ]
      refine wpList_val (v := ?_) (by rfl) ?_ ?_
      rotate_left
      · go_simp
        with_reducible rfl
      simp only [Act.put, List.setIfInBounds_toArray, List.set_cons_zero, List.set_cons_succ]
      refine wpList_val (by rfl) (run_cell 22 (.tmp 18) rfl _ Try.underlying22 rfl rfl (row_cell R4P.out 1 R1.out)) ?_
      simp only [Act.put, List.setIfInBounds_toArray, List.set_cons_zero, List.set_cons_succ]
      refine wpList_op (by rfl) (fun K hK => ?_)
      refine app_wp TB.out (.tmp 17) (.tmp 19) rfl w3.heap.size _ xs.flatten d Ad nd cd rfl rfl ND.out O.out (RDD.out.keep BP.out) Z.out.size (by have := FL.out; have := NDB.out; omega) ?_
      intro v4 w4 ho hg _
      have Z := Lib.hid (below_own Z.out O.out hg)
      have O := Lib.hid (show OwnB w4 w3.heap.size v4 X by rw [XE.out]; exact ho)
      clear ho hg
      refine hK.out _ _ ?_
      clear hK K
      simp only [Act.put, List.setIfInBounds_toArray, List.set_cons_zero, List.set_cons_succ]
      go_wp2_with fail
      go_ret
      exact ⟨_, rfl, O.out.mono B3.out.size, B3.out.trans (Z.out.mono B3.out.size)⟩
end Go.Proofs.Ytlocplkjokoknaa

/- What a source of the bytes of '' tells at first: no window of 3 bytes stands twice in it. No condition. -/
namespace Go.Proofs.Ytlocplkjokoknaa
set_option linter.unusedVariables false
set_option linter.unusedSimpArgs false
set_option maxRecDepth 100000
def nilF : List UInt8 := []
def nilS : List UInt8 := [227, 176, 196, 66, 152, 252, 28, 20, 154, 251, 244, 200, 153, 111, 185, 36, 39, 174, 65, 228, 100, 155, 147, 76, 164, 149, 153, 27, 120, 82, 184, 85]
theorem nilS_eq : hashL nilF = nilS := by decide +kernel
def nilB0 : List (List UInt8) := [[92, 93, 66, 220, 243, 159, 113, 192, 34, 108, 167, 32, 216, 213, 24, 219, 97, 91, 87, 115, 240, 56, 229, 228, 145, 150, 63, 111, 71, 98, 27, 189], [72, 242, 176, 23, 37, 133, 181, 117, 19, 41, 110, 181, 167, 210, 35, 145, 219, 126, 16, 166, 109, 230, 246, 211, 184, 15, 21, 87, 84, 136, 96, 36], [239, 118, 49, 110, 33, 192, 194, 80, 245, 49, 130, 214, 77, 144, 198, 115, 152, 255, 75, 212, 76, 56, 94, 13, 227, 127, 157, 109, 75, 78, 197, 89], [19, 119, 130, 208, 78, 213, 141, 28, 89, 23, 145, 186, 166, 43, 249, 200, 241, 37, 11, 24, 85, 205, 99, 225, 177, 101, 7, 208, 185, 251, 81, 237], [91, 61, 202, 84, 238, 46, 42, 220, 209, 126, 194, 209, 127, 53, 76, 70, 20, 29, 137, 114, 114, 167, 125, 74, 35, 201, 205, 178, 173, 0, 128, 253], [213, 183, 150, 212, 102, 56, 53, 47, 53, 228, 87, 31, 118, 184, 10, 35, 37, 190, 114, 100, 177, 238, 133, 16, 10, 105, 161, 3, 22, 202, 238, 83]]
theorem nilB0_eq : (List.range 6).map (fun j => hashL (nilS ++ beL 8 (0 + j))) = nilB0 := by decide +kernel
def nilB1 : List (List UInt8) := [[101, 62, 34, 25, 7, 35, 36, 52, 12, 11, 195, 222, 103, 110, 196, 165, 212, 231, 178, 73, 240, 169, 31, 158, 205, 139, 59, 25, 143, 253, 20, 129], [129, 151, 133, 217, 83, 244, 140, 32, 54, 64, 35, 168, 52, 117, 76, 180, 34, 237, 88, 48, 111, 209, 31, 214, 166, 83, 110, 140, 215, 25, 85, 166], [125, 27, 192, 222, 117, 189, 67, 179, 233, 206, 190, 202, 139, 129, 10, 227, 240, 84, 253, 14, 101, 109, 56, 94, 46, 141, 160, 42, 99, 97, 59, 121], [230, 103, 70, 169, 227, 218, 117, 31, 184, 72, 199, 135, 12, 86, 160, 142, 166, 61, 234, 213, 81, 15, 40, 243, 1, 125, 236, 7, 186, 171, 227, 0], [55, 138, 47, 74, 147, 122, 128, 38, 103, 89, 62, 206, 73, 138, 10, 40, 161, 217, 45, 10, 2, 244, 160, 254, 202, 130, 237, 142, 170, 18, 52, 160], [168, 54, 87, 206, 128, 182, 223, 52, 252, 226, 82, 79, 203, 161, 233, 10, 179, 223, 113, 199, 210, 239, 24, 236, 182, 20, 59, 185, 157, 204, 68, 25]]
theorem nilB1_eq : (List.range 6).map (fun j => hashL (nilS ++ beL 8 (6 + j))) = nilB1 := by decide +kernel
def nilB2 : List (List UInt8) := [[29, 183, 150, 74, 121, 221, 134, 41, 115, 224, 174, 34, 80, 3, 86, 114, 174, 60, 233, 208, 87, 41, 63, 210, 223, 199, 112, 98, 239, 103, 88, 161], [237, 53, 199, 104, 160, 176, 208, 71, 36, 155, 22, 205, 85, 12, 178, 254, 113, 108, 42, 221, 217, 58, 161, 171, 82, 34, 180, 163, 173, 25, 203, 61], [110, 115, 4, 145, 92, 42, 176, 223, 68, 13, 171, 206, 188, 179, 190, 115, 96, 160, 167, 98, 160, 102, 150, 55, 62, 31, 94, 76, 121, 199, 226, 58], [219, 240, 152, 215, 84, 138, 208, 142, 95, 213, 138, 203, 134, 39, 135, 230, 107, 140, 119, 210, 216, 216, 219, 46, 70, 89, 203, 85, 102, 221, 95, 83], [185, 144, 183, 187, 229, 121, 230, 147, 117, 230, 194, 29, 76, 119, 218, 242, 110, 78, 208, 218, 255, 145, 18, 184, 70, 25, 188, 147, 180, 18, 130, 242], [196, 173, 83, 34, 167, 132, 202, 128, 6, 231, 123, 186, 33, 89, 254, 245, 115, 23, 153, 221, 255, 1, 80, 247, 108, 209, 56, 243, 27, 88, 81, 234]]
theorem nilB2_eq : (List.range 6).map (fun j => hashL (nilS ++ beL 8 (12 + j))) = nilB2 := by decide +kernel
def nilB3 : List (List UInt8) := [[52, 135, 185, 210, 98, 165, 54, 25, 202, 239, 144, 7, 144, 254, 57, 150, 253, 245, 197, 52, 7, 127, 154, 165, 85, 49, 13, 41, 73, 249, 17, 122], [94, 24, 46, 176, 104, 23, 227, 121, 192, 102, 169, 179, 8, 20, 230, 151, 212, 117, 111, 180, 107, 93, 93, 140, 92, 0, 163, 224, 10, 0, 116, 52], [246, 119, 229, 254, 241, 253, 89, 21, 212, 187, 21, 23, 31, 23, 26, 138, 7, 78, 202, 141, 16, 252, 117, 96, 63, 218, 231, 54, 126, 249, 21, 233], [67, 63, 166, 245, 112, 103, 124, 68, 152, 115, 126, 54, 176, 212, 68, 97, 254, 38, 13, 87, 148, 226, 178, 110, 92, 101, 110, 198, 66, 170, 87, 152], [59, 19, 1, 41, 66, 0, 117, 95, 11, 16, 208, 245, 52, 179, 150, 100, 175, 148, 106, 50, 70, 171, 249, 62, 76, 49, 84, 122, 103, 66, 76, 220], [39, 221, 21, 0, 134, 191, 243, 82, 115, 239, 53, 210, 251, 41, 242, 204, 217, 193, 241, 132, 145, 196, 146, 177, 144, 237, 53, 35, 206, 147, 134, 58]]
theorem nilB3_eq : (List.range 6).map (fun j => hashL (nilS ++ beL 8 (18 + j))) = nilB3 := by decide +kernel
def nilB4 : List (List UInt8) := [[93, 92, 230, 254, 44, 199, 94, 41, 110, 132, 161, 238, 2, 208, 179, 0, 74, 157, 235, 13, 82, 69, 200, 180, 0, 11, 129, 156, 52, 44, 118, 41], [242, 196, 21, 19, 226, 124, 63, 187, 7, 85, 115, 213, 170, 49, 153, 70, 242, 223, 200, 52, 71, 59, 244, 140, 185, 199, 218, 20, 116, 242, 230, 168], [122, 162, 97, 108, 168, 214, 203, 58, 252, 128, 213, 182, 223, 154, 186, 35, 132, 237, 87, 156, 50, 151, 45, 222, 142, 147, 233, 105, 38, 52, 190, 100], [88, 141, 3, 185, 135, 193, 222, 14, 210, 225, 139, 72, 246, 46, 22, 80, 246, 209, 90, 176, 166, 183, 221, 229, 202, 120, 216, 83, 163, 46, 89, 251], [142, 134, 96, 206, 52, 232, 224, 209, 151, 218, 190, 229, 62, 1, 247, 129, 45, 167, 24, 131, 137, 41, 150, 40, 8, 208, 53, 152, 196, 62, 37, 108], [19, 207, 253, 79, 114, 203, 16, 68, 35, 5, 248, 66, 137, 93, 82, 110, 19, 111, 140, 255, 208, 161, 168, 221, 78, 40, 53, 84, 28, 75, 215, 121]]
theorem nilB4_eq : (List.range 6).map (fun j => hashL (nilS ++ beL 8 (24 + j))) = nilB4 := by decide +kernel
def nilB5 : List (List UInt8) := [[240, 219, 126, 17, 247, 35, 170, 38, 20, 41, 152, 250, 15, 237, 55, 129, 206, 190, 72, 154, 49, 14, 194, 101, 137, 70, 149, 147, 171, 205, 114, 249], [189, 16, 164, 229, 191, 240, 38, 87, 121, 60, 169, 63, 65, 209, 28, 164, 79, 100, 196, 96, 35, 22, 70, 203, 219, 150, 10, 101, 89, 255, 4, 255], [152, 132, 68, 229, 222, 233, 221, 204, 22, 117, 252, 180, 45, 96, 16, 90, 85, 14, 240, 57, 21, 197, 16, 206, 242, 230, 227, 114, 24, 246, 41, 85], [52, 116, 119, 29, 131, 173, 159, 16, 131, 3, 2, 196, 149, 151, 239, 10, 240, 76, 13, 119, 117, 220, 213, 254, 200, 41, 20, 229, 198, 248, 237, 0], [233, 214, 224, 107, 72, 244, 83, 39, 179, 97, 140, 182, 24, 142, 115, 243, 129, 34, 229, 203, 237, 28, 0, 93, 214, 120, 115, 48, 69, 153, 99, 137], [90, 78, 230, 134, 230, 45, 105, 243, 92, 0, 147, 141, 0, 34, 36, 5, 186, 131, 63, 155, 181, 107, 254, 19, 82, 40, 172, 198, 137, 235, 55, 67]]
theorem nilB5_eq : (List.range 6).map (fun j => hashL (nilS ++ beL 8 (30 + j))) = nilB5 := by decide +kernel
def nilB6 : List (List UInt8) := [[42, 167, 48, 164, 86, 228, 25, 189, 240, 176, 150, 28, 81, 254, 239, 48, 225, 30, 9, 5, 249, 107, 245, 205, 176, 33, 102, 212, 133, 235, 136, 190], [83, 182, 251, 175, 105, 251, 103, 151, 232, 169, 17, 254, 219, 153, 236, 246, 159, 66, 69, 248, 74, 153, 6, 165, 246, 143, 88, 82, 174, 234, 31, 101], [100, 94, 34, 116, 0, 121, 68, 154, 107, 212, 85, 211, 210, 114, 141, 191, 37, 53, 104, 24, 173, 93, 68, 93, 207, 36, 204, 167, 100, 166, 110, 129], [96, 193, 99, 202, 173, 109, 170, 47, 129, 117, 175, 142, 97, 125, 139, 74, 83, 248, 255, 42, 210, 42, 143, 125, 33, 22, 252, 128, 101, 70, 7, 64], [115, 245, 70, 91, 41, 105, 74, 90, 45, 101, 230, 241, 11, 226, 45, 136, 57, 176, 242, 119, 6, 98, 110, 204, 77, 103, 166, 216, 142, 156, 188, 104], [199, 81, 227, 90, 23, 3, 19, 240, 91, 59, 199, 58, 196, 247, 84, 119, 176, 123, 103, 8, 212, 159, 206, 171, 254, 220, 214, 85, 227, 86, 146, 235]]
theorem nilB6_eq : (List.range 6).map (fun j => hashL (nilS ++ beL 8 (36 + j))) = nilB6 := by decide +kernel
def nilB7 : List (List UInt8) := [[36, 154, 89, 228, 145, 22, 94, 253, 168, 1, 154, 221, 137, 135, 219, 227, 38, 217, 119, 24, 113, 144, 215, 128, 243, 47, 191, 126, 205, 135, 40, 115], [45, 229, 18, 7, 172, 145, 209, 116, 87, 122, 20, 186, 250, 51, 65, 197, 37, 135, 80, 57, 163, 82, 158, 247, 5, 220, 245, 37, 26, 222, 162, 223], [29, 78, 237, 145, 61, 202, 0, 172, 42, 2, 241, 168, 182, 73, 14, 58, 183, 238, 7, 139, 45, 163, 115, 82, 16, 100, 28, 220, 186, 161, 228, 60]]
theorem nilB7_eq : (List.range 3).map (fun j => hashL (nilS ++ beL 8 (42 + j))) = nilB7 := by decide +kernel
def nilBs : List (List UInt8) := nilB0 ++ nilB1 ++ nilB2 ++ nilB3 ++ nilB4 ++ nilB5 ++ nilB6 ++ nilB7
def nilT : List UInt8 := nilF ++ nilBs.flatten
theorem nilT_length : nilT.length = 1440 := by decide +kernel
theorem nilBs_get (j : Nat) (hj : j < 45) : hashL (nilS ++ beL 8 j) = nilBs.getD j [] := by
  have key : ∀ (c n : Nat) (B : List (List UInt8)), (List.range n).map (fun j => hashL (nilS ++ beL 8 (c + j))) = B → ∀ i, i < n → hashL (nilS ++ beL 8 (c + i)) = B.getD i [] := by
    intro c n B h i hi
    rw [← h]
    simp [List.getD_eq_getElem?_getD, hi]
  have k0 := key 0 6 _ nilB0_eq
  have k1 := key 6 6 _ nilB1_eq
  have k2 := key 12 6 _ nilB2_eq
  have k3 := key 18 6 _ nilB3_eq
  have k4 := key 24 6 _ nilB4_eq
  have k5 := key 30 6 _ nilB5_eq
  have k6 := key 36 6 _ nilB6_eq
  have k7 := key 42 3 _ nilB7_eq
  clear key
  by_cases h0 : j < 6
  · obtain ⟨i, rfl⟩ : ∃ i, j = 0 + i := ⟨j - 0, by omega⟩
    rw [k0 i (by omega)]
    match i, (show i < 6 by omega) with
    | 0, _ => rfl
    | 1, _ => rfl
    | 2, _ => rfl
    | 3, _ => rfl
    | 4, _ => rfl
    | 5, _ => rfl
    | n + 6, h => exact absurd h (by omega)
  by_cases h1 : j < 12
  · obtain ⟨i, rfl⟩ : ∃ i, j = 6 + i := ⟨j - 6, by omega⟩
    rw [k1 i (by omega)]
    match i, (show i < 6 by omega) with
    | 0, _ => rfl
    | 1, _ => rfl
    | 2, _ => rfl
    | 3, _ => rfl
    | 4, _ => rfl
    | 5, _ => rfl
    | n + 6, h => exact absurd h (by omega)
  by_cases h2 : j < 18
  · obtain ⟨i, rfl⟩ : ∃ i, j = 12 + i := ⟨j - 12, by omega⟩
    rw [k2 i (by omega)]
    match i, (show i < 6 by omega) with
    | 0, _ => rfl
    | 1, _ => rfl
    | 2, _ => rfl
    | 3, _ => rfl
    | 4, _ => rfl
    | 5, _ => rfl
    | n + 6, h => exact absurd h (by omega)
  by_cases h3 : j < 24
  · obtain ⟨i, rfl⟩ : ∃ i, j = 18 + i := ⟨j - 18, by omega⟩
    rw [k3 i (by omega)]
    match i, (show i < 6 by omega) with
    | 0, _ => rfl
    | 1, _ => rfl
    | 2, _ => rfl
    | 3, _ => rfl
    | 4, _ => rfl
    | 5, _ => rfl
    | n + 6, h => exact absurd h (by omega)
  by_cases h4 : j < 30
  · obtain ⟨i, rfl⟩ : ∃ i, j = 24 + i := ⟨j - 24, by omega⟩
    rw [k4 i (by omega)]
    match i, (show i < 6 by omega) with
    | 0, _ => rfl
    | 1, _ => rfl
    | 2, _ => rfl
    | 3, _ => rfl
    | 4, _ => rfl
    | 5, _ => rfl
    | n + 6, h => exact absurd h (by omega)
  by_cases h5 : j < 36
  · obtain ⟨i, rfl⟩ : ∃ i, j = 30 + i := ⟨j - 30, by omega⟩
    rw [k5 i (by omega)]
    match i, (show i < 6 by omega) with
    | 0, _ => rfl
    | 1, _ => rfl
    | 2, _ => rfl
    | 3, _ => rfl
    | 4, _ => rfl
    | 5, _ => rfl
    | n + 6, h => exact absurd h (by omega)
  by_cases h6 : j < 42
  · obtain ⟨i, rfl⟩ : ∃ i, j = 36 + i := ⟨j - 36, by omega⟩
    rw [k6 i (by omega)]
    match i, (show i < 6 by omega) with
    | 0, _ => rfl
    | 1, _ => rfl
    | 2, _ => rfl
    | 3, _ => rfl
    | 4, _ => rfl
    | 5, _ => rfl
    | n + 6, h => exact absurd h (by omega)
  obtain ⟨i, rfl⟩ : ∃ i, j = 42 + i := ⟨j - 42, by omega⟩
  rw [k7 i (by omega)]
  match i, (show i < 3 by omega) with
  | 0, _ => rfl
  | 1, _ => rfl
  | 2, _ => rfl
  | n + 3, h => exact absurd h (by omega)
theorem nilT_get (i : Nat) (hi : i < nilT.length) : byteS nilF i = nilT.getD i 0 := by
  rw [nilT_length] at hi
  by_cases h : i < 0
  · rw [byteS, if_pos (by show i < 0; exact h), nilT, List.getD_eq_getElem?_getD, List.getD_eq_getElem?_getD, List.getElem?_append_left (by show i < 0; exact h)]
  · rw [byteS, if_neg (by show ¬ i < 0; exact h), nilS_eq, show nilF.length = 0 from rfl, nilBs_get _ (by omega), nilT, List.getD_eq_getElem?_getD (l := nilF ++ _), List.getElem?_append_right (by show 0 ≤ i; omega), show nilF.length = 0 from rfl]
    have hf : ∀ (B : List (List UInt8)), (∀ b ∈ B, b.length = 32) → ∀ i, i / 32 < B.length → (B.flatten)[i]?.getD 0 = (B.getD (i / 32) []).getD (i % 32) 0 := flat_get
    exact (hf _ (by decide +kernel) _ (by have h2 : nilBs.length = 45 := (by decide +kernel); omega)).symm
theorem nil_once (u v n : Nat) (hn : 3 ≤ n) (hu : u + n ≤ 1440) (hv : v + n ≤ 1440) (he : tellS nilF u n = tellS nilF v n) : u = v := by
  have h : (insAll (wins (256 ^ (2 + 1)) (valO 0 (natT (nilT.take 2))) (natT (nilT.drop 2))) .nil).isSome = true := by decide +kernel
  obtain ⟨t, ht⟩ := Option.isSome_iff_exists.1 h
  exact told_once nilT_get ht u v n (by omega) (by rw [nilT_length]; exact hu) (by rw [nilT_length]; exact hv) he
end Go.Proofs.Ytlocplkjokoknaa

/- A ring of one member, which every statement of the layer asks. No condition but those each theorem states. -/
namespace Go.Proofs.Ytlocplkjokoknaa
set_option linter.unusedVariables false
set_option linter.unusedSimpArgs false
open Go.RowKit
attribute [local go_sem ↓] Go.wp_at_zero Go.wp_at_succ

def memOne : Mem := ⟨1, keyK 7, true⟩
theorem ok_memOne : OkM memOne := ⟨rfl, by decide, by decide⟩
theorem nil_onceS : OnceS nilF 1440 := fun u v n h28 hu hv he => nil_once u v n (by omega) hu hv he
def oneY : Kys := keysOf ⟨1, [], 0, [], 0⟩ 5
theorem one_check : checkL [memOne] = true := by decide
theorem seen_one : seenK oneY true = oneY := rfl
theorem flat_101 (xs : List (List UInt8)) (h : ∀ (i : Nat) (x : List UInt8), xs[i]? = some x → x.length = 101) : xs.flatten.length = 101 * xs.length := by
  induction xs with
  | nil => rfl
  | cons x xs ih =>
    rw [List.flatten_cons, List.length_append, h 0 x rfl, ih (fun i z hz => h (i + 1) z (by simpa using hz)), List.length_cons]
    omega
/-- What one finds. -/
theorem one_plainR {s' : BSt} {r : Option (List (List UInt8) × List UInt8)} (h : WrapR oneY [memOne] ⟨1, [], 64, [], 0⟩ s' r) :
    ∃ xs d, r = some (xs, d) ∧ s'.mode = 1 ∧ xs.length = 8 ∧ (∀ x ∈ xs, x.length ≤ 70000) ∧ xs.flatten.length = 808 ∧ d.length = 301 ∧ unwrapL s' (keyK 7) xs = (oneY, 0) ∧ unwrapL s' (keyK 8) xs = (kysZ, 13) ∧ ∀ p ∈ s'.m, s'.mode = 1 → p.2.text.length ≤ 100000 := by
  have hy : OkK oneY := ok_keysOf _ _
  have hl : ∀ z ∈ [memOne], OkM z := fun z hz => by
    simp only [List.mem_cons, List.mem_nil_iff, or_false] at hz
    subst hz
    exact ok_memOne
  obtain ⟨xs, d, h1, h2, h3, h4, h5, h6, h7, h8, h9⟩ := ring_ideal hy hl (by simp) rfl (show OnceS (⟨1, [], 64, [], 0⟩ : BSt).F 1440 from nil_onceS) (fun p hp => by cases hp) h (by show 64 + 1365 ≤ 1440; omega)
  have hlen := h2.len
  refine ⟨xs, d, h1, h7, hlen, fun x hx => ?_, ?_, h4, ?_, ?_, ?_⟩
  · obtain ⟨i, hi⟩ := List.getElem?_of_mem hx
    rw [(h2.each i x hi).1]
    omega
  · rw [flat_101 xs (fun i x hx => (h2.each i x hx).1), hlen]
  · exact unwrap_mem hy h2 h7 0 (by omega) memOne rfl (fun i z hi => absurd hi (Nat.not_lt_zero _))
  · have := unwrap_none h2 h7 (keyK 8) 0 (fun j z _ hz => by
      have hj : j = 0 := by have := (List.getElem?_eq_some_iff.1 hz).1; simp at this; omega
      subst hj
      simp only [List.getElem?_cons_zero, Option.some.injEq] at hz
      subst hz
      decide)
    rwa [List.drop_zero] at this
  · exact wrap_texts hy hl (by simp) (n := 100000) (by omega) (fun p hp => by cases hp) h
theorem RgB.agg {base : Nat} {W : World} {v : Value} {xs : List (List UInt8)} {d : List UInt8} (h : RgB base W v xs d) : ∃ rc : Array Value, v = .agg rc ∧ rc.size = 2 ∧ rc.all (·.oneCell') = true := by
  obtain ⟨A, c, vs, dv, h1, _, _, _, _, _, _, _, h2, _⟩ := h
  refine ⟨_, h1, rfl, ?_⟩
  rw [h2]
  simp [Value.oneCell']
theorem build_mem1 (W : World) : (Instr.build 49 #[(0, .int .i64 1), (1, .agg (W8 (keyK 7))), (2, .bool true)]).run Try.prog W = .ok (.agg (RowM memOne).toArray) W := by kernel_rfl
theorem build_mems1 (W : World) : (Instr.buildSlice 23 1 #[(0, .agg (RowM memOne).toArray)]).run Try.prog W = .ok (.slice (some ⟨W.heap.size, 0, none⟩) 1 1) (W.alloc (.cells (RowM memOne).toArray 49)) := by
  kernel_rfl
theorem run_eq_kys_true {o : Oper} {a : Act} (t2 : TypeId) (x z : Operand) (ho : o.op = .binOp .eql 37 x z t2) (y : Kys) (hy : OkK y) (hx : a.eval x = .agg (RowK y).toArray) (hz : a.eval z = .agg (RowK y).toArray) (W : World) : (execOp a.eval o).run Try.prog W = .ok (.value (.bool true)) W := by
  have := run_eq_kys t2 x z ho y y hy hy hx hz W
  rwa [decide_eq_true rfl] at this
section
variable {o : Oper} {a : Act} {Q : Exit → Act → World → Prop} {K : Act → World → Prop} {W : World}
theorem run_memOne (x : Operand) (ho : o.op = .build 49 #[(0, .const (.int .i64 1)), (1, x), (2, .const (.bool true))]) (hx : a.eval x = .agg (W8 (keyK 7))) (W : World) : (execOp a.eval o).run Try.prog W = .ok (.value (.agg (RowM memOne).toArray)) W := by
  unfold execOp
  simp only [ho, List.map_toArray, List.map_cons, List.map_nil, hx, show a.eval (.const (.bool true)) = .bool true from rfl, show a.eval (.const (.int .i64 1)) = .int .i64 1 from rfl, Sem.run_bind, build_mem1, Result.andThen_ok, Sem.run_pure]
theorem wp_memsOne (x : Operand) (ho : o.op = .buildSlice 23 1 #[(0, x)]) (hx : a.eval x = .agg (RowM memOne).toArray) (h : K (a.put o.dst (.slice (some ⟨W.heap.size, 0, none⟩) 1 1)) (W.alloc (.cells (RowM memOne).toArray 49))) : o.wp Try.prog a W K Q := by
  have h1 := build_mems1 W
  unfold Oper.wp execOp
  simp only [ho, List.map_toArray, List.map_cons, List.map_nil, hx, Sem.run_bind, Sem.run_pure, h1, Result.andThen_ok]
  exact h
end
set_option maxRecDepth 100000 in
set_option maxHeartbeats 4000000 in
theorem one_true (w : World) : Calls Try.prog 9 #[] w fun e w' => e = .returned (.bool true) ∧ Below w.heap.size w w' := by
  go_enter Try.func9, Try.ntmps9
  go_wp2_with fail
  refine (dnew_any w none 0 0 _ [] rfl (fun j v hj => by simp at hj) .nil (by decide) (by omega)).mono ?_
  rintro e w4 ⟨S, D, rfl, hg, hD1, hD2, hs, hb⟩
  have SW := Lib.hid (SrcW.new hg hD1 hD2 hs hb)
  clear hg hD1 hD2 hs hb
  go_wp2_with fail
  refine (bnew_any w S D [] 0 w4 SW.out 1 (.inr rfl)).mono ?_
  rintro e w5 ⟨g, b, lo, rfl, hbx, hb2, hlo⟩
  obtain ⟨L, hL⟩ : ∃ L, L = w5.heap.size := ⟨_, rfl⟩
  have X := Lib.hid (hbx.raise rfl (show lo ≤ L by rw [hL]; exact hlo))
  have LE := Lib.hid hL
  have LT := Lib.hid (show g < L ∧ S < L ∧ D < L ∧ b < L by rw [hL]; exact hbx.lt)
  have WL := Lib.hid (show w.heap.size ≤ L by rw [hL]; exact hbx.bel.size)
  clear hbx hb2 hlo hL SW
  go_upto_region 2 with fail
  refine wp_region_list ?_
  simp only [List.toList_toArray]
  refine wpList_val (v := ?_) (by rfl) ?_ ?_
  rotate_left
  · go_simp
    with_reducible rfl
  simp only [Act.put, List.setIfInBounds_toArray, List.set_cons_zero, List.set_cons_succ]
  refine wpList_val (by rfl) (run_keyK (.const (.int .u8 7)) rfl 7 rfl _) ?_
  simp only [Act.put, List.setIfInBounds_toArray, List.set_cons_zero, List.set_cons_succ]
  refine wpList_val (by rfl) (run_memOne (.tmp 17) rfl rfl _) ?_
  simp only [Act.put, List.setIfInBounds_toArray, List.set_cons_zero, List.set_cons_succ]
  refine wpList_op (by rfl) (fun K hK => ?_)
  refine wp_memsOne (.tmp 18) rfl rfl ?_
  generalize hN : Array.size (World.heap w5) = N5
  generalize hw : World.alloc w5 _ = w6
  have B6 := Lib.hid (show Below w5.heap.size w5 w6 by rw [← hw]; exact below_new _ _)
  have RM := Lib.hid (show RdM w6 (some ⟨N5, 0, none⟩) [memOne] from fun j z hj => by
    have hj0 : j = 0 := by have := (List.getElem?_eq_some_iff.1 hj).1; simp at this; omega
    subst hj0
    simp only [List.getElem?_cons_zero, Option.some.injEq] at hj
    subst hj
    exact ⟨ok_memOne, N5, 0, rfl, by rw [← hw]; exact range_rowL (ha_new _ _ _ hN.symm)⟩)
  have NE := Lib.hid (show N5 = L by rw [LE.out, hN])
  have X6 := Lib.hid (X.out.keep B6.out)
  clear hN hw
  refine hK.out _ _ ?_
  clear hK K
  simp only [Act.put, List.setIfInBounds_toArray, List.set_cons_zero, List.set_cons_succ]
  have MK := Lib.hid (make_any w g S D b L ⟨1, [], 0, [], 0⟩ w6 X6.out (.inr rfl) 5 (some ⟨N5, 0, none⟩) 1 [memOne] RM.out (Nat.le_refl _) (by simp) (fun _ a e => by cases e; show N5 ≠ g ∧ N5 ≠ S ∧ N5 ≠ b; have := LT.out; have := NE.out; omega)
    (by show 0 + 11000 ≤ 900000; omega) (by show ([] : List UInt8).length ≤ 100000; simp) (by show ([] : List (List UInt8 × Ent)).length ≤ 5000; simp) (by show 0 ≤ 50000; omega) (by have := B6.out.size; have := LE.out; omega) LT.out.2.2.1 WL.out)
  refine wpList_op (by rfl) (fun K hK => ?_)
  go_simp
  refine MK.out.mono ?_
  clear MK
  rintro e w7 (⟨hf, _⟩ | ⟨_, sZ, r, hwr, hbx, hbf, hr⟩)
  · rw [one_check] at hf
    cases hf
  obtain ⟨xs, d, rfl, hmode, hxl, hx7, hxf, hdl, hu7, hu8, htx⟩ := one_plainR hwr
  obtain ⟨v, rfl, hrg⟩ := hr
  have H7 := Lib.hid hbx
  have RG := Lib.hid hrg
  have MO := Lib.hid hmode
  have XL := Lib.hid hxl
  have X7 := Lib.hid hx7
  have XF := Lib.hid hxf
  have DL := Lib.hid hdl
  have U7 := Lib.hid hu7
  have U8 := Lib.hid hu8
  have TX := Lib.hid htx
  have B7 := Lib.hid (show w6.heap.size ≤ w7.heap.size from hbf.1)
  clear hwr hbx hbf hrg hmode hxl hx7 hxf hdl hu7 hu8 htx
  refine hK.out _ _ ?_
  clear hK K
  obtain ⟨rc, rfl, hsz, hone⟩ := RG.out.agg
  have IR := Lib.hid (show (Try.prog.info? 32).map (·.size) = some rc.size by rw [hsz]; exact info_ring)
  have SZ := Lib.hid hsz
  have ONE := Lib.hid hone
  have ZK := Lib.hid zeroK
  have OY := Lib.hid (show OkK oneY from ok_keysOf _ _)
  rw [show keysOf ⟨1, [], 0, [], 0⟩ 5 = oneY from rfl]
  clear hsz hone
  refine wpList_val (v := ?_) (by rfl) ?_ ?_
  rotate_left
  · go_simp
    with_reducible rfl
  simp only [Act.put, List.setIfInBounds_toArray, List.set_cons_zero, List.set_cons_succ]
  refine wpList_val (v := ?_) (by rfl) ?_ ?_
  rotate_left
  · go_simp
    with_reducible rfl
  simp only [Act.put, List.setIfInBounds_toArray, List.set_cons_zero, List.set_cons_succ]
  refine wpList_val (v := ?_) (by rfl) ?_ ?_
  rotate_left
  · go_simp
    with_reducible rfl
  simp only [Act.put, List.setIfInBounds_toArray, List.set_cons_zero, List.set_cons_succ]
  refine wpList_val (v := ?_) (by rfl) ?_ ?_
  rotate_left
  · go_simp
    with_reducible rfl
  simp only [Act.put, List.setIfInBounds_toArray, List.set_cons_zero, List.set_cons_succ]
  refine wpList_op (by rfl) (fun K hK => ?_)
  go_simp
  refine hK.out _ _ ?_
  clear hK K
  refine wpList_op (by rfl) (fun K hK => ?_)
  go_simp
  refine hK.out _ _ ?_
  clear hK K
  rw [← ZK.out]
  generalize hM3 : Array.size (World.heap w7) = M3
  generalize hwa : World.alloc w7 _ = wa
  have sa : wa.heap.size = M3 + 1 := by rw [← hwa, ha_size, hM3]
  have ra : wa.heap[M3]? = some (.cells RingZ 32 (0, 0)) := by rw [← hwa]; exact ha_new _ _ _ hM3.symm
  generalize hwb : World.alloc wa _ = w8
  have ba : Below wa.heap.size wa w8 := by rw [← hwb]; exact below_new _ _
  have R3 := Lib.hid (below_block ba (row_lt ra) ra)
  have R4 := Lib.hid (show w8.heap[M3 + 1]? = some (.cells (RowK kysZ).toArray 37 (0, 0)) by rw [← hwb]; exact ha_new _ _ _ sa.symm)
  have B8 := Lib.hid (show Below w7.heap.size w7 w8 from by
    have h1 : Below w7.heap.size w7 wa := by rw [← hwa]; exact below_new _ _
    exact h1.trans (ba.mono h1.size))
  have ME := Lib.hid hM3
  clear hwa sa ra hwb ba hM3
  refine wpList_store_whole rfl rfl 32 (.tmp 3) (.tmp 21) rfl M3 rc rfl rfl 32 _ R3.out IR.out (by rw [SZ.out]; rfl) ONE.out ?_
  intro w9 hz9 hg9 _
  refine wpList_store_whole rfl rfl 37 (.tmp 4) (.tmp 22) rfl (M3 + 1) (RowK oneY).toArray rfl rfl 37 _ (grown_block hg9 (fun e => by have := Option.some.inj e; omega) R4.out) (info_kysC _ OY.out) (by rw [sizeK _ ok_kysZ, sizeK _ OY.out]) (rowK_one _) ?_
  intro w10 hz10 hg10 _
  have R3 := Lib.hid (grown_block hg10 (fun e => by have := Option.some.inj e; omega) hz9)
  have R4 := Lib.hid hz10
  have BA := Lib.hid (show Below w7.heap.size w7 w10 from grown_below_on (grown_below_on B8.out hg9 (by rw [ME.out]; exact Nat.le_refl _)) hg10 (by rw [ME.out]; omega))
  have HA := Lib.hid (H7.out.keep BA.out)
  have RGA := Lib.hid (RG.out.keep BA.out)
  clear hz9 hg9 hz10 hg10 H7 RG B8
  go_upto_region 3 with fail
  refine wp_region_list ?_
  simp only [List.toList_toArray]
  refine wpList_val (v := ?_) (by rfl) ?_ ?_
  rotate_left
  · go_simp
    with_reducible rfl
  simp only [Act.put, List.setIfInBounds_toArray, List.set_cons_zero, List.set_cons_succ]
  refine wpList_val (by rfl) (run_load_row 32 (.tmp 3) rfl M3 rfl 32 rc (0, 0) _ R3.out Try.underlying32 rfl IR.out) ?_
  simp only [Act.put, List.setIfInBounds_toArray, List.set_cons_zero, List.set_cons_succ]
  refine wpList_val (by rfl) (run_keyK (.const (.int .u8 7)) rfl 7 rfl _) ?_
  simp only [Act.put, List.setIfInBounds_toArray, List.set_cons_zero, List.set_cons_succ]
  have UX := Lib.hid (unwrap_any w g S D b L sZ w10 HA.out (.inr MO.out) (.agg rc) xs d _ RGA.out X7.out (by rw [XL.out]; omega) (keyK 7) rfl TX.out)
  rw [U7.out] at UX
  refine wpList_op (by rfl) (fun K hK => ?_)
  go_simp
  refine UX.out.mono ?_
  clear UX
  rintro e w11 ⟨rfl, hb⟩
  have BB := Lib.hid hb
  clear hb
  refine hK.out _ _ ?_
  clear hK K
  go_upto_region 4 with (refine wpList_store_new rfl rfl 37 (.tmp 6) (.tmp 29) rfl (RowK oneY).toArray rfl rfl (info_kysC _ OY.out) (by rw [← ZK.out, sizeK _ ok_kysZ, sizeK _ OY.out]) (rowK_one _) ?_)
  generalize hM6 : Array.size (World.heap w11) = M6
  generalize hw12 : World.alloc w11 _ = w12
  have BC := Lib.hid (show Below w10.heap.size w10 w12 by rw [← hw12]; exact BB.out.alloc BB.out.size _)
  have R6 := Lib.hid (show w12.heap[M6]? = some (.cells (RowK oneY).toArray 37 (0, 0)) by rw [← hw12]; exact ha_new _ _ _ hM6.symm)
  have R3C := Lib.hid (below_block BC.out (row_lt R3.out) R3.out)
  have R4C := Lib.hid (below_block BC.out (row_lt R4.out) R4.out)
  have HC := Lib.hid (HA.out.keep BC.out)
  have RGC := Lib.hid (RGA.out.keep BC.out)
  clear hM6 hw12
  refine wp_region_list ?_
  simp only [List.toList_toArray]
  refine wpList_val (v := ?_) (by rfl) ?_ ?_
  rotate_left
  · go_simp
    with_reducible rfl
  simp only [Act.put, List.setIfInBounds_toArray, List.set_cons_zero, List.set_cons_succ]
  refine wpList_val (by rfl) (run_load_row 32 (.tmp 3) rfl M3 rfl 32 rc (0, 0) _ R3C.out Try.underlying32 rfl IR.out) ?_
  simp only [Act.put, List.setIfInBounds_toArray, List.set_cons_zero, List.set_cons_succ]
  refine wpList_val (by rfl) (run_keyK (.const (.int .u8 8)) rfl 8 rfl _) ?_
  simp only [Act.put, List.setIfInBounds_toArray, List.set_cons_zero, List.set_cons_succ]
  have UX := Lib.hid (unwrap_any w g S D b L sZ w12 HC.out (.inr MO.out) (.agg rc) xs d _ RGC.out X7.out (by rw [XL.out]; omega) (keyK 8) rfl TX.out)
  rw [U8.out] at UX
  refine wpList_op (by rfl) (fun K hK => ?_)
  go_simp
  refine UX.out.mono ?_
  clear UX
  rintro e w13 ⟨rfl, hb⟩
  have BD := Lib.hid hb
  clear hb
  refine hK.out _ _ ?_
  clear hK K
  go_upto_region 5 with (refine wpList_store_new rfl rfl 37 (.tmp 8) (.tmp 36) rfl (RowK kysZ).toArray rfl rfl (info_kysC _ ok_kysZ) (by rw [← ZK.out]) (rowK_one _) ?_)
  generalize hw14 : World.alloc w13 _ = w14
  have BE := Lib.hid (show Below w12.heap.size w12 w14 by rw [← hw14]; exact BD.out.alloc BD.out.size _)
  have R3E := Lib.hid (below_block BE.out (row_lt R3C.out) R3C.out)
  have R4E := Lib.hid (below_block BE.out (row_lt R4C.out) R4C.out)
  have R6E := Lib.hid (below_block BE.out (row_lt R6.out) R6.out)
  have RGE := Lib.hid (RGC.out.keep BE.out)
  have HE := Lib.hid (HC.out.keep BE.out)
  clear hw14
  refine wp_region_list ?_
  simp only [List.toList_toArray]
  refine wpList_val (v := ?_) (by rfl) ?_ ?_
  rotate_left
  · go_simp
    with_reducible rfl
  simp only [Act.put, List.setIfInBounds_toArray, List.set_cons_zero, List.set_cons_succ]
  refine wpList_val (v := ?_) (by rfl) ?_ ?_
  rotate_left
  · go_simp
    with_reducible rfl
  simp only [Act.put, List.setIfInBounds_toArray, List.set_cons_zero, List.set_cons_succ]
  refine wpList_val (v := ?_) (by rfl) ?_ ?_
  rotate_left
  · go_simp
    with_reducible rfl
  simp only [Act.put, List.setIfInBounds_toArray, List.set_cons_zero, List.set_cons_succ]
  refine wpList_valg (v := ?_) (by rfl) ?_ ?_
  rotate_left
  · go_simp
    with_reducible rfl
  simp only [Act.put, List.setIfInBounds_toArray, List.set_cons_zero, List.set_cons_succ]
  refine wpList_valg (v := ?_) (by rfl) ?_ ?_
  rotate_left
  · go_simp
    with_reducible rfl
  simp only [Act.put, List.setIfInBounds_toArray, List.set_cons_zero, List.set_cons_succ]
  refine wpList_val (v := ?_) (by rfl) ?_ ?_
  rotate_left
  · go_simp
    with_reducible rfl
  simp only [Act.put, List.setIfInBounds_toArray, List.set_cons_zero, List.set_cons_succ]
  refine wpList_val (v := ?_) (by rfl) ?_ ?_
  rotate_left
  · go_simp
    with_reducible rfl
  simp only [Act.put, List.setIfInBounds_toArray, List.set_cons_zero, List.set_cons_succ]
  refine wpList_valg (by rfl) (run_load_row 37 (.tmp 6) rfl M6 rfl 37 (RowK oneY).toArray (0, 0) _ R6E.out Try.underlying37 rfl (info_kysC _ OY.out)) ?_
  simp only [Act.put, List.setIfInBounds_toArray, List.set_cons_zero, List.set_cons_succ]
  refine wpList_valg (by rfl) (run_load_row 37 (.tmp 4) rfl (M3 + 1) rfl 37 (RowK oneY).toArray (0, 0) _ R4E.out Try.underlying37 rfl (info_kysC _ OY.out)) ?_
  simp only [Act.put, List.setIfInBounds_toArray, List.set_cons_zero, List.set_cons_succ]
  refine wpList_valg (by rfl) (run_eq_kys_true _ (.tmp 45) (.tmp 46) rfl oneY OY.out rfl rfl _) ?_
  simp only [Act.put, List.setIfInBounds_toArray, List.set_cons_zero, List.set_cons_succ]
  refine wpList_val (v := ?_) (by rfl) ?_ ?_
  rotate_left
  · go_simp
    with_reducible rfl
  simp only [Act.put, List.setIfInBounds_toArray, List.set_cons_zero, List.set_cons_succ]
  refine wpList_val (v := ?_) (by rfl) ?_ ?_
  rotate_left
  · go_simp
    with_reducible rfl
  simp only [Act.put, List.setIfInBounds_toArray, List.set_cons_zero, List.set_cons_succ]
  refine wpList_valg (v := ?_) (by rfl) ?_ ?_
  rotate_left
  · go_simp
    with_reducible rfl
  simp only [Act.put, List.setIfInBounds_toArray, List.set_cons_zero, List.set_cons_succ]
  refine wpList_valg (by rfl) (run_cell 33 (.tmp 50) rfl _ Try.underlying33 rfl rfl (row_cell R4E.out 0 (show (RowK oneY).toArray[0]? = some (.int .u64 5) from rfl))) ?_
  simp only [Act.put, List.setIfInBounds_toArray, List.set_cons_zero, List.set_cons_succ]
  refine wpList_valg (v := ?_) (by rfl) ?_ ?_
  rotate_left
  · go_simp
    with_reducible rfl
  simp only [Act.put, List.setIfInBounds_toArray, List.set_cons_zero, List.set_cons_succ]
  refine wpList_val (v := ?_) (by rfl) ?_ ?_
  rotate_left
  · go_simp
    with_reducible rfl
  simp only [Act.put, List.setIfInBounds_toArray, List.set_cons_zero, List.set_cons_succ]
  refine wpList_val (v := ?_) (by rfl) ?_ ?_
  rotate_left
  · go_simp
    with_reducible rfl
  simp only [Act.put, List.setIfInBounds_toArray, List.set_cons_zero, List.set_cons_succ]
  refine wpList_valg (v := ?_) (by rfl) ?_ ?_
  rotate_left
  · go_simp
    with_reducible rfl
  simp only [Act.put, List.setIfInBounds_toArray, List.set_cons_zero, List.set_cons_succ]
  refine wpList_valg (v := ?_) (by rfl) ?_ ?_
  rotate_left
  · go_simp
    with_reducible rfl
  simp only [Act.put, List.setIfInBounds_toArray, List.set_cons_zero, List.set_cons_succ]
  refine wpList_val (v := ?_) (by rfl) ?_ ?_
  rotate_left
  · go_simp
    with_reducible rfl
  simp only [Act.put, List.setIfInBounds_toArray, List.set_cons_zero, List.set_cons_succ]
  refine wpList_val (v := ?_) (by rfl) ?_ ?_
  rotate_left
  · go_simp
    with_reducible rfl
  simp only [Act.put, List.setIfInBounds_toArray, List.set_cons_zero, List.set_cons_succ]
  refine wpList_valg (by rfl) (run_load_row 32 (.tmp 3) rfl M3 rfl 32 rc (0, 0) _ R3E.out Try.underlying32 rfl IR.out) ?_
  simp only [Act.put, List.setIfInBounds_toArray, List.set_cons_zero, List.set_cons_succ]
  go_wp2_with fail
  refine (put_ring w14 (.agg rc) xs d _ RGE.out (by rw [XL.out]; omega) (by rw [XF.out]; omega) (by rw [DL.out]; omega)).mono ?_
  rintro e w15 ⟨u, rfl, ho, hb⟩
  obtain ⟨Au, cu, rfl, _, _, _, _⟩ := ho.read
  rw [show (xs.flatten ++ d).length = 1109 by rw [List.length_append, XF.out, DL.out]]
  have BF := Lib.hid (show Below w.heap.size w w15 from HE.out.bel.trans (hb.mono HE.out.bel.size))
  clear ho hb
  go_wp2_with fail
  go_ret
  exact ⟨rfl, BF.out⟩
end Go.Proofs.Ytlocplkjokoknaa

/- What a source of the bytes of 'again' tells at first: no window of 3 bytes stands twice in it. No condition. -/
namespace Go.Proofs.Ytlocplkjokoknaa
set_option linter.unusedVariables false
set_option linter.unusedSimpArgs false
set_option maxRecDepth 100000
def againF : List UInt8 := [97, 103, 97, 105, 110]
def againS : List UInt8 := [180, 201, 225, 64, 97, 194, 253, 69, 59, 54, 112, 14, 59, 13, 160, 8, 219, 33, 137, 199, 17, 172, 98, 159, 15, 88, 48, 137, 22, 78, 38, 125]
theorem againS_eq : hashL againF = againS := by decide +kernel
def againB0 : List (List UInt8) := [[92, 163, 124, 22, 203, 85, 144, 153, 59, 208, 251, 223, 68, 65, 147, 236, 61, 121, 22, 153, 165, 183, 61, 162, 147, 243, 247, 7, 220, 102, 105, 43], [125, 75, 58, 238, 201, 215, 46, 213, 2, 168, 190, 72, 179, 199, 0, 236, 219, 40, 193, 129, 221, 235, 62, 246, 63, 29, 118, 97, 64, 41, 72, 199], [136, 8, 132, 81, 45, 127, 8, 227, 214, 70, 94, 102, 137, 146, 243, 129, 149, 179, 123, 109, 46, 132, 183, 130, 86, 0, 200, 132, 148, 221, 15, 47], [178, 56, 14, 177, 185, 146, 111, 196, 9, 212, 113, 51, 22, 126, 61, 162, 170, 180, 176, 32, 209, 12, 195, 50, 2, 35, 157, 50, 135, 54, 193, 67], [119, 62, 35, 214, 211, 141, 122, 65, 10, 218, 236, 191, 20, 114, 99, 63, 34, 153, 224, 125, 170, 188, 194, 67, 53, 186, 236, 109, 201, 250, 76, 105], [107, 64, 253, 228, 113, 178, 159, 77, 72, 36, 143, 154, 229, 130, 215, 173, 18, 73, 61, 48, 232, 213, 96, 140, 129, 123, 189, 61, 160, 24, 79, 58]]
theorem againB0_eq : (List.range 6).map (fun j => hashL (againS ++ beL 8 (0 + j))) = againB0 := by decide +kernel
def againB1 : List (List UInt8) := [[233, 125, 149, 116, 99, 230, 203, 239, 84, 119, 147, 164, 242, 128, 111, 254, 169, 200, 137, 112, 49, 84, 124, 69, 124, 72, 210, 198, 91, 103, 4, 204], [69, 79, 190, 162, 56, 81, 183, 230, 247, 246, 255, 134, 230, 232, 88, 104, 248, 55, 48, 9, 86, 92, 41, 72, 81, 62, 248, 14, 113, 95, 64, 72], [101, 86, 195, 66, 220, 170, 85, 149, 116, 213, 225, 129, 38, 5, 244, 76, 136, 23, 234, 232, 131, 245, 185, 179, 239, 126, 87, 238, 69, 230, 114, 206], [146, 120, 81, 220, 91, 10, 208, 16, 98, 104, 79, 23, 93, 66, 96, 7, 167, 32, 202, 204, 122, 76, 180, 70, 124, 18, 179, 190, 53, 78, 159, 228], [165, 48, 240, 160, 220, 199, 239, 70, 81, 249, 225, 178, 99, 242, 136, 215, 94, 14, 251, 128, 200, 152, 35, 240, 127, 26, 190, 49, 247, 145, 70, 161], [252, 165, 251, 10, 201, 109, 165, 177, 10, 171, 192, 201, 111, 87, 123, 14, 142, 103, 121, 112, 240, 212, 178, 68, 135, 76, 233, 20, 205, 254, 21, 213]]
theorem againB1_eq : (List.range 6).map (fun j => hashL (againS ++ beL 8 (6 + j))) = againB1 := by decide +kernel
def againB2 : List (List UInt8) := [[234, 27, 238, 177, 63, 108, 193, 76, 209, 144, 71, 141, 212, 131, 162, 142, 197, 1, 78, 240, 67, 202, 13, 233, 4, 149, 97, 238, 39, 204, 12, 71], [213, 90, 11, 219, 0, 164, 203, 35, 98, 174, 115, 223, 207, 18, 115, 2, 57, 126, 56, 160, 27, 18, 138, 5, 199, 38, 165, 233, 154, 202, 122, 13], [85, 192, 54, 169, 198, 5, 110, 178, 204, 27, 163, 238, 13, 9, 166, 125, 155, 2, 6, 197, 48, 86, 142, 91, 32, 228, 187, 152, 93, 76, 112, 189], [213, 110, 246, 166, 19, 17, 75, 220, 235, 125, 181, 30, 73, 94, 169, 134, 235, 121, 26, 23, 185, 27, 202, 20, 202, 59, 107, 231, 130, 132, 58, 122], [207, 36, 183, 119, 162, 124, 158, 135, 28, 70, 249, 38, 189, 157, 7, 252, 244, 161, 138, 204, 74, 102, 100, 174, 13, 112, 137, 231, 235, 247, 68, 25], [152, 145, 227, 120, 85, 68, 196, 139, 250, 52, 49, 109, 175, 30, 164, 191, 175, 112, 163, 143, 154, 47, 72, 74, 100, 5, 14, 58, 21, 96, 122, 90]]
theorem againB2_eq : (List.range 6).map (fun j => hashL (againS ++ beL 8 (12 + j))) = againB2 := by decide +kernel
def againB3 : List (List UInt8) := [[58, 209, 188, 181, 98, 44, 3, 173, 17, 112, 181, 167, 58, 22, 115, 158, 219, 57, 159, 41, 157, 240, 146, 144, 93, 225, 190, 102, 209, 174, 163, 123], [15, 88, 172, 49, 194, 72, 244, 172, 209, 135, 170, 2, 74, 93, 167, 190, 95, 134, 162, 32, 181, 123, 240, 176, 188, 217, 243, 233, 161, 68, 225, 95], [180, 230, 77, 125, 97, 211, 27, 14, 20, 65, 96, 179, 33, 216, 62, 189, 105, 2, 69, 128, 27, 127, 57, 144, 168, 166, 144, 3, 67, 105, 248, 179], [238, 135, 2, 139, 190, 152, 76, 105, 57, 173, 8, 250, 146, 10, 49, 19, 217, 166, 149, 25, 3, 187, 231, 213, 39, 94, 219, 44, 215, 129, 255, 157], [124, 156, 61, 197, 239, 6, 249, 68, 175, 254, 227, 152, 74, 109, 38, 165, 73, 118, 251, 214, 103, 89, 151, 166, 106, 191, 13, 248, 183, 34, 24, 60], [12, 171, 61, 234, 18, 131, 245, 53, 242, 92, 137, 22, 247, 157, 65, 85, 165, 86, 233, 76, 202, 79, 10, 172, 110, 231, 93, 52, 9, 108, 85, 166]]
theorem againB3_eq : (List.range 6).map (fun j => hashL (againS ++ beL 8 (18 + j))) = againB3 := by decide +kernel
def againB4 : List (List UInt8) := [[118, 233, 57, 28, 6, 91, 57, 22, 229, 119, 221, 111, 242, 0, 205, 14, 72, 2, 143, 159, 215, 116, 168, 2, 32, 113, 107, 169, 155, 57, 145, 124], [80, 130, 246, 34, 44, 219, 170, 224, 73, 34, 28, 1, 153, 45, 50, 36, 146, 127, 35, 29, 8, 81, 180, 244, 176, 15, 249, 33, 215, 201, 155, 80], [255, 138, 180, 175, 201, 105, 201, 19, 213, 138, 91, 3, 171, 142, 57, 164, 161, 235, 117, 0, 40, 188, 75, 99, 210, 159, 247, 54, 173, 136, 188, 162], [123, 83, 184, 104, 22, 64, 52, 153, 83, 225, 136, 163, 57, 223, 136, 162, 107, 18, 86, 37, 80, 61, 158, 118, 253, 6, 229, 57, 94, 140, 47, 241], [80, 186, 72, 124, 200, 65, 159, 207, 17, 29, 153, 92, 70, 29, 6, 230, 89, 12, 38, 150, 176, 127, 105, 176, 68, 148, 236, 97, 154, 194, 151, 196], [91, 226, 233, 223, 57, 34, 141, 67, 214, 234, 123, 76, 218, 186, 248, 113, 169, 243, 255, 140, 156, 64, 65, 246, 0, 154, 28, 110, 197, 249, 26, 246]]
theorem againB4_eq : (List.range 6).map (fun j => hashL (againS ++ beL 8 (24 + j))) = againB4 := by decide +kernel
def againB5 : List (List UInt8) := [[207, 63, 112, 243, 89, 188, 254, 151, 234, 0, 75, 81, 16, 140, 197, 229, 188, 75, 93, 142, 172, 144, 123, 207, 44, 115, 84, 53, 103, 119, 64, 104], [189, 46, 227, 98, 85, 168, 250, 99, 137, 162, 41, 240, 102, 188, 234, 193, 141, 237, 120, 20, 216, 68, 189, 90, 133, 12, 107, 228, 68, 220, 84, 29], [213, 244, 191, 21, 7, 119, 75, 20, 73, 45, 213, 235, 49, 207, 9, 236, 113, 84, 64, 245, 219, 49, 197, 56, 160, 167, 34, 191, 134, 92, 205, 54], [61, 189, 23, 79, 85, 109, 60, 42, 6, 153, 102, 59, 15, 106, 11, 143, 103, 107, 135, 59, 106, 53, 32, 134, 254, 27, 227, 86, 240, 104, 66, 42], [22, 248, 248, 252, 152, 173, 166, 53, 142, 165, 153, 121, 76, 28, 43, 236, 101, 24, 80, 125, 133, 254, 92, 235, 184, 206, 17, 43, 32, 44, 196, 222], [222, 199, 78, 161, 198, 15, 49, 219, 55, 109, 235, 130, 85, 157, 52, 192, 126, 137, 205, 107, 64, 230, 199, 188, 63, 111, 82, 151, 59, 124, 109, 150]]
theorem againB5_eq : (List.range 6).map (fun j => hashL (againS ++ beL 8 (30 + j))) = againB5 := by decide +kernel
def againB6 : List (List UInt8) := [[251, 185, 43, 18, 249, 133, 157, 231, 197, 57, 5, 126, 34, 224, 197, 144, 46, 76, 118, 196, 163, 255, 48, 31, 99, 61, 71, 37, 40, 105, 138, 186], [39, 94, 148, 108, 69, 48, 208, 53, 41, 173, 3, 228, 199, 88, 76, 83, 127, 214, 53, 131, 168, 227, 118, 206, 160, 21, 87, 172, 212, 169, 68, 219], [85, 110, 48, 77, 223, 43, 35, 229, 61, 139, 70, 60, 196, 39, 47, 119, 216, 131, 254, 119, 54, 215, 131, 189, 149, 222, 127, 84, 188, 61, 211, 38], [135, 152, 135, 179, 200, 172, 71, 134, 250, 238, 131, 220, 58, 234, 43, 112, 232, 141, 151, 131, 231, 149, 229, 189, 96, 39, 17, 62, 14, 119, 143, 24], [31, 152, 124, 79, 115, 230, 154, 85, 8, 211, 138, 168, 189, 189, 182, 203, 51, 154, 73, 133, 188, 57, 154, 130, 66, 58, 38, 106, 44, 25, 69, 138], [211, 246, 196, 138, 173, 246, 84, 107, 236, 100, 6, 253, 49, 29, 4, 240, 136, 85, 167, 162, 77, 38, 161, 229, 101, 210, 245, 115, 155, 191, 83, 126]]
theorem againB6_eq : (List.range 6).map (fun j => hashL (againS ++ beL 8 (36 + j))) = againB6 := by decide +kernel
def againB7 : List (List UInt8) := [[21, 242, 131, 60, 173, 229, 96, 183, 234, 36, 215, 42, 83, 134, 238, 93, 113, 56, 2, 236, 66, 109, 99, 207, 22, 66, 29, 252, 108, 245, 103, 89], [247, 145, 149, 192, 26, 97, 81, 43, 225, 16, 133, 37, 176, 31, 255, 90, 35, 8, 246, 114, 125, 116, 254, 202, 253, 81, 81, 43, 147, 233, 5, 96], [78, 231, 146, 196, 251, 231, 128, 3, 242, 53, 204, 172, 99, 55, 129, 186, 114, 115, 155, 155, 49, 164, 131, 103, 189, 163, 1, 131, 247, 23, 182, 211], [86, 33, 216, 51, 145, 6, 230, 127, 151, 124, 195, 76, 69, 45, 193, 205, 149, 7, 117, 119, 2, 158, 162, 37, 184, 29, 64, 100, 3, 8, 53, 4], [80, 207, 78, 57, 64, 41, 87, 215, 102, 167, 33, 212, 169, 22, 57, 168, 118, 220, 234, 213, 132, 148, 8, 23, 217, 103, 85, 75, 11, 21, 131, 23], [213, 43, 17, 180, 108, 29, 151, 74, 88, 158, 243, 237, 132, 200, 90, 192, 21, 30, 129, 59, 56, 198, 237, 192, 189, 67, 115, 135, 90, 185, 3, 54]]
theorem againB7_eq : (List.range 6).map (fun j => hashL (againS ++ beL 8 (42 + j))) = againB7 := by decide +kernel
def againB8 : List (List UInt8) := [[193, 150, 162, 41, 25, 46, 179, 69, 30, 198, 162, 216, 254, 27, 59, 146, 106, 82, 62, 75, 87, 194, 208, 52, 97, 131, 159, 215, 44, 178, 71, 105], [156, 20, 137, 183, 236, 129, 17, 204, 82, 160, 133, 102, 83, 31, 156, 21, 37, 41, 168, 104, 210, 143, 242, 234, 155, 143, 239, 182, 240, 59, 122, 110], [220, 184, 55, 19, 153, 102, 251, 162, 206, 243, 243, 176, 208, 175, 23, 233, 13, 207, 39, 86, 43, 39, 83, 105, 100, 168, 66, 109, 19, 63, 54, 97], [63, 211, 81, 206, 73, 172, 208, 112, 239, 17, 209, 29, 231, 49, 196, 173, 164, 77, 128, 204, 155, 224, 164, 72, 187, 61, 50, 156, 148, 78, 11, 218], [51, 150, 246, 205, 116, 25, 229, 64, 143, 25, 188, 145, 233, 224, 237, 29, 241, 27, 78, 139, 54, 32, 100, 38, 67, 246, 187, 92, 21, 185, 43, 6], [29, 153, 164, 87, 11, 132, 140, 233, 205, 100, 247, 12, 228, 142, 199, 138, 153, 104, 217, 170, 228, 170, 120, 167, 134, 60, 47, 213, 198, 31, 211, 151]]
theorem againB8_eq : (List.range 6).map (fun j => hashL (againS ++ beL 8 (48 + j))) = againB8 := by decide +kernel
def againB9 : List (List UInt8) := [[164, 18, 139, 20, 0, 201, 164, 40, 193, 148, 86, 139, 112, 124, 88, 128, 241, 104, 59, 149, 130, 25, 148, 65, 239, 1, 253, 110, 44, 4, 46, 128], [200, 135, 157, 111, 142, 2, 245, 46, 17, 13, 31, 7, 121, 10, 78, 68, 163, 211, 154, 67, 139, 152, 19, 182, 60, 147, 11, 42, 228, 8, 126, 208], [223, 24, 217, 206, 169, 60, 224, 145, 188, 144, 205, 82, 83, 196, 148, 102, 123, 45, 51, 163, 31, 6, 17, 67, 25, 104, 243, 162, 218, 156, 97, 42], [78, 68, 28, 131, 213, 181, 227, 95, 76, 187, 131, 134, 3, 160, 228, 203, 134, 74, 232, 72, 12, 1, 17, 239, 195, 230, 142, 217, 45, 255, 122, 24], [60, 188, 179, 195, 91, 230, 79, 209, 227, 67, 216, 83, 150, 171, 222, 78, 176, 178, 31, 87, 56, 225, 205, 164, 115, 85, 132, 119, 17, 21, 163, 121], [197, 86, 191, 105, 123, 224, 39, 141, 7, 239, 115, 57, 129, 108, 29, 166, 93, 40, 139, 115, 255, 185, 183, 84, 36, 219, 9, 97, 246, 125, 92, 144]]
theorem againB9_eq : (List.range 6).map (fun j => hashL (againS ++ beL 8 (54 + j))) = againB9 := by decide +kernel
def againB10 : List (List UInt8) := [[47, 124, 54, 182, 245, 194, 70, 30, 232, 111, 122, 223, 235, 67, 216, 182, 224, 183, 74, 231, 112, 189, 186, 164, 120, 213, 235, 21, 221, 143, 226, 170], [210, 115, 211, 187, 117, 72, 245, 174, 178, 229, 72, 100, 0, 115, 73, 95, 105, 189, 221, 57, 87, 94, 177, 168, 10, 177, 171, 19, 227, 155, 88, 156], [32, 93, 123, 65, 42, 76, 125, 44, 163, 63, 128, 124, 248, 200, 95, 254, 89, 196, 121, 19, 179, 3, 15, 104, 169, 92, 21, 130, 129, 8, 74, 230], [149, 49, 247, 21, 178, 115, 171, 230, 220, 64, 238, 93, 171, 251, 11, 61, 144, 13, 198, 83, 185, 245, 11, 190, 1, 71, 10, 57, 110, 37, 186, 141], [155, 199, 186, 42, 210, 214, 79, 133, 105, 168, 66, 50, 38, 74, 126, 240, 101, 74, 248, 208, 8, 47, 2, 36, 183, 208, 69, 211, 247, 71, 160, 22], [81, 37, 126, 131, 139, 243, 47, 156, 221, 128, 16, 163, 226, 249, 192, 40, 150, 77, 70, 67, 3, 89, 76, 116, 238, 40, 34, 191, 114, 104, 202, 192]]
theorem againB10_eq : (List.range 6).map (fun j => hashL (againS ++ beL 8 (60 + j))) = againB10 := by decide +kernel
def againB11 : List (List UInt8) := [[194, 118, 36, 151, 185, 148, 239, 44, 54, 169, 72, 103, 231, 44, 126, 185, 67, 238, 252, 34, 206, 75, 141, 92, 215, 132, 66, 99, 27, 182, 19, 243], [114, 235, 214, 243, 10, 51, 214, 52, 164, 16, 81, 226, 248, 13, 93, 171, 79, 241, 245, 166, 15, 178, 112, 116, 88, 145, 12, 156, 152, 215, 15, 33], [54, 196, 236, 90, 227, 169, 237, 169, 189, 158, 98, 237, 93, 131, 46, 51, 227, 181, 134, 255, 113, 44, 146, 17, 98, 246, 249, 71, 164, 165, 100, 96], [91, 173, 131, 228, 51, 211, 57, 192, 200, 242, 249, 179, 29, 59, 160, 79, 181, 232, 33, 39, 214, 209, 94, 71, 57, 42, 177, 186, 181, 130, 181, 203], [181, 22, 192, 82, 153, 140, 132, 48, 186, 190, 137, 249, 39, 99, 183, 57, 226, 45, 151, 133, 69, 146, 175, 81, 49, 148, 224, 222, 206, 207, 210, 179], [211, 105, 189, 228, 199, 96, 152, 97, 242, 231, 54, 47, 177, 15, 93, 203, 201, 178, 89, 167, 210, 24, 207, 21, 136, 88, 243, 148, 177, 7, 109, 193]]
theorem againB11_eq : (List.range 6).map (fun j => hashL (againS ++ beL 8 (66 + j))) = againB11 := by decide +kernel
def againB12 : List (List UInt8) := [[53, 206, 122, 10, 31, 244, 111, 128, 52, 81, 155, 146, 204, 113, 92, 190, 196, 38, 231, 77, 125, 79, 51, 80, 197, 17, 194, 3, 198, 154, 57, 63], [111, 158, 229, 171, 200, 236, 210, 196, 207, 186, 132, 42, 162, 156, 95, 57, 98, 21, 203, 134, 37, 206, 116, 179, 11, 196, 84, 72, 29, 31, 68, 207], [79, 216, 216, 253, 44, 31, 67, 41, 91, 134, 185, 27, 90, 143, 87, 179, 121, 16, 222, 24, 54, 246, 161, 168, 232, 209, 220, 27, 100, 109, 247, 250], [218, 69, 113, 190, 24, 81, 215, 226, 126, 78, 31, 37, 202, 225, 38, 37, 23, 39, 247, 73, 30, 208, 193, 220, 18, 82, 243, 25, 138, 25, 88, 24], [132, 248, 152, 163, 178, 4, 132, 53, 195, 80, 160, 21, 1, 147, 6, 23, 228, 69, 9, 156, 102, 28, 123, 169, 147, 180, 111, 140, 241, 100, 149, 240], [17, 231, 162, 42, 2, 121, 159, 159, 77, 234, 243, 36, 126, 97, 181, 22, 65, 193, 241, 191, 160, 13, 236, 128, 247, 5, 73, 91, 41, 206, 154, 56]]
theorem againB12_eq : (List.range 6).map (fun j => hashL (againS ++ beL 8 (72 + j))) = againB12 := by decide +kernel
def againB13 : List (List UInt8) := [[31, 64, 52, 61, 174, 164, 201, 134, 209, 207, 132, 179, 25, 62, 139, 107, 29, 197, 100, 86, 151, 154, 94, 175, 34, 187, 40, 65, 9, 236, 137, 27], [213, 222, 234, 254, 113, 243, 182, 49, 148, 157, 169, 252, 149, 75, 109, 199, 222, 42, 117, 243, 221, 204, 128, 7, 48, 143, 143, 131, 68, 211, 56, 77], [174, 100, 99, 222, 163, 73, 204, 188, 46, 58, 26, 142, 88, 184, 74, 212, 126, 115, 38, 255, 240, 159, 10, 215, 226, 28, 42, 32, 110, 237, 198, 39], [210, 192, 99, 44, 2, 200, 246, 200, 55, 43, 112, 242, 84, 93, 32, 165, 148, 172, 78, 27, 165, 146, 219, 253, 207, 100, 5, 0, 198, 194, 38, 155], [68, 170, 130, 136, 223, 186, 114, 69, 6, 81, 47, 76, 120, 17, 210, 193, 88, 244, 5, 44, 104, 2, 203, 216, 232, 91, 14, 234, 85, 83, 197, 89], [74, 61, 127, 149, 147, 183, 1, 58, 1, 145, 249, 35, 91, 90, 240, 238, 12, 188, 194, 63, 215, 211, 36, 64, 127, 52, 149, 117, 188, 169, 144, 17]]
theorem againB13_eq : (List.range 6).map (fun j => hashL (againS ++ beL 8 (78 + j))) = againB13 := by decide +kernel
def againB14 : List (List UInt8) := [[165, 61, 194, 93, 202, 201, 160, 118, 160, 29, 89, 198, 253, 242, 5, 94, 41, 180, 214, 153, 92, 175, 246, 198, 129, 235, 176, 164, 200, 185, 137, 204], [31, 90, 49, 25, 202, 235, 238, 246, 102, 251, 218, 102, 231, 104, 44, 123, 118, 95, 30, 4, 190, 22, 142, 237, 200, 25, 173, 93, 83, 202, 44, 220], [79, 238, 23, 208, 172, 125, 241, 9, 151, 67, 140, 173, 14, 238, 62, 250, 243, 214, 104, 245, 150, 220, 238, 154, 10, 88, 213, 199, 186, 147, 136, 82], [211, 202, 77, 130, 180, 12, 133, 61, 233, 137, 192, 176, 88, 23, 103, 37, 251, 23, 26, 49, 108, 32, 178, 26, 248, 219, 157, 248, 11, 253, 49, 235]]
theorem againB14_eq : (List.range 4).map (fun j => hashL (againS ++ beL 8 (84 + j))) = againB14 := by decide +kernel
def againBs : List (List UInt8) := againB0 ++ againB1 ++ againB2 ++ againB3 ++ againB4 ++ againB5 ++ againB6 ++ againB7 ++ againB8 ++ againB9 ++ againB10 ++ againB11 ++ againB12 ++ againB13 ++ againB14
def againT : List UInt8 := againF ++ againBs.flatten
theorem againT_length : againT.length = 2821 := by decide +kernel
theorem againBs_get (j : Nat) (hj : j < 88) : hashL (againS ++ beL 8 j) = againBs.getD j [] := by
  have key : ∀ (c n : Nat) (B : List (List UInt8)), (List.range n).map (fun j => hashL (againS ++ beL 8 (c + j))) = B → ∀ i, i < n → hashL (againS ++ beL 8 (c + i)) = B.getD i [] := by
    intro c n B h i hi
    rw [← h]
    simp [List.getD_eq_getElem?_getD, hi]
  have k0 := key 0 6 _ againB0_eq
  have k1 := key 6 6 _ againB1_eq
  have k2 := key 12 6 _ againB2_eq
  have k3 := key 18 6 _ againB3_eq
  have k4 := key 24 6 _ againB4_eq
  have k5 := key 30 6 _ againB5_eq
  have k6 := key 36 6 _ againB6_eq
  have k7 := key 42 6 _ againB7_eq
  have k8 := key 48 6 _ againB8_eq
  have k9 := key 54 6 _ againB9_eq
  have k10 := key 60 6 _ againB10_eq
  have k11 := key 66 6 _ againB11_eq
  have k12 := key 72 6 _ againB12_eq
  have k13 := key 78 6 _ againB13_eq
  have k14 := key 84 4 _ againB14_eq
  clear key
  by_cases h0 : j < 6
  · obtain ⟨i, rfl⟩ : ∃ i, j = 0 + i := ⟨j - 0, by omega⟩
    rw [k0 i (by omega)]
    match i, (show i < 6 by omega) with
    | 0, _ => rfl
    | 1, _ => rfl
    | 2, _ => rfl
    | 3, _ => rfl
    | 4, _ => rfl
    | 5, _ => rfl
    | n + 6, h => exact absurd h (by omega)
  by_cases h1 : j < 12
  · obtain ⟨i, rfl⟩ : ∃ i, j = 6 + i := ⟨j - 6, by omega⟩
    rw [k1 i (by omega)]
    match i, (show i < 6 by omega) with
    | 0, _ => rfl
    | 1, _ => rfl
    | 2, _ => rfl
    | 3, _ => rfl
    | 4, _ => rfl
    | 5, _ => rfl
    | n + 6, h => exact absurd h (by omega)
  by_cases h2 : j < 18
  · obtain ⟨i, rfl⟩ : ∃ i, j = 12 + i := ⟨j - 12, by omega⟩
    rw [k2 i (by omega)]
    match i, (show i < 6 by omega) with
    | 0, _ => rfl
    | 1, _ => rfl
    | 2, _ => rfl
    | 3, _ => rfl
    | 4, _ => rfl
    | 5, _ => rfl
    | n + 6, h => exact absurd h (by omega)
  by_cases h3 : j < 24
  · obtain ⟨i, rfl⟩ : ∃ i, j = 18 + i := ⟨j - 18, by omega⟩
    rw [k3 i (by omega)]
    match i, (show i < 6 by omega) with
    | 0, _ => rfl
    | 1, _ => rfl
    | 2, _ => rfl
    | 3, _ => rfl
    | 4, _ => rfl
    | 5, _ => rfl
    | n + 6, h => exact absurd h (by omega)
  by_cases h4 : j < 30
  · obtain ⟨i, rfl⟩ : ∃ i, j = 24 + i := ⟨j - 24, by omega⟩
    rw [k4 i (by omega)]
    match i, (show i < 6 by omega) with
    | 0, _ => rfl
    | 1, _ => rfl
    | 2, _ => rfl
    | 3, _ => rfl
    | 4, _ => rfl
    | 5, _ => rfl
    | n + 6, h => exact absurd h (by omega)
  by_cases h5 : j < 36
  · obtain ⟨i, rfl⟩ : ∃ i, j = 30 + i := ⟨j - 30, by omega⟩
    rw [k5 i (by omega)]
    match i, (show i < 6 by omega) with
    | 0, _ => rfl
    | 1, _ => rfl
    | 2, _ => rfl
    | 3, _ => rfl
    | 4, _ => rfl
    | 5, _ => rfl
    | n + 6, h => exact absurd h (by omega)
  by_cases h6 : j < 42
  · obtain ⟨i, rfl⟩ : ∃ i, j = 36 + i := ⟨j - 36, by omega⟩
    rw [k6 i (by omega)]
    match i, (show i < 6 by omega) with
    | 0, _ => rfl
    | 1, _ => rfl
    | 2, _ => rfl
    | 3, _ => rfl
    | 4, _ => rfl
    | 5, _ => rfl
    | n + 6, h => exact absurd h (by omega)
  by_cases h7 : j < 48
  · obtain ⟨i, rfl⟩ : ∃ i, j = 42 + i := ⟨j - 42, by omega⟩
    rw [k7 i (by omega)]
    match i, (show i < 6 by omega) with
    | 0, _ => rfl
    | 1, _ => rfl
    | 2, _ => rfl
    | 3, _ => rfl
    | 4, _ => rfl
    | 5, _ => rfl
    | n + 6, h => exact absurd h (by omega)
  by_cases h8 : j < 54
  · obtain ⟨i, rfl⟩ : ∃ i, j = 48 + i := ⟨j - 48, by omega⟩
    rw [k8 i (by omega)]
    match i, (show i < 6 by omega) with
    | 0, _ => rfl
    | 1, _ => rfl
    | 2, _ => rfl
    | 3, _ => rfl
    | 4, _ => rfl
    | 5, _ => rfl
    | n + 6, h => exact absurd h (by omega)
  by_cases h9 : j < 60
  · obtain ⟨i, rfl⟩ : ∃ i, j = 54 + i := ⟨j - 54, by omega⟩
    rw [k9 i (by omega)]
    match i, (show i < 6 by omega) with
    | 0, _ => rfl
    | 1, _ => rfl
    | 2, _ => rfl
    | 3, _ => rfl
    | 4, _ => rfl
    | 5, _ => rfl
    | n + 6, h => exact absurd h (by omega)
  by_cases h10 : j < 66
  · obtain ⟨i, rfl⟩ : ∃ i, j = 60 + i := ⟨j - 60, by omega⟩
    rw [k10 i (by omega)]
    match i, (show i < 6 by omega) with
    | 0, _ => rfl
    | 1, _ => rfl
    | 2, _ => rfl
    | 3, _ => rfl
    | 4, _ => rfl
    | 5, _ => rfl
    | n + 6, h => exact absurd h (by omega)
  by_cases h11 : j < 72
  · obtain ⟨i, rfl⟩ : ∃ i, j = 66 + i := ⟨j - 66, by omega⟩
    rw [k11 i (by omega)]
    match i, (show i < 6 by omega) with
    | 0, _ => rfl
    | 1, _ => rfl
    | 2, _ => rfl
    | 3, _ => rfl
    | 4, _ => rfl
    | 5, _ => rfl
    | n + 6, h => exact absurd h (by omega)
  by_cases h12 : j < 78
  · obtain ⟨i, rfl⟩ : ∃ i, j = 72 + i := ⟨j - 72, by omega⟩
    rw [k12 i (by omega)]
    match i, (show i < 6 by omega) with
    | 0, _ => rfl
    | 1, _ => rfl
    | 2, _ => rfl
    | 3, _ => rfl
    | 4, _ => rfl
    | 5, _ => rfl
    | n + 6, h => exact absurd h (by omega)
  by_cases h13 : j < 84
  · obtain ⟨i, rfl⟩ : ∃ i, j = 78 + i := ⟨j - 78, by omega⟩
    rw [k13 i (by omega)]
    match i, (show i < 6 by omega) with
    | 0, _ => rfl
    | 1, _ => rfl
    | 2, _ => rfl
    | 3, _ => rfl
    | 4, _ => rfl
    | 5, _ => rfl
    | n + 6, h => exact absurd h (by omega)
  obtain ⟨i, rfl⟩ : ∃ i, j = 84 + i := ⟨j - 84, by omega⟩
  rw [k14 i (by omega)]
  match i, (show i < 4 by omega) with
  | 0, _ => rfl
  | 1, _ => rfl
  | 2, _ => rfl
  | 3, _ => rfl
  | n + 4, h => exact absurd h (by omega)
theorem againT_get (i : Nat) (hi : i < againT.length) : byteS againF i = againT.getD i 0 := by
  rw [againT_length] at hi
  by_cases h : i < 5
  · rw [byteS, if_pos (by show i < 5; exact h), againT, List.getD_eq_getElem?_getD, List.getD_eq_getElem?_getD, List.getElem?_append_left (by show i < 5; exact h)]
  · rw [byteS, if_neg (by show ¬ i < 5; exact h), againS_eq, show againF.length = 5 from rfl, againBs_get _ (by omega), againT, List.getD_eq_getElem?_getD (l := againF ++ _), List.getElem?_append_right (by show 5 ≤ i; omega), show againF.length = 5 from rfl]
    have hf : ∀ (B : List (List UInt8)), (∀ b ∈ B, b.length = 32) → ∀ i, i / 32 < B.length → (B.flatten)[i]?.getD 0 = (B.getD (i / 32) []).getD (i % 32) 0 := flat_get
    exact (hf _ (by decide +kernel) _ (by have h2 : againBs.length = 88 := (by decide +kernel); omega)).symm
theorem again_once (u v n : Nat) (hn : 3 ≤ n) (hu : u + n ≤ 2821) (hv : v + n ≤ 2821) (he : tellS againF u n = tellS againF v n) : u = v := by
  have h : (insAll (wins (256 ^ (2 + 1)) (valO 0 (natT (againT.take 2))) (natT (againT.drop 2))) .nil).isSome = true := by decide +kernel
  obtain ⟨t, ht⟩ := Option.isSome_iff_exists.1 h
  exact told_once againT_get ht u v n (by omega) (by rw [againT_length]; exact hu) (by rw [againT_length]; exact hv) he
end Go.Proofs.Ytlocplkjokoknaa

/- append at slices of structs. No condition but those each theorem states. -/
namespace Go.Proofs.Ytlocplkjokoknaa
set_option linter.unusedVariables false
set_option linter.unusedSimpArgs false
open Go.RowKit

/-- A slice type's rows of the program's table: elements of sz cells, of so many bytes. -/
structure SlK (P : Program) (t e : TypeId) (z : Value) (sz b : Nat) : Prop where
  ht : P.underlying t = some (.slice e)
  hinfo : (P.info? e).map (fun i => (i.zero, i.size, i.bytes)) = some (some z, sz, b)
  hz : z.cells.size = sz
  h0 : 0 < sz
def OwnK (w : World) (base : Nat) (e : TypeId) (sz : Nat) (v : Value) (n : Nat) (l : List Value) : Prop := w.ownsRow base e sz v n l
theorem OwnK.read {w : World} {base : Nat} {e : TypeId} {sz : Nat} {v : Value} {n : Nat} {l : List Value} (h : OwnK w base e sz v n l) :
    l.length = n * sz ∧ ∃ A c, v = .slice A n c ∧ RdV w A l ∧ n ≤ c ∧ c ≤ 9223372036854775807 ∧ ∀ a, A = some a → base ≤ a.block ∧ a.block < w.heap.size := by
  have h' := h
  refine ⟨h.1, ?_⟩
  rcases h'.2 with ⟨hv, hn⟩ | ⟨g, cap, cur, hv, hb, hh, hnc, hcm, hcs, _⟩
  · exact ⟨none, 0, by rw [hv, hn], fun j v hj => by have := (List.getElem?_eq_some_iff.1 hj).1; have := h.1; rw [hn] at this; omega, by omega, by omega, fun a e => by cases e⟩
  · refine ⟨_, cap, hv, fun j u hj => ⟨g, 0, rfl, ?_⟩, hnc, by simpa [maxLen] using hcm, fun a e => by cases e; exact ⟨hb, row_lt hh⟩⟩
    have := World.ownsRow.cells h (g := g) (by rw [hv]; rfl) j _ hj
    rwa [add_at] at this
theorem OwnK.nil (w : World) (base : Nat) (e : TypeId) (sz : Nat) : OwnK w base e sz (.slice none 0 0) 0 [] := World.ownsRow_nil _ _ _ _
theorem OwnK.made (w : World) (base : Nat) (e : TypeId) (sz : Nat) (hb : base ≤ w.heap.size) : OwnK (w.alloc (.cells #[] e)) base e sz (.slice (some ⟨w.heap.size, 0, none⟩) 0 0) 0 [] := World.ownsRow_made w #[] 0 hb (Nat.zero_le _) (by simp)
theorem OwnK.lt {w : World} {base : Nat} {e : TypeId} {sz : Nat} {v : Value} {n : Nat} {l : List Value} (h : OwnK w base e sz v n l) : ∀ k, v.ownBlock = some k → base ≤ k ∧ k < w.heap.size := World.ownsRow.lt h
theorem OwnK.grown {w w' : World} {base : Nat} {e : TypeId} {sz : Nat} {v : Value} {n : Nat} {l : List Value} {r : Option Nat} (h : OwnK w base e sz v n l) (hg : w.grownBy w' r) (hne : v.ownBlock = none ∨ v.ownBlock ≠ r) : OwnK w' base e sz v n l := World.ownsRow.kept h hg hne
theorem OwnK.below {w w' : World} {base : Nat} {e : TypeId} {sz : Nat} {v : Value} {n : Nat} {l : List Value} (h : OwnK w base e sz v n l) (hb : Below w.heap.size w w') : OwnK w' base e sz v n l := h.grown (grown_of_below hb) (by cases v.ownBlock <;> simp)
theorem OwnK.mono {w : World} {base base' : Nat} {e : TypeId} {sz : Nat} {v : Value} {n : Nat} {l : List Value} (h : OwnK w base e sz v n l) (hb : base' ≤ base) : OwnK w base' e sz v n l := by
  refine ⟨h.1, ?_⟩
  rcases h.2 with h2 | ⟨g, cap, cur, hv, hg, r⟩
  · exact .inl h2
  · exact .inr ⟨g, cap, cur, hv, Nat.le_trans hb hg, r⟩
/-- append(v, ys...): the run. -/
theorem run_appK {P : Program} {t e : TypeId} {z : Value} {sz bt : Nat} (T : SlK P t e z sz bt) (ty : TypeId) (W : World) (base : Nat) (v : Value) (n : Nat) (l ys : List Value) (A : Option Addr) (m c : Nat) (hm : ys.length = m * sz) (HO : OwnK W base e sz v n l) (HR : RdV W A ys) (h1 : ∀ u ∈ ys, u.oneCell' = true)
    (hbase : base ≤ W.heap.size) (hl : n + m ≤ 9223372036854775807) (hl2 : (n + m) * bt ≤ 140737488355328) :
    ∃ v1 w1, (Builtin.append_ #[t, t] ty #[v, .slice A m c]).run P W = .ok v1 w1 ∧ OwnK w1 base e sz v1 (n + m) (l ++ ys) ∧ W.grownBy w1 v.ownBlock ∧ (v1.ownBlock = v.ownBlock ∨ v1.ownBlock = some W.heap.size) := by
  obtain ⟨i0, hi, hzz⟩ := Option.map_eq_some_iff.1 T.hinfo
  simp only [Prod.mk.injEq] at hzz
  obtain ⟨hz0, hz1, hz2⟩ := hzz
  have ht := T.ht
  have h0 := T.h0
  rcases ys with _ | ⟨y, r⟩
  · have hm0 : m = 0 := by
      rcases Nat.eq_zero_or_pos m with h | h
      · exact h
      · have := Nat.mul_pos h h0; simp at hm; omega
    subst hm0
    rcases A with _ | ad
    · refine ⟨v, W, ?_, by simpa using HO, World.grownBy.refl W _, .inl rfl⟩
      rcases HO.2 with ⟨rfl, hn⟩ | ⟨g, cap, cur, rfl, _, _, hnc, _⟩
      · simp [Builtin.append_, run_underlying ht, sizeOf, typeInfo, hi, Builtin.lenOf, Builtin.firstCells]
      · simp [Builtin.append_, run_underlying ht, sizeOf, typeInfo, hi, Builtin.lenOf, Builtin.firstCells, hnc, storeCells]
    · obtain ⟨v1, w1, hr, h2, h3, _, h5⟩ := run_append_own_at (P := P) W base t ty e i0 z sz bt ht hi hz0 hz1 hz2 T.hz h0 v n l HO ad 0 c [] (by simp) (by simp) (by simp) (by simpa [maxLen] using hl) (by simpa using hl2) hbase
      exact ⟨v1, w1, hr, by simpa [OwnK] using h2, h3, h5⟩
  · obtain ⟨b, o, rfl, _⟩ := HR 0 y (by simp)
    obtain ⟨v1, w1, hr, h2, h3, _, h5⟩ := run_append_own_at (P := P) W base t ty e i0 z sz bt ht hi hz0 hz1 hz2 T.hz h0 v n l HO ⟨b, o, none⟩ m c (y :: r) hm
      (fun j u hu => by
        obtain ⟨b', o', e', hc'⟩ := HR j u hu
        injection e' with e'
        injection e' with e1 e2
        subst e1 e2
        rw [add_at, hc']) h1 (by simpa [maxLen] using hl) hl2 hbase
    exact ⟨v1, w1, hr, h2, h3, h5⟩
section
variable {P : Program} {ops : Array Oper} {rest : List Oper} {o : Oper} {a : Act} {Q : Exit → Act → World → Prop} {K : Act → World → Prop} {E : Prop} {t e : TypeId} {z : Value} {sz bt : Nat}
theorem appK_wp (T : SlK P t e z sz bt) (s x : Operand) (ho : o.op = .call { callee := .builtin .append, args := #[s, x], argTypes := #[t, t] }) {W : World}
    (base : Nat) (v : Value) (n : Nat) (l ys : List Value) (A : Option Addr) (m c : Nat) (hs : a.eval s = v) (hx : a.eval x = .slice A m c) (hm : ys.length = m * sz) (HO : OwnK W base e sz v n l) (HR : RdV W A ys) (h1 : ∀ u ∈ ys, u.oneCell' = true) (hbase : base ≤ W.heap.size) (hl : n + m ≤ 9223372036854775807) (hl2 : (n + m) * bt ≤ 140737488355328)
    (h : ∀ v1 w1, OwnK w1 base e sz v1 (n + m) (l ++ ys) → W.grownBy w1 v.ownBlock → (v1.ownBlock = v.ownBlock ∨ v1.ownBlock = some W.heap.size) → K (a.put o.dst v1) w1) : o.wp P a W K Q := by
  obtain ⟨v1, w1, hr, h2, h3, h5⟩ := run_appK T o.type W base v n l ys A m c hm HO HR h1 hbase hl hl2
  unfold Oper.wp execOp
  simp only [ho, resolve, invoke, builtin, Sem.run_bind, Sem.run_pure, Result.andThen_ok, List.map_toArray, List.map_cons, List.map_nil, hs, hx, hr]
  exact h v1 w1 h2 h3 h5
/-- append(v, ys...) at a list of operations. -/
theorem appK_list (hgd : o.guard = none) (T : SlK P t e z sz bt) (s x : Operand) (ho : o.op = .call { callee := .builtin .append, args := #[s, x], argTypes := #[t, t] }) {W : World}
    (base : Nat) (v : Value) (n : Nat) (l ys : List Value) (A : Option Addr) (m c : Nat) (hs : a.eval s = v) (hx : a.eval x = .slice A m c) (hm : ys.length = m * sz) (HO : OwnK W base e sz v n l) (HR : RdV W A ys) (h1 : ∀ u ∈ ys, u.oneCell' = true) (hbase : base ≤ W.heap.size) (hl : n + m ≤ 9223372036854775807) (hl2 : (n + m) * bt ≤ 140737488355328)
    (h : ∀ v1 w1, OwnK w1 base e sz v1 (n + m) (l ++ ys) → W.grownBy w1 v.ownBlock → (v1.ownBlock = v.ownBlock ∨ v1.ownBlock = some W.heap.size) → wpList P ops Q rest (a.put o.dst v1) w1) : wpList P ops Q (o :: rest) a W :=
  wpList_plain hgd fun _ hK => appK_wp T s x ho base v n l ys A m c hs hx hm HO HR h1 hbase hl hl2 (fun v1 w1 h1 h2 h3 => hK _ _ (h v1 w1 h1 h2 h3))
end
end Go.Proofs.Ytlocplkjokoknaa

/- Rows of members; a ring without one: plain. No condition but those each theorem states. -/
namespace Go.Proofs.Ytlocplkjokoknaa
set_option linter.unusedVariables false
set_option linter.unusedSimpArgs false
open Go.RowKit

def rowsM (zs : List Mem) : List Value := zs.flatMap RowM
theorem rowsM_length (zs : List Mem) (h : ∀ z ∈ zs, OkM z) : (rowsM zs).length = zs.length * 34 := by
  induction zs with
  | nil => rfl
  | cons z zs ih =>
    rw [rowsM, List.flatMap_cons, List.length_append, RowM_length (h z (by simp))]
    have := ih (fun y hy => h y (by simp [hy]))
    rw [rowsM] at this
    rw [this, List.length_cons]
    omega
theorem rowsM_get (zs : List Mem) (h : ∀ z ∈ zs, OkM z) (j : Nat) (z : Mem) (hj : zs[j]? = some z) (i : Nat) (hi : i < 34) : (rowsM zs)[j * 34 + i]? = (RowM z)[i]? := by
  induction zs generalizing j with
  | nil => simp at hj
  | cons y zs ih =>
    have hy := RowM_length (h y (by simp))
    rw [rowsM, List.flatMap_cons]
    cases j with
    | zero =>
      simp only [List.getElem?_cons_zero, Option.some.injEq] at hj
      subst hj
      rw [Nat.zero_mul, Nat.zero_add, List.getElem?_append_left (by omega)]
    | succ j =>
      simp only [List.getElem?_cons_succ] at hj
      rw [List.getElem?_append_right (by omega), hy, show (j + 1) * 34 + i - 34 = j * 34 + i by omega]
      exact ih (fun x hx => h x (by simp [hx])) j hj
theorem rowsM_append (zs ys : List Mem) : rowsM (zs ++ ys) = rowsM zs ++ rowsM ys := by simp [rowsM]
theorem RdM.ofV {W : World} {A : Option Addr} {zs : List Mem} (h : ∀ z ∈ zs, OkM z) (hr : RdV W A (rowsM zs)) : RdM W A zs := by
  intro j z hj
  have hz := h z (List.mem_of_getElem? hj)
  have hlen := RowM_length hz
  obtain ⟨b, o, e, _⟩ := hr (j * 34) _ (by have := rowsM_get zs h j z hj 0 (by omega); rw [Nat.add_zero] at this; rw [this]; rfl)
  refine ⟨hz, b, o, e, fun i v hi => ?_⟩
  have hi34 : i < 34 := by have := (List.getElem?_eq_some_iff.1 hi).1; omega
  obtain ⟨b', o', e', hc⟩ := hr (j * 34 + i) v (by rw [rowsM_get zs h j z hj i hi34, hi])
  rw [e] at e'
  cases e'
  rw [← hc, Nat.add_assoc]
theorem RdM.toV {W : World} {A : Option Addr} {zs : List Mem} (h : RdM W A zs) : RdV W A (rowsM zs) := by
  intro i v hi
  have hl := rowsM_length zs h.ok
  have hlt : i < (rowsM zs).length := (List.getElem?_eq_some_iff.1 hi).1
  have hq : i / 34 < zs.length := by omega
  obtain ⟨z, b, o, hz, hok, hA, hr⟩ := h.at hq
  have h1 := rowsM_get zs h.ok (i / 34) z hz (i % 34) (Nat.mod_lt _ (by omega))
  rw [show i / 34 * 34 + i % 34 = i by omega] at h1
  refine ⟨b, o, hA, ?_⟩
  have h2 := hr (i % 34) v (by rw [← h1, hi])
  rwa [Nat.add_assoc, show i / 34 * 34 + i % 34 = i by omega] at h2
theorem rowsM_one (zs : List Mem) : ∀ u ∈ rowsM zs, u.oneCell' = true := by
  intro u hu
  simp only [rowsM, List.mem_flatMap] at hu
  obtain ⟨z, _, hz⟩ := hu
  simp only [RowM, B8, List.mem_cons, List.mem_append, List.mem_map, List.mem_nil_iff, or_false] at hz
  rcases hz with rfl | ⟨x, _, rfl⟩ | rfl <;> rfl
/-- 'xs[m:]' of a slice of members. -/
theorem RdM.drop {W : World} {A : Option Addr} {zs : List Mem} (h : RdM W A zs) (m : Nat) : RdM W (A.map fun a => ⟨a.block, a.off + m * 34, none⟩) (zs.drop m) := by
  intro j z hj
  rw [List.getElem?_drop] at hj
  obtain ⟨h1, b, o, e, hr⟩ := h _ z hj
  refine ⟨h1, b, o + m * 34, by rw [e]; rfl, fun i v hi => ?_⟩
  have h2 := hr i v hi
  rwa [show o + (m + j) * 34 + i = o + m * 34 + j * 34 + i by omega] at h2
theorem check_ne {l : List Mem} (h : checkL l = true) : 0 < l.length := by
  cases l with
  | nil => simp [checkL] at h
  | cons z l => simp
/-- Another ring, of the rest: whoever is out is not in it. -/
theorem rest_out {l : List Mem} (h : checkL l = true) {k : Nat} {z : Mem} (hk : l[k]? = some z) (j : Nat) (z' : Mem) (hj : (l.take k ++ l.drop (k + 1))[j]? = some z') : z'.k ≠ z.k := by
  have hlt : k < l.length := (List.getElem?_eq_some_iff.1 hk).1
  have ht : (l.take k).length = k := by rw [List.length_take]; omega
  rcases Nat.lt_or_ge j k with hjk | hjk
  · rw [List.getElem?_append_left (by omega), List.getElem?_take, if_pos hjk] at hj
    exact (check_keys h j k z z' hjk hj hk).1
  · rw [List.getElem?_append_right (by omega), ht, List.getElem?_drop] at hj
    exact fun e => (check_keys h k _ z' z (by omega) hk hj).1 e.symm
/-- A place in the row, by the remainder. -/
theorem rem_place (a : Int) (q : Nat) (hq : 0 < q) (h8 : q ≤ 8) (ha : -9223372036854775808 ≤ a ∧ a ≤ 9223372036854775807) : ∃ k : Nat, k < q ∧ Int.tmod (Int.tmod a q + q) q = (k : Int) ∧ -8 ≤ Int.tmod a q ∧ Int.tmod a q ≤ 8 := by
  have h1 : Int.tmod a q < q := Int.tmod_lt_of_pos a (by omega)
  have h2 : -(q : Int) < Int.tmod a q := by
    have := Int.lt_tmod_of_pos a (show (0 : Int) < q by omega)
    omega
  have h3 : 0 ≤ Int.tmod (Int.tmod a q + q) q := Int.tmod_nonneg _ (by omega)
  have h4 : Int.tmod (Int.tmod a q + q) q < q := Int.tmod_lt_of_pos _ (by omega)
  exact ⟨(Int.tmod (Int.tmod a q + q) q).toNat, by omega, by omega, by omega, by omega⟩
theorem MemK : SlK Try.prog 23 49 (.agg (RowM ⟨0, z32, false⟩).toArray) 34 48 := ⟨Try.underlying23, by kernel_rfl, by kernel_rfl, by omega⟩
/-- 'xs[m:]' of a slice of whatever elements. -/
theorem cut_fromK {P : Program} (t e : TypeId) {i : TypeInfo} (ht : P.underlying t = some (.slice e)) (hi : P.info? e = some i) (A : Option Addr) (n c m : Nat) (hm : m ≤ n) (hn : n ≤ c) (W : World) :
    (Instr.slice t (.slice A n c) (some (.int .i64 (m : Int))) none none).run P W = .ok (.slice (if c = m then A else A.map (fun x => x.add (m * i.size))) (n - m) (c - m)) W := by
  have hel : P.elem t = e := by simp [Program.elem, ht]
  have hu : P.underlying t = some (.slice (P.elem t)) := by rw [hel]; exact ht
  rw [run_slice_l W t A n c hu .i64 (m : Int) (Int.natCast_nonneg _) (by omega), hel]
  simp [sizeOf, typeInfo, hi, sliced, Result.andThen]
theorem run_cut_fromK {P : Program} {o : Oper} {a : Act} (ty : TypeId) (x l : Operand) (ho : o.op = .slice ty x (some l) none none) (e : TypeId) {i : TypeInfo} (ht : P.underlying ty = some (.slice e)) (hi : P.info? e = some i)
    (A : Option Addr) (n c m : Nat) (z : Int) (hz : z = (m : Int)) (hx : a.eval x = .slice A n c) (hl : a.eval l = .int .i64 z) (hm : m ≤ n) (hn : n ≤ c) (W : World) : (execOp a.eval o).run P W = .ok (.value (.slice (if c = m then A else A.map (fun x => x.add (m * i.size))) (n - m) (c - m))) W := by
  subst hz
  unfold execOp
  simp only [ho, hx, Option.map_some, Option.map_none, hl, Instr.sliceAt, Sem.run_bind, Sem.run_pure, run_underlying ht, Result.andThen_ok, cut_fromK ty e ht hi A n c m hm hn W]
theorem RdM.dropA {W : World} {A : Option Addr} {zs : List Mem} (h : RdM W A zs) (m c : Nat) (hc : zs.length ≤ c) (k : Nat) (hk : k = 34) : RdM W (if c = m then A else A.map (fun x => x.add (m * k))) (zs.drop m) := by
  subst hk
  split
  · rw [List.drop_of_length_le (by omega)]
    exact RdM.nil _ _
  · have h1 := h.drop m
    intro j z hj
    obtain ⟨hz, b, o, e, hr⟩ := h1 j z hj
    refine ⟨hz, b, o, ?_, hr⟩
    have hj2 := hj
    rw [List.getElem?_drop] at hj2
    obtain ⟨_, b', o', e', _⟩ := h _ z hj2
    rw [e'] at e ⊢
    rw [← e]
    simp only [Option.map_some, add_at]
section
variable {P : Program} {o : Oper} {a : Act} {Q : Exit → Act → World → Prop} {K : Act → World → Prop} {W : World}
theorem wp_build_mems0 {o : Oper} (ho : o.op = .buildSlice 23 0 #[]) (h : K (a.put o.dst (.slice (some ⟨W.heap.size, 0, none⟩) 0 0)) (W.alloc (.cells #[] 49))) : o.wp Try.prog a W K Q := by
  unfold Oper.wp execOp
  simp only [ho, List.map_toArray, List.map_nil]
  go_simp
  exact h
end
end Go.Proofs.Ytlocplkjokoknaa

/- Small laws of the layer's walks. No condition but those each theorem states. -/
namespace Go.Proofs.Ytlocplkjokoknaa
set_option linter.unusedVariables false
set_option linter.unusedSimpArgs false
open Go.RowKit

/-- What Make answers, in one form. -/
structure MadeR (w0 : World) (g S D b lo : Nat) (ep : UInt64) (l : List Mem) (s : BSt) (w : World) (rc : Array Value) (yk : Kys) (ea : Int) (w' : World) : Prop where
  ok : OkK yk
  sz : rc.size = 2
  one : rc.all (·.oneCell') = true
  fr : BoxF g S b w w'
  bel : Below w0.heap.size w0 w'
  bad : ea = 2 → checkL l = false
  good : ea = 0 → checkL l = true ∧ yk = keysOf s ep ∧ ∃ s' xs d, WrapR (keysOf s ep) l { s with u := s.u + 64 } s' (some (xs, d)) ∧ BoxB w0 g S D b lo s' w' ∧ RgB w.heap.size w' (.agg rc) xs d
theorem MakeP.one {w0 : World} {g S D b lo : Nat} {ep : UInt64} {l : List Mem} {s : BSt} {w : World} {e : Ending} {w' : World} (h : MakeP w0 g S D b lo ep l s w e w') (hb : Below w0.heap.size w0 w) :
    ∃ rc yk ea, e = .returned (.tuple #[.agg rc, .agg (RowK yk).toArray, .int .i64 ea]) ∧ (ea = 0 ∨ ea = 2 ∨ ea = 15) ∧ MadeR w0 g S D b lo ep l s w rc yk ea w' := by
  rcases h with ⟨hc, rfl, hbl⟩ | ⟨hc, s', r, hw, hx, hf, hr⟩
  · exact ⟨RingZ, kysZ, 2, rfl, .inr (.inl rfl), ok_kysZ, rfl, ringZ_one, (BoxF.refl g S b w).below hbl, hb.trans (hbl.mono hb.size), fun _ => hc, fun h => by cases h⟩
  · rcases r with _ | ⟨xs, d⟩
    · exact ⟨RingZ, kysZ, 15, hr, .inr (.inr rfl), ok_kysZ, rfl, ringZ_one, hf, hx.bel, (fun h => by cases h), (fun h => by cases h)⟩
    · obtain ⟨v, he, hrg⟩ := hr
      obtain ⟨rc, rfl, h2, h3⟩ := hrg.agg
      exact ⟨rc, keysOf s ep, 0, he, .inl rfl, ok_keysOf _ _, h2, h3, hf, hx.bel, (fun h => by cases h), fun _ => ⟨hc, rfl, s', xs, d, hw, hx, hrg⟩⟩
end Go.Proofs.Ytlocplkjokoknaa

/- The law RingAgain, walked. -/
namespace Go.Proofs.Ytlocplkjokoknaa
set_option linter.unusedVariables false
set_option linter.unusedSimpArgs false
open Go.RowKit
attribute [local go_sem ↓] Go.wp_at_zero Go.wp_at_succ

theorem again_onceS : OnceS againF 2821 := fun u v n h28 hu hv he => again_once u v n (by omega) hu hv he
set_option maxRecDepth 100000 in
set_option maxHeartbeats 16000000 in
theorem ringAgain_walk (w : World) (A0 : Option Addr) (c0 : Nat) (zs : List Mem) (R0 : RdM w A0 zs) (n0 : zs.length ≤ c0) (b0 : zs ≠ [] → ∀ a, A0 = some a → a.block < w.heap.size) (a1 : Int) (ha1 : -9223372036854775808 ≤ a1 ∧ a1 ≤ 9223372036854775807) :
    Calls Try.prog 4 #[.slice A0 zs.length c0, .int .i64 a1] w fun e w' => e = .returned (.bool true) ∧ Below w.heap.size w w' := by
  have ZK := Lib.hid zeroK
  have H0 := Lib.hid R0
  have L0 := Lib.hid b0
  obtain ⟨q, hq⟩ : ∃ q, q = zs.length := ⟨_, rfl⟩
  rw [← hq]
  have Q1 := Lib.hid hq.symm
  have NC := Lib.hid (show q ≤ c0 by omega)
  have AB := Lib.hid ha1
  clear R0 b0 n0 hq ha1
  go_enter Try.func4, Try.ntmps4
  have h1 := cv_at (w := w) (C := #[.int .u8 97, .int .u8 103, .int .u8 97, .int .u8 105, .int .u8 110]) w.heap.size 5 5 rfl
  go_wp2_with fail
  clear h1
  generalize hM : Array.size (World.heap w) = M0
  generalize hw1 : World.alloc w _ = w1
  have B1 := Lib.hid (show Below w.heap.size w w1 by rw [← hw1]; exact below_new _ _)
  have R1 := Lib.hid (show RdB w1 (some ⟨M0, 0, none⟩) againF from RdB.row (g := M0) (l := againF) (t := 5) (fr := (5, 6)) (by rw [← hw1]; exact ha_new w _ _ hM.symm))
  have hz1 : w1.heap.size = M0 + 1 := by rw [← hw1, ha_size, hM]
  generalize hw3 : World.alloc w1 _ = w3
  have B3 := Lib.hid (show Below w1.heap.size w1 w3 by rw [← hw3]; exact below_new _ _)
  have RV := Lib.hid (show RdV w3 (some ⟨M0 + 1, 0, none⟩) [.slice (some ⟨M0, 0, none⟩) 5 5] from RdV.row (g := M0 + 1) (t := 22) (fr := (0, 0)) (by rw [← hw3]; exact ha_new _ _ _ hz1.symm))
  clear hM hw1 hw3 hz1
  refine (dnew_any w3 _ 1 1 _ [againF] rfl RV.out (.cons ⟨some ⟨M0, 0, none⟩, 5, rfl, Nat.le_refl _, R1.out.keep B3.out⟩ .nil) ?_ (by omega)).mono ?_
  · show ([againF] : List (List UInt8)).flatten.length ≤ 100000
    decide
  rw [show ([againF] : List (List UInt8)).flatten = againF by simp]
  rintro e w4 ⟨S, D, rfl, hg, hD1, hD2, hs, hb⟩
  have SW := Lib.hid (SrcW.new hg hD1 hD2 hs hb)
  have W3 := Lib.hid (show Below w.heap.size w w3 from B1.out.trans (B3.out.mono B1.out.size))
  clear hg hD1 hD2 hs hb RV R1 B1 B3
  go_wp2_with fail
  refine (bnew_any w3 S D againF 0 w4 SW.out 1 (.inr rfl)).mono ?_
  rintro e w5 ⟨g, b, lo, rfl, hbx, hb2, hlo⟩
  obtain ⟨L, hL⟩ : ∃ L, L = w5.heap.size := ⟨_, rfl⟩
  have X := Lib.hid (show BoxB w3 g S D b L ⟨1, againF, 0, [], 0⟩ w5 from hbx.raise rfl (by rw [hL]; exact hlo))
  have LE := Lib.hid hL
  have LT := Lib.hid (show g < L ∧ S < L ∧ D < L ∧ b < L by rw [hL]; exact hbx.lt)
  have WL := Lib.hid (show w3.heap.size ≤ L by rw [hL]; exact hbx.bel.size)
  have BG := Lib.hid (show w.heap.size ≤ g ∧ w.heap.size ≤ S ∧ w.heap.size ≤ b by have := W3.out.size; have := hbx.hg; have := hbx.hS; have := hbx.hb; omega)
  have W5 := Lib.hid (show Below w.heap.size w w5 from W3.out.trans (hbx.bel.mono W3.out.size))
  clear hbx hb2 hlo hL SW
  by_cases h8 : 8 < q
  · have hD : decide ((8 : Int) < (q : Int)) = true := by simp; omega
    go_wp2_with fail
    refine (one_true _).mono ?_
    rintro e wf ⟨rfl, hb⟩
    have BF := Lib.hid (W5.out.trans (hb.mono W5.out.size))
    clear hb
    go_wp2_with fail
    go_ret
    exact ⟨rfl, BF.out⟩
  have hD8 : decide ((8 : Int) < (q : Int)) = false := by simp; omega
  have Q8 := Lib.hid (Nat.le_of_not_lt h8)
  clear h8
  go_upto_region 4 with fail
  refine wp_region_list ?_
  simp only [List.toList_toArray]
  refine wpList_val (v := ?_) (by rfl) ?_ ?_
  rotate_left
  · go_simp
    with_reducible rfl
  simp only [Act.put, List.setIfInBounds_toArray, List.set_cons_zero, List.set_cons_succ]
  refine wpList_val (v := ?_) (by rfl) ?_ ?_
  rotate_left
  · go_simp
    with_reducible rfl
  simp only [Act.put, List.setIfInBounds_toArray, List.set_cons_zero, List.set_cons_succ]
  have MK := Lib.hid (show Calls Try.prog 7 #[.pointer (some ⟨g, 0, none⟩), .int .u64 9, .slice A0 q c0] w5 (MakeP w3 g S D b L 9 zs ⟨1, againF, 0, [], 0⟩ w5) by
    rw [← Q1.out]
    exact make_any w3 g S D b L ⟨1, againF, 0, [], 0⟩ w5 X.out (.inr rfl) 9 A0 c0 zs (H0.out.keep W5.out) (by rw [Q1.out]; exact NC.out) (by rw [Q1.out]; have := Q8.out; omega) (fun h a e => by have := L0.out h a e; have := BG.out; omega) (by show 0 + 11000 ≤ 900000; omega) (by show againF.length ≤ 100000; decide) (by show 0 ≤ 5000; omega) (by show 0 ≤ 50000; omega) (by rw [LE.out]; exact Nat.le_refl _) LT.out.2.2.1 WL.out)
  refine wpList_op (by rfl) (fun K hK => ?_)
  go_simp
  refine MK.out.mono ?_
  clear MK
  rintro e w6 hmp
  obtain ⟨ra, ya, ea, rfl, hea, hma⟩ := hmp.one X.out.bel
  have EA := Lib.hid hea
  have MA := Lib.hid hma
  clear hea hma hmp
  refine hK.out _ _ ?_
  clear hK K
  have IRA := Lib.hid (show (Try.prog.info? 32).map (·.size) = some ra.size by rw [MA.out.sz]; exact info_ring)
  refine wpList_val (v := ?_) (by rfl) ?_ ?_
  rotate_left
  · go_simp
    with_reducible rfl
  simp only [Act.put, List.setIfInBounds_toArray, List.set_cons_zero, List.set_cons_succ]
  refine wpList_val (v := ?_) (by rfl) ?_ ?_
  rotate_left
  · go_simp
    with_reducible rfl
  simp only [Act.put, List.setIfInBounds_toArray, List.set_cons_zero, List.set_cons_succ]
  refine wpList_val (v := ?_) (by rfl) ?_ ?_
  rotate_left
  · go_simp
    with_reducible rfl
  simp only [Act.put, List.setIfInBounds_toArray, List.set_cons_zero, List.set_cons_succ]
  refine wpList_val (v := ?_) (by rfl) ?_ ?_
  rotate_left
  · go_simp
    with_reducible rfl
  simp only [Act.put, List.setIfInBounds_toArray, List.set_cons_zero, List.set_cons_succ]
  refine wpList_op (by rfl) (fun K hK => ?_)
  go_simp
  refine hK.out _ _ ?_
  clear hK K
  refine wpList_op (by rfl) (fun K hK => ?_)
  go_simp
  refine hK.out _ _ ?_
  clear hK K
  rw [← ZK.out]
  generalize hM3 : Array.size (World.heap w6) = M7
  generalize hwa : World.alloc w6 _ = wa
  have sa : wa.heap.size = M7 + 1 := by rw [← hwa, ha_size, hM3]
  have ra' : wa.heap[M7]? = some (.cells RingZ 32 (0, 0)) := by rw [← hwa]; exact ha_new _ _ _ hM3.symm
  generalize hwb : World.alloc wa _ = wb
  have ba : Below wa.heap.size wa wb := by rw [← hwb]; exact below_new _ _
  have r1 := Lib.hid (below_block ba (row_lt ra') ra')
  have r2 := Lib.hid (show wb.heap[M7 + 1]? = some (.cells (RowK kysZ).toArray 37 (0, 0)) by rw [← hwb]; exact ha_new _ _ _ sa.symm)
  have bb := Lib.hid (show Below w6.heap.size w6 wb from by
    have h1 : Below w6.heap.size w6 wa := by rw [← hwa]; exact below_new _ _
    exact h1.trans (ba.mono h1.size))
  have MEA := Lib.hid hM3
  clear hwa sa ra' hwb ba hM3
  refine wpList_store_whole rfl rfl 32 (.tmp 7) (.tmp 43) rfl M7 ra rfl rfl 32 _ r1.out IRA.out (by rw [MA.out.sz]; rfl) MA.out.one ?_
  intro wc hzc hgc _
  refine wpList_store_whole rfl rfl 37 (.tmp 8) (.tmp 44) rfl (M7 + 1) (RowK ya).toArray rfl rfl 37 _ (grown_block hgc (fun e => by have := Option.some.inj e; omega) r2.out) (info_kysC _ MA.out.ok) (by rw [sizeK _ ok_kysZ, sizeK _ MA.out.ok]) (rowK_one _) ?_
  intro w7 hzd hgd _
  have RA := Lib.hid (grown_block hgd (fun e => by have := Option.some.inj e; omega) hzc)
  have KA := Lib.hid hzd
  have BA := Lib.hid (show Below w6.heap.size w6 w7 from grown_below_on (grown_below_on bb.out hgc (by rw [MEA.out]; exact Nat.le_refl _)) hgd (by rw [MEA.out]; omega))
  clear hzc hgc hzd hgd r1 r2 bb
  go_upto_region 5 with fail
  have BT := Lib.hid (show Below w.heap.size w w7 from W3.out.trans ((MA.out.bel.trans (BA.out.mono MA.out.bel.size)).mono W3.out.size))
  have L6 := Lib.hid (show L ≤ w6.heap.size by rw [LE.out]; exact MA.out.fr.1)
  rcases EA.out with rfl | rfl | rfl
  rotate_left
  ·
    go_wp2_with fail
    refine (one_true _).mono ?_
    rintro e wf ⟨rfl, hb⟩
    have BF := Lib.hid (BT.out.trans (hb.mono BT.out.size))
    clear hb
    go_wp2_with fail
    go_ret
    exact ⟨rfl, BF.out⟩
  ·
    go_wp2_with fail
    refine (one_true _).mono ?_
    rintro e wf ⟨rfl, hb⟩
    have BF := Lib.hid (BT.out.trans (hb.mono BT.out.size))
    clear hb
    go_wp2_with fail
    go_ret
    exact ⟨rfl, BF.out⟩
  obtain ⟨hca, hya, s1, xs0, d0, hwa, hbx, hra⟩ := MA.out.good rfl
  have CK := Lib.hid hca
  obtain ⟨xs, d, he, hri, _, _, hwin, hu1, hm1, hf1, _⟩ := ring_ideal (N := 2821) (ok_keysOf _ _) H0.out.ok (checkL_spec hca).1 (show (1 : Nat) = 1 from rfl) (show OnceS againF 2821 from again_onceS) (fun p hp => by cases hp) hwa (by show 64 + 1365 ≤ 2821; omega)
  have hwb := wrap_bounds (ok_keysOf _ _) H0.out.ok (checkL_spec hca).1 hwa
  have htx := wrap_texts (ok_keysOf _ _) H0.out.ok (checkL_spec hca).1 (n := 1000) (by omega) (fun p hp => by cases hp) hwa
  injection he with he
  injection he with he1 he2
  subst he1 he2
  have YE := Lib.hid hya
  rw [← hya] at hri
  have RI := Lib.hid hri
  have WIN := Lib.hid hwin
  have U1 := Lib.hid (show s1.u ≤ 1429 from hu1)
  have M1 := Lib.hid hm1
  have F1 := Lib.hid (show s1.F = againF from hf1)
  have N1 := Lib.hid (show s1.n ≤ 9 ∧ s1.m.length ≤ 9 from ⟨by have := hwb.2.2.2.1; simpa using this, by have := hwb.2.2.2.2; simpa using this⟩)
  have TX := Lib.hid htx
  have H7 := Lib.hid (hbx.keep BA.out)
  have RG := Lib.hid (show RgB w5.heap.size w7 (.agg ra) xs0 d0 from hra.keep BA.out)
  have Y9 := Lib.hid (show ya.e = 9 by rw [hya]; rfl)
  have OYA := Lib.hid MA.out.ok
  have q0 : 0 < q := by have := check_ne hca; rw [Q1.out] at this; exact this
  clear hca hya hwa hbx hra hri hwin hu1 hm1 hf1 hwb htx
  obtain ⟨k, hk, hrem, hlo1, hhi1⟩ := rem_place a1 q q0 Q8.out AB.out
  have KQ := Lib.hid hk
  have qb : (q : Int) ≤ 8 := by have := Q8.out; omega
  have qp : (0 : Int) < (q : Int) := by omega
  go_upto_region 7 with fail
  refine wp_region_list ?_
  simp only [List.toList_toArray]
  refine wpList_val (v := ?_) (by rfl) ?_ ?_
  rotate_left
  · go_simp
    with_reducible rfl
  simp only [Act.put, List.setIfInBounds_toArray, List.set_cons_zero, List.set_cons_succ]
  refine wpList_val (v := ?_) (by rfl) ?_ ?_
  rotate_left
  · go_simp
    with_reducible rfl
  simp only [Act.put, List.setIfInBounds_toArray, List.set_cons_zero, List.set_cons_succ]
  refine wpList_val (v := ?_) (by rfl) ?_ ?_
  rotate_left
  · go_simp
    with_reducible rfl
  simp only [Act.put, List.setIfInBounds_toArray, List.set_cons_zero, List.set_cons_succ]
  obtain ⟨rr, hrr⟩ : ∃ rr, rr = Int.tmod a1 q := ⟨_, rfl⟩
  rw [← hrr] at hrem hlo1 hhi1
  have er : Int.tmod a1 (q : Int) = rr := hrr.symm
  have qn : ¬ (q = 0) := by omega
  clear hrr
  have ew : IntKind.i64.wrap (rr + (q : Int)) = rr + (q : Int) := by rw [IntKind.wrap_i64]; omega
  refine wpList_val (v := ?_) (by rfl) ?_ ?_
  rotate_left
  · go_simp
    with_reducible rfl
  simp only [Act.put, List.setIfInBounds_toArray, List.set_cons_zero, List.set_cons_succ]
  refine wpList_val (v := ?_) (by rfl) ?_ ?_
  rotate_left
  · go_simp
    with_reducible rfl
  simp only [Act.put, List.setIfInBounds_toArray, List.set_cons_zero, List.set_cons_succ]
  refine wpList_val (v := ?_) (by rfl) ?_ ?_
  rotate_left
  · go_simp
    with_reducible rfl
  simp only [Act.put, List.setIfInBounds_toArray, List.set_cons_zero, List.set_cons_succ]
  refine wpList_val (v := ?_) (by rfl) ?_ ?_
  rotate_left
  · go_simp
    with_reducible rfl
  simp only [Act.put, List.setIfInBounds_toArray, List.set_cons_zero, List.set_cons_succ]
  refine wpList_val (v := ?_) (by rfl) ?_ ?_
  rotate_left
  · go_simp
    with_reducible rfl
  simp only [Act.put, List.setIfInBounds_toArray, List.set_cons_zero, List.set_cons_succ]
  refine wpList_val (v := ?_) (by rfl) ?_ ?_
  rotate_left
  · go_simp
    with_reducible rfl
  simp only [Act.put, List.setIfInBounds_toArray, List.set_cons_zero, List.set_cons_succ]
  refine wpList_val (v := ?_) (by rfl) ?_ ?_
  rotate_left
  · go_simp
    with_reducible rfl
  simp only [Act.put, List.setIfInBounds_toArray, List.set_cons_zero, List.set_cons_succ]
  clear er qn hrem hlo1 hhi1 ew
  have kb : (k : Int) ≤ 7 := by omega
  obtain ⟨A2, hA2⟩ : ∃ A2 : Option Addr, A2 = (if c0 = k + 1 then A0 else A0.map (fun x => x.add ((k + 1) * 34))) := ⟨_, rfl⟩
  have A2E := Lib.hid hA2
  have RT := Lib.hid (show RdM w7.drew A0 zs from (H0.out.keep BT.out).keep (Below.refl _ _).drew)
  have H7 := Lib.hid (H7.out.keep (Below.refl _ _).drew)
  have RG := Lib.hid (RG.out.keep (Below.refl _ _).drew)
  have BT := Lib.hid BT.out.drew
  have RA := Lib.hid (show w7.drew.heap[M7]? = some (.cells ra 32 (0, 0)) from RA.out)
  have KA := Lib.hid (show w7.drew.heap[M7 + 1]? = some (.cells (RowK ya).toArray 37 (0, 0)) from KA.out)
  have LWD := Lib.hid (show L ≤ w7.drew.heap.size from Nat.le_trans L6.out BA.out.size)
  clear hk hA2
  go_upto_region 8 with fail
  refine wp_region_road (fun _ => True) [(true, 1), (true, 2), (true, 3), (true, 5), (true, 6), (true, 7), (true, 8), (false, 0), (false, 4), (false, 9), (true, 10)] (by kernel_rfl) (by kernel_rfl) (fun _ _ d _ _ h => by cases d <;> exact h) ?_
  simp only [List.filterMap_cons, List.filterMap_nil, List.getElem?_toArray, List.getElem?_cons_zero, List.getElem?_cons_succ, Option.map_some]
  generalize World.drew w7 = wd at RT H7 RG BT RA KA LWD ⊢
  refine planG_q (v := ?_) (by rfl) (trivial) ?_ ?_
  rotate_left
  · intro W hW
    go_simp
    with_reducible rfl
  simp only [Act.put, List.setIfInBounds_toArray, List.set_cons_zero, List.set_cons_succ]
  refine planG_q (v := ?_) (by rfl) (trivial) ?_ ?_
  rotate_left
  · intro W hW
    go_simp
    with_reducible rfl
  simp only [Act.put, List.setIfInBounds_toArray, List.set_cons_zero, List.set_cons_succ]
  refine planG_q (by rfl) (trivial) (fun W hW => run_cut_toK 23 (.tmp 60) (.tmp 61) rfl 49 Try.underlying23 rfl A0 q c0 k rfl rfl (by have := KQ.out; have := NC.out; omega) W) ?_
  simp only [Act.put, List.setIfInBounds_toArray, List.set_cons_zero, List.set_cons_succ]
  refine planG_q (v := ?_) (by rfl) (trivial) ?_ ?_
  rotate_left
  · intro W hW
    go_simp
    with_reducible rfl
  simp only [Act.put, List.setIfInBounds_toArray, List.set_cons_zero, List.set_cons_succ]
  refine planG_q (v := ?_) (by rfl) (trivial) ?_ ?_
  rotate_left
  · intro W hW
    go_simp
    with_reducible rfl
  simp only [Act.put, List.setIfInBounds_toArray, List.set_cons_zero, List.set_cons_succ]
  refine planG_q (v := ?_) (by rfl) (trivial) ?_ ?_
  rotate_left
  · intro W hW
    go_simp
    with_reducible rfl
  simp only [Act.put, List.setIfInBounds_toArray, List.set_cons_zero, List.set_cons_succ]
  refine planG_q (by rfl) (trivial) (fun W hW => (show (execOp _ _).run Try.prog W = .ok (.value (.slice A2 (q - (k + 1)) (c0 - (k + 1)))) W by rw [A2E.out]; exact run_cut_fromK 23 (.tmp 64) (.tmp 66) rfl 49 Try.underlying23 rfl A0 q c0 (k + 1) _ (by first | omega | (rw [IntKind.wrap_i64]; omega)) rfl rfl (by have := KQ.out; omega) NC.out W)) ?_
  simp only [Act.put, List.setIfInBounds_toArray, List.set_cons_zero, List.set_cons_succ]
  refine planG_t (by rfl) (fun K hK => ?_)
  refine wp_build_mems0 rfl ?_
  generalize hB : Array.size (World.heap wd) = N0
  generalize hw : World.alloc wd _ = wn
  have Z := Lib.hid (show Below wd.heap.size wd wn by rw [← hw]; exact below_new _ _)
  have O := Lib.hid (show OwnK wn wd.heap.size 49 34 (.slice (some ⟨N0, 0, none⟩) 0 0) 0 [] by rw [← hw, ← hB]; exact OwnK.made wd _ _ _ (Nat.le_refl _))
  clear hB hw
  refine hK.out _ _ (trivial) ?_
  clear hK K
  have OKT := Lib.hid (show ∀ z ∈ zs.take k, OkM z from fun z hz => H0.out.ok z (List.mem_of_mem_take hz))
  have OKD := Lib.hid (show ∀ z ∈ zs.drop (k + 1), OkM z from fun z hz => H0.out.ok z (List.mem_of_mem_drop hz))
  refine planG_t (by rfl) (fun K hK => ?_)
  refine appK_wp MemK (.tmp 59) (.tmp 62) rfl wd.heap.size _ 0 [] (rowsM (zs.take k)) A0 k c0 rfl rfl (by rw [rowsM_length _ OKT.out, List.length_take, Q1.out]; have := KQ.out; omega) O.out ((RT.out.take k).keep Z.out).toV (rowsM_one _) Z.out.size (by have := KQ.out; have := Q8.out; omega) (by have := KQ.out; have := Q8.out; omega) ?_
  intro v1 wx ho hg _
  have Z := Lib.hid (Z.out.trans (grown_below hg Z.out.size (fun q e => (O.out.lt q e).1)))
  have O := Lib.hid ho
  clear ho hg
  refine hK.out _ _ (trivial) ?_
  clear hK K
  refine planG_t (by rfl) (fun K hK => ?_)
  refine appK_wp MemK (.tmp 63) (.tmp 67) rfl wd.heap.size v1 (0 + k) _ (rowsM (zs.drop (k + 1))) A2 (q - (k + 1)) (c0 - (k + 1)) rfl rfl (by rw [rowsM_length _ OKD.out, List.length_drop, Q1.out]) O.out (by rw [A2E.out]; exact ((RT.out.keep Z.out).dropA (k + 1) c0 (by rw [Q1.out]; exact NC.out) 34 rfl).toV) (rowsM_one _) Z.out.size (by have := KQ.out; have := Q8.out; omega) (by have := KQ.out; have := Q8.out; omega) ?_
  intro v2 w8 ho hg _
  have Z := Lib.hid (Z.out.trans (grown_below hg Z.out.size (fun q e => (O.out.lt q e).1)))
  obtain ⟨zr, hzr⟩ : ∃ zr, zr = zs.take k ++ zs.drop (k + 1) := ⟨_, rfl⟩
  have ZRE := Lib.hid hzr
  have ZRN := Lib.hid (show zr.length = 0 + k + (q - (k + 1)) by rw [hzr, List.length_append, List.length_take, List.length_drop, Q1.out]; have := KQ.out; omega)
  have ZOK := Lib.hid (show ∀ z ∈ zr, OkM z from fun z hz => by rw [hzr] at hz; rcases List.mem_append.1 hz with h | h; exact OKT.out z h; exact OKD.out z h)
  obtain ⟨_, Ar, cr, rfl, hrv, hcr, _, hbr⟩ := ho.read
  obtain ⟨nr, hnr⟩ : ∃ nr, nr = zr.length := ⟨_, rfl⟩
  rw [← ZRN.out] at hcr ⊢
  rw [← hnr] at hcr ⊢
  have NR := Lib.hid hnr.symm
  have CR := Lib.hid hcr
  have RR := Lib.hid (show RdM w8 Ar zr from RdM.ofV ZOK.out (by rw [hzr, rowsM_append]; exact hrv))
  have BR := Lib.hid hbr
  have NRB := Lib.hid (show nr ≤ 8 by rw [hnr, ZRN.out]; have := KQ.out; have := Q8.out; omega)
  have L8 := Lib.hid (show L ≤ w8.heap.size from Nat.le_trans LWD.out Z.out.size)
  have H8 := Lib.hid (H7.out.keep Z.out)
  have RG8 := Lib.hid (RG.out.keep Z.out)
  have BT8 := Lib.hid (BT.out.trans (Z.out.mono BT.out.size))
  have RA8 := Lib.hid (below_block Z.out (row_lt RA.out) RA.out)
  have KA8 := Lib.hid (below_block Z.out (row_lt KA.out) KA.out)
  clear ho hg hrv hcr hbr hzr hnr O
  refine hK.out _ _ (trivial) ?_
  clear hK K
  refine planG_q (v := ?_) (by rfl) (trivial) ?_ ?_
  rotate_left
  · intro W hW
    go_simp
    with_reducible rfl
  simp only [Act.put, List.setIfInBounds_toArray, List.set_cons_zero, List.set_cons_succ]
  refine planG_nil ?_
  have nrb : (nr : Int) ≤ 8 := by have := NRB.out; omega
  go_upto_region 9 with fail
  refine wp_region_list ?_
  simp only [List.toList_toArray]
  refine wpList_val (v := ?_) (by rfl) ?_ ?_
  rotate_left
  · go_simp
    with_reducible rfl
  simp only [Act.put, List.setIfInBounds_toArray, List.set_cons_zero, List.set_cons_succ]
  refine wpList_val (by rfl) (run_load_row 37 (.tmp 8) rfl (M7 + 1) rfl 37 (RowK ya).toArray (0, 0) _ KA8.out Try.underlying37 rfl (info_kysC _ OYA.out)) ?_
  simp only [Act.put, List.setIfInBounds_toArray, List.set_cons_zero, List.set_cons_succ]
  refine wpList_val (v := ?_) (by rfl) ?_ ?_
  rotate_left
  · go_simp
    with_reducible rfl
  simp only [Act.put, List.setIfInBounds_toArray, List.set_cons_zero, List.set_cons_succ]
  have AG := Lib.hid (show Calls Try.prog 11 #[.pointer (some ⟨g, 0, none⟩), .agg (RowK ya).toArray, .slice Ar nr cr] w8 (AgainP w3 g S D b L ya zr s1 w8) by
    rw [← NR.out]
    exact again_any w3 g S D b L s1 w8 H8.out (.inr M1.out) ya OYA.out Ar cr zr RR.out (by rw [NR.out]; exact CR.out) (by rw [NR.out]; have := NRB.out; omega) (fun _ a e => by have := (BR.out a e).1; have := LWD.out; have := LT.out; omega) (by have := U1.out; omega) (by rw [F1.out]; decide) (by have := N1.out; omega) (by have := N1.out; omega) L8.out LT.out.2.2.1 WL.out)
  have CKR := Lib.hid (show ∀ W : World, Below w8.heap.size w8 W ∨ BoxF g S b w8 W → Calls Try.prog 8 #[.slice Ar nr cr] W fun e w' => e = .returned (.int .i64 (chk zr)) ∧ Below W.heap.size W w' by
    intro W hW
    rw [← NR.out]
    refine check_any W Ar cr zr ?_ (by rw [NR.out]; exact CR.out) (by rw [NR.out]; have := NRB.out; omega)
    rcases hW with hW | hW
    · exact RR.out.keep hW
    · exact RR.out.boxF hW (fun a e => by have := (BR.out a e).1; have := LWD.out; have := LT.out; omega))
  refine wpList_op (by rfl) (fun K hK => ?_)
  go_simp
  refine AG.out.mono ?_
  clear AG
  rintro e w9 (⟨hcf, rfl, hb⟩ | ⟨hct, s2, r, hwr, hbx, hbf, hr⟩)
  · have C2 := Lib.hid (show chk zr = 2 by rw [chk, hcf]; rfl)
    have B9 := Lib.hid hb
    clear hcf hb
    refine hK.out _ _ ?_
    clear hK K
    go_upto_region 10 with (refine wpList_store_new rfl rfl 32 (.tmp 11) (.tmp 74) rfl RingZ rfl rfl info_ringZ rfl ringZ_one ?_)
    generalize hM11 : Array.size (World.heap w9) = M11
    generalize hw10 : World.alloc w9 _ = w10
    have B10 := Lib.hid (show Below w8.heap.size w8 w10 by rw [← hw10]; exact B9.out.alloc B9.out.size _)
    have R11 := Lib.hid (show w10.heap[M11]? = some (.cells RingZ 32 (0, 0)) by rw [← hw10]; exact ha_new _ _ _ hM11.symm)
    clear hM11 hw10
    go_wp2_with fail
    refine (CKR.out w10 (.inl B10.out)).mono ?_
    rw [C2.out]
    rintro e w11 ⟨rfl, hb⟩
    have B11 := Lib.hid (B10.out.trans (hb.mono B10.out.size))
    have c11 := row_cell (below_block hb (row_lt R11.out) R11.out) 0 (show RingZ[0]? = some (.slice none 0 0) from rfl)
    have BT := Lib.hid (BT8.out.trans (B11.out.mono BT8.out.size))
    clear hb
    go_wp2_with fail
    refine (one_true _).mono ?_
    rintro e wf ⟨rfl, hb⟩
    have BF := Lib.hid (BT.out.trans (hb.mono BT.out.size))
    clear hb
    go_wp2_with fail
    go_ret
    exact ⟨rfl, BF.out⟩
  · obtain ⟨xs2, d2, he, hri, _, _, hwin, hu2, hm2, hf2, hold⟩ := ring_ideal (N := 2821) OYA.out ZOK.out (by rw [NR.out]; exact NRB.out) M1.out (by rw [F1.out]; exact again_onceS) WIN.out hwr (by have := U1.out; omega)
    have htx := wrap_texts OYA.out ZOK.out (by rw [NR.out]; exact NRB.out) (n := 1000) (by omega) TX.out hwr
    subst he
    obtain ⟨v, rfl, hrg⟩ := hr
    obtain ⟨rc, rfl, hsz, hone⟩ := hrg.agg
    have C0 := Lib.hid (show chk zr = 0 by rw [chk, hct]; rfl)
    have CT := Lib.hid hct
    have RI2 := Lib.hid hri
    have RI1 := Lib.hid (RI.out.more hold)
    have M2 := Lib.hid hm2
    have TX2 := Lib.hid (show ∀ p ∈ s2.m, s2.mode = 1 → p.2.text.length ≤ 100000 from fun p hp h => Nat.le_trans (htx p hp h) (by omega))
    have H9 := Lib.hid hbx
    have BF9 := Lib.hid hbf
    have RGN := Lib.hid hrg
    have RGO := Lib.hid (RG8.out.boxF hbf (by have := LT.out; have := LE.out; omega))
    have LM7 := Lib.hid (show L ≤ M7 by rw [← MEA.out]; exact L6.out)
    have RA9 := Lib.hid (row_boxF RA8.out hbf (by have := LM7.out; have := LT.out; omega))
    have KA9 := Lib.hid (row_boxF KA8.out hbf (by have := LM7.out; have := LT.out; omega))
    have RR9 := Lib.hid (RR.out.boxF hbf (fun a e => by have := (BR.out a e).1; have := LWD.out; have := LT.out; omega))
    have BT9 := Lib.hid (show Below w.heap.size w w9 from W3.out.trans (hbx.bel.mono W3.out.size))
    have IR2 := Lib.hid (show (Try.prog.info? 32).map (·.size) = some rc.size by rw [hsz]; exact info_ring)
    have SZ2 := Lib.hid hsz
    have ONE2 := Lib.hid hone
    clear hct hwr hbx hbf hri hwin hu2 hm2 hf2 hold htx hrg hsz hone RI TX WIN U1 N1
    refine hK.out _ _ ?_
    clear hK K
    go_upto_region 10 with (refine wpList_store_new rfl rfl 32 (.tmp 11) (.tmp 74) rfl rc rfl rfl IR2.out (by rw [SZ2.out]; rfl) ONE2.out ?_)
    generalize hM11 : Array.size (World.heap w9) = M11
    generalize hw10 : World.alloc w9 _ = w10
    have B10 := Lib.hid (show Below w9.heap.size w9 w10 by rw [← hw10]; exact below_new _ _)
    have R11 := Lib.hid (show w10.heap[M11]? = some (.cells rc 32 (0, 0)) by rw [← hw10]; exact ha_new _ _ _ hM11.symm)
    clear hM11 hw10
    go_wp2_with fail
    refine (CKR.out w10 (.inr (BF9.out.below B10.out))).mono ?_
    rw [C0.out]
    rintro e w11 ⟨rfl, hb⟩
    have BL := Lib.hid (B10.out.trans (hb.mono B10.out.size))
    have HL := Lib.hid (H9.out.keep BL.out)
    have RGNL := Lib.hid (RGN.out.keep BL.out)
    have RGOL := Lib.hid (RGO.out.keep BL.out)
    have R11L := Lib.hid (below_block hb (row_lt R11.out) R11.out)
    have RAL := Lib.hid (below_block BL.out (row_lt RA9.out) RA9.out)
    have KAL := Lib.hid (below_block BL.out (row_lt KA9.out) KA9.out)
    have RRL := Lib.hid (RR9.out.keep BL.out)
    have BTL := Lib.hid (BT9.out.trans (BL.out.mono BT9.out.size))
    have H0L := Lib.hid (H0.out.keep BTL.out)
    have OSK := Lib.hid (show ∀ o, OkK (seenK ya o) from fun o => ⟨OYA.out.1, by cases o; rfl; exact OYA.out.2⟩)
    have KEYR := Lib.hid (rangeK_k (y := ya) (o := 0) (range_rowL KAL.out))
    have ZKY := Lib.hid (show (Try.prog.info? 35).map (·.size) = some (B8 ya.k).length from info_key OYA.out.1)
    clear hb RG8 RA8 KA8 RR BT8 BF9 RGN RGO RA9 KA9 RR9 BT9 R11 B10 H9 H8 H7 BT RT RG RA KA CKR
    go_wp2_with fail
    go_loopw [12] (fun i wr => ∃ j : Nat, j ≤ nr ∧ i = .int .i64 (j : Int) ∧ Below w11.heap.size w11 wr) (fun i _ => nr - (intOf i).toNat)
    case atStart => exact ⟨0, Nat.zero_le _, rfl, Below.refl _ _⟩
    case round =>
      obtain ⟨j, hj, rfl, hbw⟩ := hrel
      have J := Lib.hid hj
      have BW := Lib.hid hbw
      clear hj hbw
      obtain ⟨wp, rfl⟩ : ∃ wp : World, wp = wr := ⟨_, rfl⟩
      by_cases hlt : j < nr
      · have hD : decide ((j : Int) < (nr : Int)) = true := by simp; omega
        obtain ⟨z, bz, oz, hz, hok, hA, hrz⟩ := RRL.out.at (show j < zr.length by rw [NR.out]; exact hlt)
        have AE := Lib.hid hA
        have JQ := Lib.hid hlt
        have jb : (j : Int) ≤ 7 := by omega
        have ZOKZ := Lib.hid hok
        have RZ := Lib.hid hrz
        have UM := Lib.hid (show unwrapL s2 z.k xs2 = (seenK ya z.o, 0) from unwrap_mem OYA.out RI2.out M2.out j (by have := NRB.out; omega) z hz (fun i z' hi hz' => (check_keys CT.out i j z z' hi hz' hz).1))
        have ZKZ := Lib.hid (show (Try.prog.info? 35).map (·.size) = some (B8 z.k).length from info_key hok.1)
        clear hz hok hA hrz hlt
        go_upto_region 15 with fail
        have BWD := Lib.hid (show Below w11.heap.size w11 wp.drew from BW.out.drew)
        have R11D := Lib.hid (below_block BWD.out (row_lt R11L.out) R11L.out)
        have KRD := Lib.hid (rangeAt_keep (range_key RZ.out) BWD.out)
        have UWX := Lib.hid (show ∀ W : World, Below wp.drew.heap.size wp.drew W → Calls Try.prog 12 #[.pointer (some ⟨g, 0, none⟩), .agg rc, .agg (B8 z.k).toArray] W fun e w' => e = .returned (.tuple #[.agg (RowK (seenK ya z.o)).toArray, .int .i64 0]) ∧ Below W.heap.size W w' by
          intro W hW
          have h1 := unwrap_any w3 g S D b L s2 W ((HL.out.keep BWD.out).keep hW) (.inr M2.out) (.agg rc) xs2 d2 _ ((RGNL.out.keep BWD.out).keep hW) (fun x hx => by obtain ⟨i, hi⟩ := List.getElem?_of_mem hx; rw [(RI2.out.each i x hi).1]; omega) (by rw [RI2.out.len]; omega) z.k ZOKZ.out.1 TX2.out
          rw [UM.out] at h1
          exact h1)
        refine wp_region_tree (fun W => Below wp.drew.heap.size wp.drew W) (.q 0 (.q 1 (.q 2 (.q 3 (.q 4 (.q 5 (.q 6 (.two 7 (.q 8 (.q 9 (.q 10 (.t 11 (.t 12 (.q 13 .done)))))) 11 (.t 7 (.q 8 (.q 9 (.q 10 (.t 12 (.q 13 .done)))))))))))))) (by kernel_rfl) (by kernel_rfl) (fun _ _ d _ _ h => by cases d <;> exact h) ?_
        generalize World.drew wp = wd1 at R11D KRD UWX BWD ⊢
        have Z := Lib.hid (Below.refl wd1.heap.size wd1)
        refine road_q (v := ?_) rfl rfl (Z.out) ?_ ?_
        rotate_left
        · intro W hW
          go_simp
          with_reducible rfl
        simp only [Act.put, List.setIfInBounds_toArray, List.set_cons_zero, List.set_cons_succ]
        refine road_q rfl rfl (Z.out) (fun W hW => run_load_row 32 (.tmp 11) rfl M11 rfl 32 rc (0, 0) _ (below_block hW (row_lt R11D.out) R11D.out) Try.underlying32 rfl IR2.out) ?_
        simp only [Act.put, List.setIfInBounds_toArray, List.set_cons_zero, List.set_cons_succ]
        refine road_q (v := ?_) rfl rfl (Z.out) ?_ ?_
        rotate_left
        · intro W hW
          go_simp
          with_reducible rfl
        simp only [Act.put, List.setIfInBounds_toArray, List.set_cons_zero, List.set_cons_succ]
        refine road_q (v := ?_) rfl rfl (Z.out) ?_ ?_
        rotate_left
        · intro W hW
          go_simp
          with_reducible rfl
        simp only [Act.put, List.setIfInBounds_toArray, List.set_cons_zero, List.set_cons_succ]
        refine road_q rfl rfl (Z.out) (fun W hW => run_iaddr_slk 23 (.tmp 99) (.tmp 100) rfl 49 Try.underlying23 34 info_mem bz oz nr cr j JQ.out .i64 _ rfl (by rw [← AE.out]; rfl) rfl W) ?_
        simp only [Act.put, List.setIfInBounds_toArray, List.set_cons_zero, List.set_cons_succ]
        refine road_q (v := ?_) rfl rfl (Z.out) ?_ ?_
        rotate_left
        · intro W hW
          go_simp
          with_reducible rfl
        simp only [Act.put, List.setIfInBounds_toArray, List.set_cons_zero, List.set_cons_succ]
        refine road_q rfl rfl (Z.out) (fun W hW => run_load_range 35 (.tmp 102) rfl bz (oz + j * 34 + 1) rfl (B8 z.k) (rangeAt_keep KRD.out hW) Try.underlying35 rfl ZKZ.out) ?_
        simp only [Act.put, List.setIfInBounds_toArray, List.set_cons_zero, List.set_cons_succ]
        refine road_two ?_ ?_
        ·
          refine road_t rfl rfl (fun K hK => ?_)
          go_simp
          refine (UWX.out _ Z.out).mono ?_
          rintro e wu ⟨rfl, hb⟩
          try have R13 := Lib.hid (below_block hb (row_lt R13.out) R13.out)
          have Z := Lib.hid (Z.out.trans (hb.mono Z.out.size))
          clear hb
          refine hK.out _ _ (Z.out) ?_
          clear hK K
          refine road_q (v := ?_) rfl rfl (Z.out) ?_ ?_
          rotate_left
          · intro W hW
            go_simp
            with_reducible rfl
          simp only [Act.put, List.setIfInBounds_toArray, List.set_cons_zero, List.set_cons_succ]
          refine road_q (v := ?_) rfl rfl (Z.out) ?_ ?_
          rotate_left
          · intro W hW
            go_simp
            with_reducible rfl
          simp only [Act.put, List.setIfInBounds_toArray, List.set_cons_zero, List.set_cons_succ]
          refine road_q (v := ?_) rfl rfl (Z.out) ?_ ?_
          rotate_left
          · intro W hW
            go_simp
            with_reducible rfl
          simp only [Act.put, List.setIfInBounds_toArray, List.set_cons_zero, List.set_cons_succ]
          refine road_t rfl rfl (fun K hK => ?_)
          go_simp
          rw [← ZK.out]
          generalize hNK : Array.size (World.heap _) = N13
          generalize hw : World.alloc _ _ = wn
          have hb := Lib.hid (show Below _ _ wn by rw [← hw]; exact below_new _ _)
          have R13 := Lib.hid (show wn.heap[N13]? = some (.cells (RowK kysZ).toArray 37 (0, 0)) by rw [← hw]; exact ha_new _ _ _ hNK.symm)
          have NKL := Lib.hid (show wd1.heap.size ≤ N13 by rw [← hNK]; exact Z.out.size)
          have Z := Lib.hid (Z.out.trans (hb.out.mono Z.out.size))
          clear hNK hw hb
          refine hK.out _ _ (Z.out) ?_
          clear hK K
          refine road_t rfl rfl (fun K hK => ?_)
          refine wp_store_whole 37 (.tmp 13) (.tmp 105) rfl N13 (RowK (seenK ya z.o)).toArray rfl rfl _ _ R13.out (info_kysC _ (OSK.out z.o)) ((sizeK _ ok_kysZ).trans (sizeK _ (OSK.out z.o)).symm) (rowK_one _) ?_
          intro ws hr hg _
          have R13 := Lib.hid hr
          have Z := Lib.hid (grown_below_on Z.out hg NKL.out)
          clear hr hg
          refine hK.out _ _ (Z.out) ?_
          clear hK K
          refine road_q (v := ?_) rfl rfl (Z.out) ?_ ?_
          rotate_left
          · intro W hW
            go_simp
            with_reducible rfl
          simp only [Act.put, List.setIfInBounds_toArray, List.set_cons_zero, List.set_cons_succ]
          refine road_done ?_
          go_upto_region 16 with fail
          have BS := Lib.hid (show Below w11.heap.size w11 ws from BWD.out.trans (Z.out.mono BWD.out.size))
          have D0 := Lib.hid (show Below ws.heap.size ws ws.drew from (Below.refl _ _).drew)
          have KS := Lib.hid (rangeAt_keep KEYR.out BS.out)
          have MS := Lib.hid (rangeAt_keep RZ.out BS.out)
          have K13 := Lib.hid (rangeK_k (y := seenK ya z.o) (o := 0) (range_rowL R13.out))
          refine wp_region_road (fun W => Below ws.heap.size ws W) [(true, 0), (true, 1), (true, 2), (true, 3), (true, 4), (true, 5), (true, 6), (true, 7), (true, 8), (true, 9), (true, 10), (true, 11), (true, 12), (true, 13), (true, 14), (true, 15), (true, 16), (true, 17), (true, 18), (true, 19), (true, 20), (true, 21), (true, 22), (true, 23)] (by kernel_rfl) (by kernel_rfl) (fun _ _ d _ _ h => by cases d <;> exact h) ?_
          simp only [List.filterMap_cons, List.filterMap_nil, List.getElem?_toArray, List.getElem?_cons_zero, List.getElem?_cons_succ, Option.map_some]
          refine planG_q (v := ?_) (by rfl) (D0.out) ?_ ?_
          rotate_left
          · intro W hW
            go_simp
            with_reducible rfl
          simp only [Act.put, List.setIfInBounds_toArray, List.set_cons_zero, List.set_cons_succ]
          refine planG_q (v := ?_) (by rfl) (D0.out) ?_ ?_
          rotate_left
          · intro W hW
            go_simp
            with_reducible rfl
          simp only [Act.put, List.setIfInBounds_toArray, List.set_cons_zero, List.set_cons_succ]
          refine planG_q (v := ?_) (by rfl) (D0.out) ?_ ?_
          rotate_left
          · intro W hW
            go_simp
            with_reducible rfl
          simp only [Act.put, List.setIfInBounds_toArray, List.set_cons_zero, List.set_cons_succ]
          refine planG_q (v := ?_) (by rfl) (D0.out) ?_ ?_
          rotate_left
          · intro W hW
            go_simp
            with_reducible rfl
          simp only [Act.put, List.setIfInBounds_toArray, List.set_cons_zero, List.set_cons_succ]
          refine planG_q (by rfl) (D0.out) (fun W hW => run_cell 33 (.tmp 110) rfl _ Try.underlying33 rfl rfl (row_cell (below_block hW (row_lt R13.out) R13.out) 0 (show (RowK (seenK ya z.o)).toArray[0]? = some (.int .u64 9) by show some (Value.int .u64 (ya.e.toNat : Int)) = _; rw [Y9.out]; rfl))) ?_
          simp only [Act.put, List.setIfInBounds_toArray, List.set_cons_zero, List.set_cons_succ]
          refine planG_q (v := ?_) (by rfl) (D0.out) ?_ ?_
          rotate_left
          · intro W hW
            go_simp
            with_reducible rfl
          simp only [Act.put, List.setIfInBounds_toArray, List.set_cons_zero, List.set_cons_succ]
          refine planG_q (v := ?_) (by rfl) (D0.out) ?_ ?_
          rotate_left
          · intro W hW
            go_simp
            with_reducible rfl
          simp only [Act.put, List.setIfInBounds_toArray, List.set_cons_zero, List.set_cons_succ]
          refine planG_q (v := ?_) (by rfl) (D0.out) ?_ ?_
          rotate_left
          · intro W hW
            go_simp
            with_reducible rfl
          simp only [Act.put, List.setIfInBounds_toArray, List.set_cons_zero, List.set_cons_succ]
          refine planG_q (v := ?_) (by rfl) (D0.out) ?_ ?_
          rotate_left
          · intro W hW
            go_simp
            with_reducible rfl
          simp only [Act.put, List.setIfInBounds_toArray, List.set_cons_zero, List.set_cons_succ]
          refine planG_q (by rfl) (D0.out) (fun W hW => run_load_range 35 (.tmp 115) rfl N13 1 rfl (B8 ya.k) (by have h1 := rangeAt_keep K13.out hW; rwa [Nat.zero_add] at h1) Try.underlying35 rfl ZKY.out) ?_
          simp only [Act.put, List.setIfInBounds_toArray, List.set_cons_zero, List.set_cons_succ]
          refine planG_q (v := ?_) (by rfl) (D0.out) ?_ ?_
          rotate_left
          · intro W hW
            go_simp
            with_reducible rfl
          simp only [Act.put, List.setIfInBounds_toArray, List.set_cons_zero, List.set_cons_succ]
          refine planG_q (by rfl) (D0.out) (fun W hW => run_load_range 35 (.tmp 117) rfl (M7 + 1) 1 rfl (B8 ya.k) (by have h1 := rangeAt_keep KS.out hW; rwa [Nat.zero_add] at h1) Try.underlying35 rfl ZKY.out) ?_
          simp only [Act.put, List.setIfInBounds_toArray, List.set_cons_zero, List.set_cons_succ]
          refine planG_q (by rfl) (D0.out) (fun W hW => run_neq_arr_false 35 _ (.tmp 116) (.tmp 118) rfl 5 32 Try.underlying35 Try.underlying5 rfl (by kernel_rfl) ya.k ya.k OYA.out.1 rfl rfl rfl W) ?_
          simp only [Act.put, List.setIfInBounds_toArray, List.set_cons_zero, List.set_cons_succ]
          refine planG_q (v := ?_) (by rfl) (D0.out) ?_ ?_
          rotate_left
          · intro W hW
            go_simp
            with_reducible rfl
          simp only [Act.put, List.setIfInBounds_toArray, List.set_cons_zero, List.set_cons_succ]
          refine planG_q (v := ?_) (by rfl) (D0.out) ?_ ?_
          rotate_left
          · intro W hW
            go_simp
            with_reducible rfl
          simp only [Act.put, List.setIfInBounds_toArray, List.set_cons_zero, List.set_cons_succ]
          refine planG_q (v := ?_) (by rfl) (D0.out) ?_ ?_
          rotate_left
          · intro W hW
            go_simp
            with_reducible rfl
          simp only [Act.put, List.setIfInBounds_toArray, List.set_cons_zero, List.set_cons_succ]
          refine planG_q (by rfl) (D0.out) (fun W hW => run_cell 4 (.tmp 122) rfl _ Try.underlying4 rfl rfl (row_cell (below_block hW (row_lt R13.out) R13.out) 65 (show (RowK (seenK ya z.o)).toArray[65]? = some (.bool z.o) from rowK_w (OSK.out z.o)))) ?_
          simp only [Act.put, List.setIfInBounds_toArray, List.set_cons_zero, List.set_cons_succ]
          refine planG_q (v := ?_) (by rfl) (D0.out) ?_ ?_
          rotate_left
          · intro W hW
            go_simp
            with_reducible rfl
          simp only [Act.put, List.setIfInBounds_toArray, List.set_cons_zero, List.set_cons_succ]
          refine planG_q (v := ?_) (by rfl) (D0.out) ?_ ?_
          rotate_left
          · intro W hW
            go_simp
            with_reducible rfl
          simp only [Act.put, List.setIfInBounds_toArray, List.set_cons_zero, List.set_cons_succ]
          refine planG_q (by rfl) (D0.out) (fun W hW => run_iaddr_slk 23 (.tmp 124) (.tmp 125) rfl 49 Try.underlying23 34 info_mem bz oz nr cr j JQ.out .i64 _ rfl (by rw [← AE.out]; rfl) rfl W) ?_
          simp only [Act.put, List.setIfInBounds_toArray, List.set_cons_zero, List.set_cons_succ]
          refine planG_q (v := ?_) (by rfl) (D0.out) ?_ ?_
          rotate_left
          · intro W hW
            go_simp
            with_reducible rfl
          simp only [Act.put, List.setIfInBounds_toArray, List.set_cons_zero, List.set_cons_succ]
          refine planG_q (by rfl) (D0.out) (fun W hW => run_cell 4 (.tmp 127) rfl _ Try.underlying4 rfl rfl ((rangeAt_keep MS.out hW) 33 _ (by have := rowM_o ZOKZ.out.1; rwa [List.getElem?_toArray] at this))) ?_
          simp only [Act.put, List.setIfInBounds_toArray, List.set_cons_zero, List.set_cons_succ]
          refine planG_q (v := ?_) (by rfl) (D0.out) ?_ ?_
          rotate_left
          · intro W hW
            go_simp
            with_reducible rfl
          simp only [Act.put, List.setIfInBounds_toArray, List.set_cons_zero, List.set_cons_succ]
          refine planG_q (v := ?_) (by rfl) (D0.out) ?_ ?_
          rotate_left
          · intro W hW
            go_simp
            with_reducible rfl
          simp only [Act.put, List.setIfInBounds_toArray, List.set_cons_zero, List.set_cons_succ]
          refine planG_nil ?_
          go_wp2_with fail
          go_roundw
          case rel => exact ⟨j + 1, by have := JQ.out; omega, by go_num, BS.out.trans (D0.out.mono BS.out.size)⟩
          case measure => have := JQ.out; simp [intOf]; omega
        ·
          refine road_t rfl rfl (fun K hK => ?_)
          go_simp
          rw [← ZK.out]
          generalize hNK : Array.size (World.heap _) = N13
          generalize hw : World.alloc _ _ = wn
          have hb := Lib.hid (show Below _ _ wn by rw [← hw]; exact below_new _ _)
          have R13 := Lib.hid (show wn.heap[N13]? = some (.cells (RowK kysZ).toArray 37 (0, 0)) by rw [← hw]; exact ha_new _ _ _ hNK.symm)
          have NKL := Lib.hid (show wd1.heap.size ≤ N13 by rw [← hNK]; exact Z.out.size)
          have Z := Lib.hid (Z.out.trans (hb.out.mono Z.out.size))
          clear hNK hw hb
          refine hK.out _ _ (Z.out) ?_
          clear hK K
          refine road_t rfl rfl (fun K hK => ?_)
          go_simp
          refine (UWX.out _ Z.out).mono ?_
          rintro e wu ⟨rfl, hb⟩
          try have R13 := Lib.hid (below_block hb (row_lt R13.out) R13.out)
          have Z := Lib.hid (Z.out.trans (hb.mono Z.out.size))
          clear hb
          refine hK.out _ _ (Z.out) ?_
          clear hK K
          refine road_q (v := ?_) rfl rfl (Z.out) ?_ ?_
          rotate_left
          · intro W hW
            go_simp
            with_reducible rfl
          simp only [Act.put, List.setIfInBounds_toArray, List.set_cons_zero, List.set_cons_succ]
          refine road_q (v := ?_) rfl rfl (Z.out) ?_ ?_
          rotate_left
          · intro W hW
            go_simp
            with_reducible rfl
          simp only [Act.put, List.setIfInBounds_toArray, List.set_cons_zero, List.set_cons_succ]
          refine road_q (v := ?_) rfl rfl (Z.out) ?_ ?_
          rotate_left
          · intro W hW
            go_simp
            with_reducible rfl
          simp only [Act.put, List.setIfInBounds_toArray, List.set_cons_zero, List.set_cons_succ]
          refine road_t rfl rfl (fun K hK => ?_)
          refine wp_store_whole 37 (.tmp 13) (.tmp 105) rfl N13 (RowK (seenK ya z.o)).toArray rfl rfl _ _ R13.out (info_kysC _ (OSK.out z.o)) ((sizeK _ ok_kysZ).trans (sizeK _ (OSK.out z.o)).symm) (rowK_one _) ?_
          intro ws hr hg _
          have R13 := Lib.hid hr
          have Z := Lib.hid (grown_below_on Z.out hg NKL.out)
          clear hr hg
          refine hK.out _ _ (Z.out) ?_
          clear hK K
          refine road_q (v := ?_) rfl rfl (Z.out) ?_ ?_
          rotate_left
          · intro W hW
            go_simp
            with_reducible rfl
          simp only [Act.put, List.setIfInBounds_toArray, List.set_cons_zero, List.set_cons_succ]
          refine road_done ?_
          go_upto_region 16 with fail
          have BS := Lib.hid (show Below w11.heap.size w11 ws from BWD.out.trans (Z.out.mono BWD.out.size))
          have D0 := Lib.hid (show Below ws.heap.size ws ws.drew from (Below.refl _ _).drew)
          have KS := Lib.hid (rangeAt_keep KEYR.out BS.out)
          have MS := Lib.hid (rangeAt_keep RZ.out BS.out)
          have K13 := Lib.hid (rangeK_k (y := seenK ya z.o) (o := 0) (range_rowL R13.out))
          refine wp_region_road (fun W => Below ws.heap.size ws W) [(true, 0), (true, 1), (true, 2), (true, 3), (true, 4), (true, 5), (true, 6), (true, 7), (true, 8), (true, 9), (true, 10), (true, 11), (true, 12), (true, 13), (true, 14), (true, 15), (true, 16), (true, 17), (true, 18), (true, 19), (true, 20), (true, 21), (true, 22), (true, 23)] (by kernel_rfl) (by kernel_rfl) (fun _ _ d _ _ h => by cases d <;> exact h) ?_
          simp only [List.filterMap_cons, List.filterMap_nil, List.getElem?_toArray, List.getElem?_cons_zero, List.getElem?_cons_succ, Option.map_some]
          refine planG_q (v := ?_) (by rfl) (D0.out) ?_ ?_
          rotate_left
          · intro W hW
            go_simp
            with_reducible rfl
          simp only [Act.put, List.setIfInBounds_toArray, List.set_cons_zero, List.set_cons_succ]
          refine planG_q (v := ?_) (by rfl) (D0.out) ?_ ?_
          rotate_left
          · intro W hW
            go_simp
            with_reducible rfl
          simp only [Act.put, List.setIfInBounds_toArray, List.set_cons_zero, List.set_cons_succ]
          refine planG_q (v := ?_) (by rfl) (D0.out) ?_ ?_
          rotate_left
          · intro W hW
            go_simp
            with_reducible rfl
          simp only [Act.put, List.setIfInBounds_toArray, List.set_cons_zero, List.set_cons_succ]
          refine planG_q (v := ?_) (by rfl) (D0.out) ?_ ?_
          rotate_left
          · intro W hW
            go_simp
            with_reducible rfl
          simp only [Act.put, List.setIfInBounds_toArray, List.set_cons_zero, List.set_cons_succ]
          refine planG_q (by rfl) (D0.out) (fun W hW => run_cell 33 (.tmp 110) rfl _ Try.underlying33 rfl rfl (row_cell (below_block hW (row_lt R13.out) R13.out) 0 (show (RowK (seenK ya z.o)).toArray[0]? = some (.int .u64 9) by show some (Value.int .u64 (ya.e.toNat : Int)) = _; rw [Y9.out]; rfl))) ?_
          simp only [Act.put, List.setIfInBounds_toArray, List.set_cons_zero, List.set_cons_succ]
          refine planG_q (v := ?_) (by rfl) (D0.out) ?_ ?_
          rotate_left
          · intro W hW
            go_simp
            with_reducible rfl
          simp only [Act.put, List.setIfInBounds_toArray, List.set_cons_zero, List.set_cons_succ]
          refine planG_q (v := ?_) (by rfl) (D0.out) ?_ ?_
          rotate_left
          · intro W hW
            go_simp
            with_reducible rfl
          simp only [Act.put, List.setIfInBounds_toArray, List.set_cons_zero, List.set_cons_succ]
          refine planG_q (v := ?_) (by rfl) (D0.out) ?_ ?_
          rotate_left
          · intro W hW
            go_simp
            with_reducible rfl
          simp only [Act.put, List.setIfInBounds_toArray, List.set_cons_zero, List.set_cons_succ]
          refine planG_q (v := ?_) (by rfl) (D0.out) ?_ ?_
          rotate_left
          · intro W hW
            go_simp
            with_reducible rfl
          simp only [Act.put, List.setIfInBounds_toArray, List.set_cons_zero, List.set_cons_succ]
          refine planG_q (by rfl) (D0.out) (fun W hW => run_load_range 35 (.tmp 115) rfl N13 1 rfl (B8 ya.k) (by have h1 := rangeAt_keep K13.out hW; rwa [Nat.zero_add] at h1) Try.underlying35 rfl ZKY.out) ?_
          simp only [Act.put, List.setIfInBounds_toArray, List.set_cons_zero, List.set_cons_succ]
          refine planG_q (v := ?_) (by rfl) (D0.out) ?_ ?_
          rotate_left
          · intro W hW
            go_simp
            with_reducible rfl
          simp only [Act.put, List.setIfInBounds_toArray, List.set_cons_zero, List.set_cons_succ]
          refine planG_q (by rfl) (D0.out) (fun W hW => run_load_range 35 (.tmp 117) rfl (M7 + 1) 1 rfl (B8 ya.k) (by have h1 := rangeAt_keep KS.out hW; rwa [Nat.zero_add] at h1) Try.underlying35 rfl ZKY.out) ?_
          simp only [Act.put, List.setIfInBounds_toArray, List.set_cons_zero, List.set_cons_succ]
          refine planG_q (by rfl) (D0.out) (fun W hW => run_neq_arr_false 35 _ (.tmp 116) (.tmp 118) rfl 5 32 Try.underlying35 Try.underlying5 rfl (by kernel_rfl) ya.k ya.k OYA.out.1 rfl rfl rfl W) ?_
          simp only [Act.put, List.setIfInBounds_toArray, List.set_cons_zero, List.set_cons_succ]
          refine planG_q (v := ?_) (by rfl) (D0.out) ?_ ?_
          rotate_left
          · intro W hW
            go_simp
            with_reducible rfl
          simp only [Act.put, List.setIfInBounds_toArray, List.set_cons_zero, List.set_cons_succ]
          refine planG_q (v := ?_) (by rfl) (D0.out) ?_ ?_
          rotate_left
          · intro W hW
            go_simp
            with_reducible rfl
          simp only [Act.put, List.setIfInBounds_toArray, List.set_cons_zero, List.set_cons_succ]
          refine planG_q (v := ?_) (by rfl) (D0.out) ?_ ?_
          rotate_left
          · intro W hW
            go_simp
            with_reducible rfl
          simp only [Act.put, List.setIfInBounds_toArray, List.set_cons_zero, List.set_cons_succ]
          refine planG_q (by rfl) (D0.out) (fun W hW => run_cell 4 (.tmp 122) rfl _ Try.underlying4 rfl rfl (row_cell (below_block hW (row_lt R13.out) R13.out) 65 (show (RowK (seenK ya z.o)).toArray[65]? = some (.bool z.o) from rowK_w (OSK.out z.o)))) ?_
          simp only [Act.put, List.setIfInBounds_toArray, List.set_cons_zero, List.set_cons_succ]
          refine planG_q (v := ?_) (by rfl) (D0.out) ?_ ?_
          rotate_left
          · intro W hW
            go_simp
            with_reducible rfl
          simp only [Act.put, List.setIfInBounds_toArray, List.set_cons_zero, List.set_cons_succ]
          refine planG_q (v := ?_) (by rfl) (D0.out) ?_ ?_
          rotate_left
          · intro W hW
            go_simp
            with_reducible rfl
          simp only [Act.put, List.setIfInBounds_toArray, List.set_cons_zero, List.set_cons_succ]
          refine planG_q (by rfl) (D0.out) (fun W hW => run_iaddr_slk 23 (.tmp 124) (.tmp 125) rfl 49 Try.underlying23 34 info_mem bz oz nr cr j JQ.out .i64 _ rfl (by rw [← AE.out]; rfl) rfl W) ?_
          simp only [Act.put, List.setIfInBounds_toArray, List.set_cons_zero, List.set_cons_succ]
          refine planG_q (v := ?_) (by rfl) (D0.out) ?_ ?_
          rotate_left
          · intro W hW
            go_simp
            with_reducible rfl
          simp only [Act.put, List.setIfInBounds_toArray, List.set_cons_zero, List.set_cons_succ]
          refine planG_q (by rfl) (D0.out) (fun W hW => run_cell 4 (.tmp 127) rfl _ Try.underlying4 rfl rfl ((rangeAt_keep MS.out hW) 33 _ (by have := rowM_o ZOKZ.out.1; rwa [List.getElem?_toArray] at this))) ?_
          simp only [Act.put, List.setIfInBounds_toArray, List.set_cons_zero, List.set_cons_succ]
          refine planG_q (v := ?_) (by rfl) (D0.out) ?_ ?_
          rotate_left
          · intro W hW
            go_simp
            with_reducible rfl
          simp only [Act.put, List.setIfInBounds_toArray, List.set_cons_zero, List.set_cons_succ]
          refine planG_q (v := ?_) (by rfl) (D0.out) ?_ ?_
          rotate_left
          · intro W hW
            go_simp
            with_reducible rfl
          simp only [Act.put, List.setIfInBounds_toArray, List.set_cons_zero, List.set_cons_succ]
          refine planG_nil ?_
          go_wp2_with fail
          go_roundw
          case rel => exact ⟨j + 1, by have := JQ.out; omega, by go_num, BS.out.trans (D0.out.mono BS.out.size)⟩
          case measure => have := JQ.out; simp [intOf]; omega
      · have hD : decide ((j : Int) < (nr : Int)) = false := by simp; omega
        obtain ⟨z, bz, oz, hz, hok, hA, hrz⟩ := H0L.out.at (show k < zs.length by rw [Q1.out]; exact KQ.out)
        have AE := Lib.hid hA
        have ZOKZ := Lib.hid hok
        have RZ := Lib.hid hrz
        have UM := Lib.hid (show unwrapL s2 z.k xs2 = (kysZ, 13) by
          have h := unwrap_none RI2.out M2.out z.k 0 (fun j z' _ hz' => by rw [ZRE.out] at hz'; exact rest_out CK.out hz j z' hz')
          rwa [List.drop_zero] at h)
        have UM1 := Lib.hid (show unwrapL s2 z.k xs0 = (seenK ya z.o, 0) from unwrap_mem OYA.out RI1.out M2.out k (by have := KQ.out; have := Q8.out; omega) z hz (fun i z' hi hz' => (check_keys CK.out i k z z' hi hz' hz).1))
        have ZKZ := Lib.hid (show (Try.prog.info? 35).map (·.size) = some (B8 z.k).length from info_key hok.1)
        clear hz hok hA hrz
        go_upto_region 18 with fail
        have BWD := Lib.hid (show Below w11.heap.size w11 wp.drew from BW.out.drew)
        have R11D := Lib.hid (below_block BWD.out (row_lt R11L.out) R11L.out)
        have KRD := Lib.hid (rangeAt_keep (range_key RZ.out) BWD.out)
        have UWX := Lib.hid (show ∀ W : World, Below wp.drew.heap.size wp.drew W → Calls Try.prog 12 #[.pointer (some ⟨g, 0, none⟩), .agg rc, .agg (B8 z.k).toArray] W fun e w' => e = .returned (.tuple #[.agg (RowK kysZ).toArray, .int .i64 13]) ∧ Below W.heap.size W w' by
          intro W hW
          have h1 := unwrap_any w3 g S D b L s2 W ((HL.out.keep BWD.out).keep hW) (.inr M2.out) (.agg rc) xs2 d2 _ ((RGNL.out.keep BWD.out).keep hW) (fun x hx => by obtain ⟨i, hi⟩ := List.getElem?_of_mem hx; rw [(RI2.out.each i x hi).1]; omega) (by rw [RI2.out.len]; omega) z.k ZOKZ.out.1 TX2.out
          rw [UM.out] at h1
          exact h1)
        refine wp_region_tree (fun W => Below wp.drew.heap.size wp.drew W) (.q 0 (.q 1 (.q 2 (.q 3 (.q 4 (.q 5 (.q 6 (.two 7 (.q 8 (.q 9 (.q 10 (.t 11 (.t 12 (.q 13 .done)))))) 11 (.t 7 (.q 8 (.q 9 (.q 10 (.t 12 (.q 13 .done)))))))))))))) (by kernel_rfl) (by kernel_rfl) (fun _ _ d _ _ h => by cases d <;> exact h) ?_
        generalize World.drew wp = wd1 at R11D KRD UWX BWD ⊢
        have Z := Lib.hid (Below.refl wd1.heap.size wd1)
        refine road_q (v := ?_) rfl rfl (Z.out) ?_ ?_
        rotate_left
        · intro W hW
          go_simp
          with_reducible rfl
        simp only [Act.put, List.setIfInBounds_toArray, List.set_cons_zero, List.set_cons_succ]
        refine road_q rfl rfl (Z.out) (fun W hW => run_load_row 32 (.tmp 11) rfl M11 rfl 32 rc (0, 0) _ (below_block hW (row_lt R11D.out) R11D.out) Try.underlying32 rfl IR2.out) ?_
        simp only [Act.put, List.setIfInBounds_toArray, List.set_cons_zero, List.set_cons_succ]
        refine road_q (v := ?_) rfl rfl (Z.out) ?_ ?_
        rotate_left
        · intro W hW
          go_simp
          with_reducible rfl
        simp only [Act.put, List.setIfInBounds_toArray, List.set_cons_zero, List.set_cons_succ]
        refine road_q (v := ?_) rfl rfl (Z.out) ?_ ?_
        rotate_left
        · intro W hW
          go_simp
          with_reducible rfl
        simp only [Act.put, List.setIfInBounds_toArray, List.set_cons_zero, List.set_cons_succ]
        refine road_q rfl rfl (Z.out) (fun W hW => run_iaddr_slk 23 (.tmp 134) (.tmp 135) rfl 49 Try.underlying23 34 info_mem bz oz q c0 k KQ.out .i64 _ rfl (by rw [← AE.out]; rfl) rfl W) ?_
        simp only [Act.put, List.setIfInBounds_toArray, List.set_cons_zero, List.set_cons_succ]
        refine road_q (v := ?_) rfl rfl (Z.out) ?_ ?_
        rotate_left
        · intro W hW
          go_simp
          with_reducible rfl
        simp only [Act.put, List.setIfInBounds_toArray, List.set_cons_zero, List.set_cons_succ]
        refine road_q rfl rfl (Z.out) (fun W hW => run_load_range 35 (.tmp 137) rfl bz (oz + k * 34 + 1) rfl (B8 z.k) (rangeAt_keep KRD.out hW) Try.underlying35 rfl ZKZ.out) ?_
        simp only [Act.put, List.setIfInBounds_toArray, List.set_cons_zero, List.set_cons_succ]
        refine road_two ?_ ?_
        ·
          refine road_t rfl rfl (fun K hK => ?_)
          go_simp
          refine (UWX.out _ Z.out).mono ?_
          rintro e wu ⟨rfl, hb⟩
          try have R13 := Lib.hid (below_block hb (row_lt R13.out) R13.out)
          have Z := Lib.hid (Z.out.trans (hb.mono Z.out.size))
          clear hb
          refine hK.out _ _ (Z.out) ?_
          clear hK K
          refine road_q (v := ?_) rfl rfl (Z.out) ?_ ?_
          rotate_left
          · intro W hW
            go_simp
            with_reducible rfl
          simp only [Act.put, List.setIfInBounds_toArray, List.set_cons_zero, List.set_cons_succ]
          refine road_q (v := ?_) rfl rfl (Z.out) ?_ ?_
          rotate_left
          · intro W hW
            go_simp
            with_reducible rfl
          simp only [Act.put, List.setIfInBounds_toArray, List.set_cons_zero, List.set_cons_succ]
          refine road_q (v := ?_) rfl rfl (Z.out) ?_ ?_
          rotate_left
          · intro W hW
            go_simp
            with_reducible rfl
          simp only [Act.put, List.setIfInBounds_toArray, List.set_cons_zero, List.set_cons_succ]
          refine road_t rfl rfl (fun K hK => ?_)
          go_simp
          rw [← ZK.out]
          generalize hNK : Array.size (World.heap _) = N15
          generalize hw : World.alloc _ _ = wn
          have hb := Lib.hid (show Below _ _ wn by rw [← hw]; exact below_new _ _)
          have R13 := Lib.hid (show wn.heap[N15]? = some (.cells (RowK kysZ).toArray 37 (0, 0)) by rw [← hw]; exact ha_new _ _ _ hNK.symm)
          have NKL := Lib.hid (show wd1.heap.size ≤ N15 by rw [← hNK]; exact Z.out.size)
          have Z := Lib.hid (Z.out.trans (hb.out.mono Z.out.size))
          clear hNK hw hb
          refine hK.out _ _ (Z.out) ?_
          clear hK K
          refine road_t rfl rfl (fun K hK => ?_)
          refine wp_store_whole 37 (.tmp 15) (.tmp 140) rfl N15 (RowK kysZ).toArray rfl rfl _ _ R13.out (info_kysC _ ok_kysZ) ((sizeK _ ok_kysZ).trans (sizeK _ ok_kysZ).symm) (rowK_one _) ?_
          intro ws hr hg _
          have R13 := Lib.hid hr
          have Z := Lib.hid (grown_below_on Z.out hg NKL.out)
          clear hr hg
          refine hK.out _ _ (Z.out) ?_
          clear hK K
          refine road_q (v := ?_) rfl rfl (Z.out) ?_ ?_
          rotate_left
          · intro W hW
            go_simp
            with_reducible rfl
          simp only [Act.put, List.setIfInBounds_toArray, List.set_cons_zero, List.set_cons_succ]
          refine road_done ?_
          obtain ⟨wp2, rfl⟩ : ∃ wp2 : World, wp2 = ws := ⟨_, rfl⟩
          have BS := Lib.hid (show Below w11.heap.size w11 wp2 from BWD.out.trans (Z.out.mono BWD.out.size))
          go_upto_region 19 with fail
          have BWD2 := Lib.hid (show Below w11.heap.size w11 wp2.drew from BS.out.drew)
          have RAD := Lib.hid (below_block BWD2.out (row_lt RAL.out) RAL.out)
          have KRE := Lib.hid (rangeAt_keep (range_key RZ.out) BWD2.out)
          have UWY := Lib.hid (show ∀ W : World, Below wp2.drew.heap.size wp2.drew W → Calls Try.prog 12 #[.pointer (some ⟨g, 0, none⟩), .agg ra, .agg (B8 z.k).toArray] W fun e w' => e = .returned (.tuple #[.agg (RowK (seenK ya z.o)).toArray, .int .i64 0]) ∧ Below W.heap.size W w' by
            intro W hW
            have h1 := unwrap_any w3 g S D b L s2 W ((HL.out.keep BWD2.out).keep hW) (.inr M2.out) (.agg ra) xs0 d0 _ ((RGOL.out.keep BWD2.out).keep hW) (fun x hx => by obtain ⟨i, hi⟩ := List.getElem?_of_mem hx; rw [(RI1.out.each i x hi).1]; omega) (by rw [RI1.out.len]; omega) z.k ZOKZ.out.1 TX2.out
            rw [UM1.out] at h1
            exact h1)
          clear R13 NKL Z
          refine wp_region_tree (fun W => Below wp2.drew.heap.size wp2.drew W) (.q 0 (.q 1 (.q 2 (.q 3 (.q 4 (.q 5 (.q 6 (.two 7 (.q 8 (.q 9 (.q 10 (.t 11 (.t 12 (.q 13 .done)))))) 11 (.t 7 (.q 8 (.q 9 (.q 10 (.t 12 (.q 13 .done)))))))))))))) (by kernel_rfl) (by kernel_rfl) (fun _ _ d _ _ h => by cases d <;> exact h) ?_
          generalize World.drew wp2 = wd2 at RAD KRE UWY BWD2 ⊢
          have Z := Lib.hid (Below.refl wd2.heap.size wd2)
          refine road_q (v := ?_) rfl rfl (Z.out) ?_ ?_
          rotate_left
          · intro W hW
            go_simp
            with_reducible rfl
          simp only [Act.put, List.setIfInBounds_toArray, List.set_cons_zero, List.set_cons_succ]
          refine road_q rfl rfl (Z.out) (fun W hW => run_load_row 32 (.tmp 7) rfl M7 rfl 32 ra (0, 0) _ (below_block hW (row_lt RAD.out) RAD.out) Try.underlying32 rfl IRA.out) ?_
          simp only [Act.put, List.setIfInBounds_toArray, List.set_cons_zero, List.set_cons_succ]
          refine road_q (v := ?_) rfl rfl (Z.out) ?_ ?_
          rotate_left
          · intro W hW
            go_simp
            with_reducible rfl
          simp only [Act.put, List.setIfInBounds_toArray, List.set_cons_zero, List.set_cons_succ]
          refine road_q (v := ?_) rfl rfl (Z.out) ?_ ?_
          rotate_left
          · intro W hW
            go_simp
            with_reducible rfl
          simp only [Act.put, List.setIfInBounds_toArray, List.set_cons_zero, List.set_cons_succ]
          refine road_q rfl rfl (Z.out) (fun W hW => run_iaddr_slk 23 (.tmp 145) (.tmp 146) rfl 49 Try.underlying23 34 info_mem bz oz q c0 k KQ.out .i64 _ rfl (by rw [← AE.out]; rfl) rfl W) ?_
          simp only [Act.put, List.setIfInBounds_toArray, List.set_cons_zero, List.set_cons_succ]
          refine road_q (v := ?_) rfl rfl (Z.out) ?_ ?_
          rotate_left
          · intro W hW
            go_simp
            with_reducible rfl
          simp only [Act.put, List.setIfInBounds_toArray, List.set_cons_zero, List.set_cons_succ]
          refine road_q rfl rfl (Z.out) (fun W hW => run_load_range 35 (.tmp 148) rfl bz (oz + k * 34 + 1) rfl (B8 z.k) (rangeAt_keep KRE.out hW) Try.underlying35 rfl ZKZ.out) ?_
          simp only [Act.put, List.setIfInBounds_toArray, List.set_cons_zero, List.set_cons_succ]
          refine road_two ?_ ?_
          ·
            refine road_t rfl rfl (fun K hK => ?_)
            go_simp
            refine (UWY.out _ Z.out).mono ?_
            rintro e wu ⟨rfl, hb⟩
            try have R13 := Lib.hid (below_block hb (row_lt R13.out) R13.out)
            have Z := Lib.hid (Z.out.trans (hb.mono Z.out.size))
            clear hb
            refine hK.out _ _ (Z.out) ?_
            clear hK K
            refine road_q (v := ?_) rfl rfl (Z.out) ?_ ?_
            rotate_left
            · intro W hW
              go_simp
              with_reducible rfl
            simp only [Act.put, List.setIfInBounds_toArray, List.set_cons_zero, List.set_cons_succ]
            refine road_q (v := ?_) rfl rfl (Z.out) ?_ ?_
            rotate_left
            · intro W hW
              go_simp
              with_reducible rfl
            simp only [Act.put, List.setIfInBounds_toArray, List.set_cons_zero, List.set_cons_succ]
            refine road_q (v := ?_) rfl rfl (Z.out) ?_ ?_
            rotate_left
            · intro W hW
              go_simp
              with_reducible rfl
            simp only [Act.put, List.setIfInBounds_toArray, List.set_cons_zero, List.set_cons_succ]
            refine road_t rfl rfl (fun K hK => ?_)
            go_simp
            rw [← ZK.out]
            generalize hNK : Array.size (World.heap _) = N17
            generalize hw : World.alloc _ _ = wn
            have hb := Lib.hid (show Below _ _ wn by rw [← hw]; exact below_new _ _)
            have R13 := Lib.hid (show wn.heap[N17]? = some (.cells (RowK kysZ).toArray 37 (0, 0)) by rw [← hw]; exact ha_new _ _ _ hNK.symm)
            have NKL := Lib.hid (show wd2.heap.size ≤ N17 by rw [← hNK]; exact Z.out.size)
            have Z := Lib.hid (Z.out.trans (hb.out.mono Z.out.size))
            clear hNK hw hb
            refine hK.out _ _ (Z.out) ?_
            clear hK K
            refine road_t rfl rfl (fun K hK => ?_)
            refine wp_store_whole 37 (.tmp 17) (.tmp 151) rfl N17 (RowK (seenK ya z.o)).toArray rfl rfl _ _ R13.out (info_kysC _ (OSK.out z.o)) ((sizeK _ ok_kysZ).trans (sizeK _ (OSK.out z.o)).symm) (rowK_one _) ?_
            intro ws hr hg _
            have R13 := Lib.hid hr
            have Z := Lib.hid (grown_below_on Z.out hg NKL.out)
            clear hr hg
            refine hK.out _ _ (Z.out) ?_
            clear hK K
            refine road_q (v := ?_) rfl rfl (Z.out) ?_ ?_
            rotate_left
            · intro W hW
              go_simp
              with_reducible rfl
            simp only [Act.put, List.setIfInBounds_toArray, List.set_cons_zero, List.set_cons_succ]
            refine road_done ?_
            go_upto_region 20 with fail
            have BS2 := Lib.hid (show Below w11.heap.size w11 ws from BWD2.out.trans (Z.out.mono BWD2.out.size))
            have KS := Lib.hid (rangeAt_keep KEYR.out BS2.out)
            have K17 := Lib.hid (rangeK_k (y := seenK ya z.o) (o := 0) (range_rowL R13.out))
            refine wp_region_list ?_
            simp only [List.toList_toArray]
            refine wpList_val (v := ?_) (by rfl) ?_ ?_
            rotate_left
            · go_simp
              with_reducible rfl
            simp only [Act.put, List.setIfInBounds_toArray, List.set_cons_zero, List.set_cons_succ]
            refine wpList_val (v := ?_) (by rfl) ?_ ?_
            rotate_left
            · go_simp
              with_reducible rfl
            simp only [Act.put, List.setIfInBounds_toArray, List.set_cons_zero, List.set_cons_succ]
            refine wpList_val (v := ?_) (by rfl) ?_ ?_
            rotate_left
            · go_simp
              with_reducible rfl
            simp only [Act.put, List.setIfInBounds_toArray, List.set_cons_zero, List.set_cons_succ]
            refine wpList_valg (v := ?_) (by rfl) ?_ ?_
            rotate_left
            · go_simp
              with_reducible rfl
            simp only [Act.put, List.setIfInBounds_toArray, List.set_cons_zero, List.set_cons_succ]
            refine wpList_valg (v := ?_) (by rfl) ?_ ?_
            rotate_left
            · go_simp
              with_reducible rfl
            simp only [Act.put, List.setIfInBounds_toArray, List.set_cons_zero, List.set_cons_succ]
            refine wpList_val (v := ?_) (by rfl) ?_ ?_
            rotate_left
            · go_simp
              with_reducible rfl
            simp only [Act.put, List.setIfInBounds_toArray, List.set_cons_zero, List.set_cons_succ]
            refine wpList_val (v := ?_) (by rfl) ?_ ?_
            rotate_left
            · go_simp
              with_reducible rfl
            simp only [Act.put, List.setIfInBounds_toArray, List.set_cons_zero, List.set_cons_succ]
            refine wpList_valg (v := ?_) (by rfl) ?_ ?_
            rotate_left
            · go_simp
              with_reducible rfl
            simp only [Act.put, List.setIfInBounds_toArray, List.set_cons_zero, List.set_cons_succ]
            refine wpList_valg (v := ?_) (by rfl) ?_ ?_
            rotate_left
            · go_simp
              with_reducible rfl
            simp only [Act.put, List.setIfInBounds_toArray, List.set_cons_zero, List.set_cons_succ]
            refine wpList_val (v := ?_) (by rfl) ?_ ?_
            rotate_left
            · go_simp
              with_reducible rfl
            simp only [Act.put, List.setIfInBounds_toArray, List.set_cons_zero, List.set_cons_succ]
            refine wpList_val (v := ?_) (by rfl) ?_ ?_
            rotate_left
            · go_simp
              with_reducible rfl
            simp only [Act.put, List.setIfInBounds_toArray, List.set_cons_zero, List.set_cons_succ]
            refine wpList_valg (v := ?_) (by rfl) ?_ ?_
            rotate_left
            · go_simp
              with_reducible rfl
            simp only [Act.put, List.setIfInBounds_toArray, List.set_cons_zero, List.set_cons_succ]
            refine wpList_valg (by rfl) (run_load_range 35 (.tmp 164) rfl N17 1 rfl (B8 ya.k) (by have h1 := K17.out; rwa [Nat.zero_add] at h1) Try.underlying35 rfl ZKY.out) ?_
            simp only [Act.put, List.setIfInBounds_toArray, List.set_cons_zero, List.set_cons_succ]
            refine wpList_valg (v := ?_) (by rfl) ?_ ?_
            rotate_left
            · go_simp
              with_reducible rfl
            simp only [Act.put, List.setIfInBounds_toArray, List.set_cons_zero, List.set_cons_succ]
            refine wpList_valg (by rfl) (run_load_range 35 (.tmp 166) rfl (M7 + 1) 1 rfl (B8 ya.k) (by have h1 := KS.out; rwa [Nat.zero_add] at h1) Try.underlying35 rfl ZKY.out) ?_
            simp only [Act.put, List.setIfInBounds_toArray, List.set_cons_zero, List.set_cons_succ]
            refine wpList_valg (by rfl) (run_eq_arr_true 35 _ (.tmp 165) (.tmp 167) rfl 5 32 Try.underlying35 Try.underlying5 rfl (by kernel_rfl) ya.k ya.k OYA.out.1 rfl rfl rfl _) ?_
            simp only [Act.put, List.setIfInBounds_toArray, List.set_cons_zero, List.set_cons_succ]
            refine wpList_val (v := ?_) (by rfl) ?_ ?_
            rotate_left
            · go_simp
              with_reducible rfl
            simp only [Act.put, List.setIfInBounds_toArray, List.set_cons_zero, List.set_cons_succ]
            refine wpList_val (v := ?_) (by rfl) ?_ ?_
            rotate_left
            · go_simp
              with_reducible rfl
            simp only [Act.put, List.setIfInBounds_toArray, List.set_cons_zero, List.set_cons_succ]
            have BT := Lib.hid (BTL.out.trans (BS2.out.mono BTL.out.size))
            go_wp2_with fail
            refine (one_true _).mono ?_
            rintro e wf ⟨rfl, hb⟩
            have BF := Lib.hid (BT.out.trans (hb.mono BT.out.size))
            clear hb
            go_wp2_with fail
            go_ret
            exact ⟨rfl, BF.out⟩
          ·
            refine road_t rfl rfl (fun K hK => ?_)
            go_simp
            rw [← ZK.out]
            generalize hNK : Array.size (World.heap _) = N17
            generalize hw : World.alloc _ _ = wn
            have hb := Lib.hid (show Below _ _ wn by rw [← hw]; exact below_new _ _)
            have R13 := Lib.hid (show wn.heap[N17]? = some (.cells (RowK kysZ).toArray 37 (0, 0)) by rw [← hw]; exact ha_new _ _ _ hNK.symm)
            have NKL := Lib.hid (show wd2.heap.size ≤ N17 by rw [← hNK]; exact Z.out.size)
            have Z := Lib.hid (Z.out.trans (hb.out.mono Z.out.size))
            clear hNK hw hb
            refine hK.out _ _ (Z.out) ?_
            clear hK K
            refine road_t rfl rfl (fun K hK => ?_)
            go_simp
            refine (UWY.out _ Z.out).mono ?_
            rintro e wu ⟨rfl, hb⟩
            try have R13 := Lib.hid (below_block hb (row_lt R13.out) R13.out)
            have Z := Lib.hid (Z.out.trans (hb.mono Z.out.size))
            clear hb
            refine hK.out _ _ (Z.out) ?_
            clear hK K
            refine road_q (v := ?_) rfl rfl (Z.out) ?_ ?_
            rotate_left
            · intro W hW
              go_simp
              with_reducible rfl
            simp only [Act.put, List.setIfInBounds_toArray, List.set_cons_zero, List.set_cons_succ]
            refine road_q (v := ?_) rfl rfl (Z.out) ?_ ?_
            rotate_left
            · intro W hW
              go_simp
              with_reducible rfl
            simp only [Act.put, List.setIfInBounds_toArray, List.set_cons_zero, List.set_cons_succ]
            refine road_q (v := ?_) rfl rfl (Z.out) ?_ ?_
            rotate_left
            · intro W hW
              go_simp
              with_reducible rfl
            simp only [Act.put, List.setIfInBounds_toArray, List.set_cons_zero, List.set_cons_succ]
            refine road_t rfl rfl (fun K hK => ?_)
            refine wp_store_whole 37 (.tmp 17) (.tmp 151) rfl N17 (RowK (seenK ya z.o)).toArray rfl rfl _ _ R13.out (info_kysC _ (OSK.out z.o)) ((sizeK _ ok_kysZ).trans (sizeK _ (OSK.out z.o)).symm) (rowK_one _) ?_
            intro ws hr hg _
            have R13 := Lib.hid hr
            have Z := Lib.hid (grown_below_on Z.out hg NKL.out)
            clear hr hg
            refine hK.out _ _ (Z.out) ?_
            clear hK K
            refine road_q (v := ?_) rfl rfl (Z.out) ?_ ?_
            rotate_left
            · intro W hW
              go_simp
              with_reducible rfl
            simp only [Act.put, List.setIfInBounds_toArray, List.set_cons_zero, List.set_cons_succ]
            refine road_done ?_
            go_upto_region 20 with fail
            have BS2 := Lib.hid (show Below w11.heap.size w11 ws from BWD2.out.trans (Z.out.mono BWD2.out.size))
            have KS := Lib.hid (rangeAt_keep KEYR.out BS2.out)
            have K17 := Lib.hid (rangeK_k (y := seenK ya z.o) (o := 0) (range_rowL R13.out))
            refine wp_region_list ?_
            simp only [List.toList_toArray]
            refine wpList_val (v := ?_) (by rfl) ?_ ?_
            rotate_left
            · go_simp
              with_reducible rfl
            simp only [Act.put, List.setIfInBounds_toArray, List.set_cons_zero, List.set_cons_succ]
            refine wpList_val (v := ?_) (by rfl) ?_ ?_
            rotate_left
            · go_simp
              with_reducible rfl
            simp only [Act.put, List.setIfInBounds_toArray, List.set_cons_zero, List.set_cons_succ]
            refine wpList_val (v := ?_) (by rfl) ?_ ?_
            rotate_left
            · go_simp
              with_reducible rfl
            simp only [Act.put, List.setIfInBounds_toArray, List.set_cons_zero, List.set_cons_succ]
            refine wpList_valg (v := ?_) (by rfl) ?_ ?_
            rotate_left
            · go_simp
              with_reducible rfl
            simp only [Act.put, List.setIfInBounds_toArray, List.set_cons_zero, List.set_cons_succ]
            refine wpList_valg (v := ?_) (by rfl) ?_ ?_
            rotate_left
            · go_simp
              with_reducible rfl
            simp only [Act.put, List.setIfInBounds_toArray, List.set_cons_zero, List.set_cons_succ]
            refine wpList_val (v := ?_) (by rfl) ?_ ?_
            rotate_left
            · go_simp
              with_reducible rfl
            simp only [Act.put, List.setIfInBounds_toArray, List.set_cons_zero, List.set_cons_succ]
            refine wpList_val (v := ?_) (by rfl) ?_ ?_
            rotate_left
            · go_simp
              with_reducible rfl
            simp only [Act.put, List.setIfInBounds_toArray, List.set_cons_zero, List.set_cons_succ]
            refine wpList_valg (v := ?_) (by rfl) ?_ ?_
            rotate_left
            · go_simp
              with_reducible rfl
            simp only [Act.put, List.setIfInBounds_toArray, List.set_cons_zero, List.set_cons_succ]
            refine wpList_valg (v := ?_) (by rfl) ?_ ?_
            rotate_left
            · go_simp
              with_reducible rfl
            simp only [Act.put, List.setIfInBounds_toArray, List.set_cons_zero, List.set_cons_succ]
            refine wpList_val (v := ?_) (by rfl) ?_ ?_
            rotate_left
            · go_simp
              with_reducible rfl
            simp only [Act.put, List.setIfInBounds_toArray, List.set_cons_zero, List.set_cons_succ]
            refine wpList_val (v := ?_) (by rfl) ?_ ?_
            rotate_left
            · go_simp
              with_reducible rfl
            simp only [Act.put, List.setIfInBounds_toArray, List.set_cons_zero, List.set_cons_succ]
            refine wpList_valg (v := ?_) (by rfl) ?_ ?_
            rotate_left
            · go_simp
              with_reducible rfl
            simp only [Act.put, List.setIfInBounds_toArray, List.set_cons_zero, List.set_cons_succ]
            refine wpList_valg (by rfl) (run_load_range 35 (.tmp 164) rfl N17 1 rfl (B8 ya.k) (by have h1 := K17.out; rwa [Nat.zero_add] at h1) Try.underlying35 rfl ZKY.out) ?_
            simp only [Act.put, List.setIfInBounds_toArray, List.set_cons_zero, List.set_cons_succ]
            refine wpList_valg (v := ?_) (by rfl) ?_ ?_
            rotate_left
            · go_simp
              with_reducible rfl
            simp only [Act.put, List.setIfInBounds_toArray, List.set_cons_zero, List.set_cons_succ]
            refine wpList_valg (by rfl) (run_load_range 35 (.tmp 166) rfl (M7 + 1) 1 rfl (B8 ya.k) (by have h1 := KS.out; rwa [Nat.zero_add] at h1) Try.underlying35 rfl ZKY.out) ?_
            simp only [Act.put, List.setIfInBounds_toArray, List.set_cons_zero, List.set_cons_succ]
            refine wpList_valg (by rfl) (run_eq_arr_true 35 _ (.tmp 165) (.tmp 167) rfl 5 32 Try.underlying35 Try.underlying5 rfl (by kernel_rfl) ya.k ya.k OYA.out.1 rfl rfl rfl _) ?_
            simp only [Act.put, List.setIfInBounds_toArray, List.set_cons_zero, List.set_cons_succ]
            refine wpList_val (v := ?_) (by rfl) ?_ ?_
            rotate_left
            · go_simp
              with_reducible rfl
            simp only [Act.put, List.setIfInBounds_toArray, List.set_cons_zero, List.set_cons_succ]
            refine wpList_val (v := ?_) (by rfl) ?_ ?_
            rotate_left
            · go_simp
              with_reducible rfl
            simp only [Act.put, List.setIfInBounds_toArray, List.set_cons_zero, List.set_cons_succ]
            have BT := Lib.hid (BTL.out.trans (BS2.out.mono BTL.out.size))
            go_wp2_with fail
            refine (one_true _).mono ?_
            rintro e wf ⟨rfl, hb⟩
            have BF := Lib.hid (BT.out.trans (hb.mono BT.out.size))
            clear hb
            go_wp2_with fail
            go_ret
            exact ⟨rfl, BF.out⟩
        ·
          refine road_t rfl rfl (fun K hK => ?_)
          go_simp
          rw [← ZK.out]
          generalize hNK : Array.size (World.heap _) = N15
          generalize hw : World.alloc _ _ = wn
          have hb := Lib.hid (show Below _ _ wn by rw [← hw]; exact below_new _ _)
          have R13 := Lib.hid (show wn.heap[N15]? = some (.cells (RowK kysZ).toArray 37 (0, 0)) by rw [← hw]; exact ha_new _ _ _ hNK.symm)
          have NKL := Lib.hid (show wd1.heap.size ≤ N15 by rw [← hNK]; exact Z.out.size)
          have Z := Lib.hid (Z.out.trans (hb.out.mono Z.out.size))
          clear hNK hw hb
          refine hK.out _ _ (Z.out) ?_
          clear hK K
          refine road_t rfl rfl (fun K hK => ?_)
          go_simp
          refine (UWX.out _ Z.out).mono ?_
          rintro e wu ⟨rfl, hb⟩
          try have R13 := Lib.hid (below_block hb (row_lt R13.out) R13.out)
          have Z := Lib.hid (Z.out.trans (hb.mono Z.out.size))
          clear hb
          refine hK.out _ _ (Z.out) ?_
          clear hK K
          refine road_q (v := ?_) rfl rfl (Z.out) ?_ ?_
          rotate_left
          · intro W hW
            go_simp
            with_reducible rfl
          simp only [Act.put, List.setIfInBounds_toArray, List.set_cons_zero, List.set_cons_succ]
          refine road_q (v := ?_) rfl rfl (Z.out) ?_ ?_
          rotate_left
          · intro W hW
            go_simp
            with_reducible rfl
          simp only [Act.put, List.setIfInBounds_toArray, List.set_cons_zero, List.set_cons_succ]
          refine road_q (v := ?_) rfl rfl (Z.out) ?_ ?_
          rotate_left
          · intro W hW
            go_simp
            with_reducible rfl
          simp only [Act.put, List.setIfInBounds_toArray, List.set_cons_zero, List.set_cons_succ]
          refine road_t rfl rfl (fun K hK => ?_)
          refine wp_store_whole 37 (.tmp 15) (.tmp 140) rfl N15 (RowK kysZ).toArray rfl rfl _ _ R13.out (info_kysC _ ok_kysZ) ((sizeK _ ok_kysZ).trans (sizeK _ ok_kysZ).symm) (rowK_one _) ?_
          intro ws hr hg _
          have R13 := Lib.hid hr
          have Z := Lib.hid (grown_below_on Z.out hg NKL.out)
          clear hr hg
          refine hK.out _ _ (Z.out) ?_
          clear hK K
          refine road_q (v := ?_) rfl rfl (Z.out) ?_ ?_
          rotate_left
          · intro W hW
            go_simp
            with_reducible rfl
          simp only [Act.put, List.setIfInBounds_toArray, List.set_cons_zero, List.set_cons_succ]
          refine road_done ?_
          obtain ⟨wp2, rfl⟩ : ∃ wp2 : World, wp2 = ws := ⟨_, rfl⟩
          have BS := Lib.hid (show Below w11.heap.size w11 wp2 from BWD.out.trans (Z.out.mono BWD.out.size))
          go_upto_region 19 with fail
          have BWD2 := Lib.hid (show Below w11.heap.size w11 wp2.drew from BS.out.drew)
          have RAD := Lib.hid (below_block BWD2.out (row_lt RAL.out) RAL.out)
          have KRE := Lib.hid (rangeAt_keep (range_key RZ.out) BWD2.out)
          have UWY := Lib.hid (show ∀ W : World, Below wp2.drew.heap.size wp2.drew W → Calls Try.prog 12 #[.pointer (some ⟨g, 0, none⟩), .agg ra, .agg (B8 z.k).toArray] W fun e w' => e = .returned (.tuple #[.agg (RowK (seenK ya z.o)).toArray, .int .i64 0]) ∧ Below W.heap.size W w' by
            intro W hW
            have h1 := unwrap_any w3 g S D b L s2 W ((HL.out.keep BWD2.out).keep hW) (.inr M2.out) (.agg ra) xs0 d0 _ ((RGOL.out.keep BWD2.out).keep hW) (fun x hx => by obtain ⟨i, hi⟩ := List.getElem?_of_mem hx; rw [(RI1.out.each i x hi).1]; omega) (by rw [RI1.out.len]; omega) z.k ZOKZ.out.1 TX2.out
            rw [UM1.out] at h1
            exact h1)
          clear R13 NKL Z
          refine wp_region_tree (fun W => Below wp2.drew.heap.size wp2.drew W) (.q 0 (.q 1 (.q 2 (.q 3 (.q 4 (.q 5 (.q 6 (.two 7 (.q 8 (.q 9 (.q 10 (.t 11 (.t 12 (.q 13 .done)))))) 11 (.t 7 (.q 8 (.q 9 (.q 10 (.t 12 (.q 13 .done)))))))))))))) (by kernel_rfl) (by kernel_rfl) (fun _ _ d _ _ h => by cases d <;> exact h) ?_
          generalize World.drew wp2 = wd2 at RAD KRE UWY BWD2 ⊢
          have Z := Lib.hid (Below.refl wd2.heap.size wd2)
          refine road_q (v := ?_) rfl rfl (Z.out) ?_ ?_
          rotate_left
          · intro W hW
            go_simp
            with_reducible rfl
          simp only [Act.put, List.setIfInBounds_toArray, List.set_cons_zero, List.set_cons_succ]
          refine road_q rfl rfl (Z.out) (fun W hW => run_load_row 32 (.tmp 7) rfl M7 rfl 32 ra (0, 0) _ (below_block hW (row_lt RAD.out) RAD.out) Try.underlying32 rfl IRA.out) ?_
          simp only [Act.put, List.setIfInBounds_toArray, List.set_cons_zero, List.set_cons_succ]
          refine road_q (v := ?_) rfl rfl (Z.out) ?_ ?_
          rotate_left
          · intro W hW
            go_simp
            with_reducible rfl
          simp only [Act.put, List.setIfInBounds_toArray, List.set_cons_zero, List.set_cons_succ]
          refine road_q (v := ?_) rfl rfl (Z.out) ?_ ?_
          rotate_left
          · intro W hW
            go_simp
            with_reducible rfl
          simp only [Act.put, List.setIfInBounds_toArray, List.set_cons_zero, List.set_cons_succ]
          refine road_q rfl rfl (Z.out) (fun W hW => run_iaddr_slk 23 (.tmp 145) (.tmp 146) rfl 49 Try.underlying23 34 info_mem bz oz q c0 k KQ.out .i64 _ rfl (by rw [← AE.out]; rfl) rfl W) ?_
          simp only [Act.put, List.setIfInBounds_toArray, List.set_cons_zero, List.set_cons_succ]
          refine road_q (v := ?_) rfl rfl (Z.out) ?_ ?_
          rotate_left
          · intro W hW
            go_simp
            with_reducible rfl
          simp only [Act.put, List.setIfInBounds_toArray, List.set_cons_zero, List.set_cons_succ]
          refine road_q rfl rfl (Z.out) (fun W hW => run_load_range 35 (.tmp 148) rfl bz (oz + k * 34 + 1) rfl (B8 z.k) (rangeAt_keep KRE.out hW) Try.underlying35 rfl ZKZ.out) ?_
          simp only [Act.put, List.setIfInBounds_toArray, List.set_cons_zero, List.set_cons_succ]
          refine road_two ?_ ?_
          ·
            refine road_t rfl rfl (fun K hK => ?_)
            go_simp
            refine (UWY.out _ Z.out).mono ?_
            rintro e wu ⟨rfl, hb⟩
            try have R13 := Lib.hid (below_block hb (row_lt R13.out) R13.out)
            have Z := Lib.hid (Z.out.trans (hb.mono Z.out.size))
            clear hb
            refine hK.out _ _ (Z.out) ?_
            clear hK K
            refine road_q (v := ?_) rfl rfl (Z.out) ?_ ?_
            rotate_left
            · intro W hW
              go_simp
              with_reducible rfl
            simp only [Act.put, List.setIfInBounds_toArray, List.set_cons_zero, List.set_cons_succ]
            refine road_q (v := ?_) rfl rfl (Z.out) ?_ ?_
            rotate_left
            · intro W hW
              go_simp
              with_reducible rfl
            simp only [Act.put, List.setIfInBounds_toArray, List.set_cons_zero, List.set_cons_succ]
            refine road_q (v := ?_) rfl rfl (Z.out) ?_ ?_
            rotate_left
            · intro W hW
              go_simp
              with_reducible rfl
            simp only [Act.put, List.setIfInBounds_toArray, List.set_cons_zero, List.set_cons_succ]
            refine road_t rfl rfl (fun K hK => ?_)
            go_simp
            rw [← ZK.out]
            generalize hNK : Array.size (World.heap _) = N17
            generalize hw : World.alloc _ _ = wn
            have hb := Lib.hid (show Below _ _ wn by rw [← hw]; exact below_new _ _)
            have R13 := Lib.hid (show wn.heap[N17]? = some (.cells (RowK kysZ).toArray 37 (0, 0)) by rw [← hw]; exact ha_new _ _ _ hNK.symm)
            have NKL := Lib.hid (show wd2.heap.size ≤ N17 by rw [← hNK]; exact Z.out.size)
            have Z := Lib.hid (Z.out.trans (hb.out.mono Z.out.size))
            clear hNK hw hb
            refine hK.out _ _ (Z.out) ?_
            clear hK K
            refine road_t rfl rfl (fun K hK => ?_)
            refine wp_store_whole 37 (.tmp 17) (.tmp 151) rfl N17 (RowK (seenK ya z.o)).toArray rfl rfl _ _ R13.out (info_kysC _ (OSK.out z.o)) ((sizeK _ ok_kysZ).trans (sizeK _ (OSK.out z.o)).symm) (rowK_one _) ?_
            intro ws hr hg _
            have R13 := Lib.hid hr
            have Z := Lib.hid (grown_below_on Z.out hg NKL.out)
            clear hr hg
            refine hK.out _ _ (Z.out) ?_
            clear hK K
            refine road_q (v := ?_) rfl rfl (Z.out) ?_ ?_
            rotate_left
            · intro W hW
              go_simp
              with_reducible rfl
            simp only [Act.put, List.setIfInBounds_toArray, List.set_cons_zero, List.set_cons_succ]
            refine road_done ?_
            go_upto_region 20 with fail
            have BS2 := Lib.hid (show Below w11.heap.size w11 ws from BWD2.out.trans (Z.out.mono BWD2.out.size))
            have KS := Lib.hid (rangeAt_keep KEYR.out BS2.out)
            have K17 := Lib.hid (rangeK_k (y := seenK ya z.o) (o := 0) (range_rowL R13.out))
            refine wp_region_list ?_
            simp only [List.toList_toArray]
            refine wpList_val (v := ?_) (by rfl) ?_ ?_
            rotate_left
            · go_simp
              with_reducible rfl
            simp only [Act.put, List.setIfInBounds_toArray, List.set_cons_zero, List.set_cons_succ]
            refine wpList_val (v := ?_) (by rfl) ?_ ?_
            rotate_left
            · go_simp
              with_reducible rfl
            simp only [Act.put, List.setIfInBounds_toArray, List.set_cons_zero, List.set_cons_succ]
            refine wpList_val (v := ?_) (by rfl) ?_ ?_
            rotate_left
            · go_simp
              with_reducible rfl
            simp only [Act.put, List.setIfInBounds_toArray, List.set_cons_zero, List.set_cons_succ]
            refine wpList_valg (v := ?_) (by rfl) ?_ ?_
            rotate_left
            · go_simp
              with_reducible rfl
            simp only [Act.put, List.setIfInBounds_toArray, List.set_cons_zero, List.set_cons_succ]
            refine wpList_valg (v := ?_) (by rfl) ?_ ?_
            rotate_left
            · go_simp
              with_reducible rfl
            simp only [Act.put, List.setIfInBounds_toArray, List.set_cons_zero, List.set_cons_succ]
            refine wpList_val (v := ?_) (by rfl) ?_ ?_
            rotate_left
            · go_simp
              with_reducible rfl
            simp only [Act.put, List.setIfInBounds_toArray, List.set_cons_zero, List.set_cons_succ]
            refine wpList_val (v := ?_) (by rfl) ?_ ?_
            rotate_left
            · go_simp
              with_reducible rfl
            simp only [Act.put, List.setIfInBounds_toArray, List.set_cons_zero, List.set_cons_succ]
            refine wpList_valg (v := ?_) (by rfl) ?_ ?_
            rotate_left
            · go_simp
              with_reducible rfl
            simp only [Act.put, List.setIfInBounds_toArray, List.set_cons_zero, List.set_cons_succ]
            refine wpList_valg (v := ?_) (by rfl) ?_ ?_
            rotate_left
            · go_simp
              with_reducible rfl
            simp only [Act.put, List.setIfInBounds_toArray, List.set_cons_zero, List.set_cons_succ]
            refine wpList_val (v := ?_) (by rfl) ?_ ?_
            rotate_left
            · go_simp
              with_reducible rfl
            simp only [Act.put, List.setIfInBounds_toArray, List.set_cons_zero, List.set_cons_succ]
            refine wpList_val (v := ?_) (by rfl) ?_ ?_
            rotate_left
            · go_simp
              with_reducible rfl
            simp only [Act.put, List.setIfInBounds_toArray, List.set_cons_zero, List.set_cons_succ]
            refine wpList_valg (v := ?_) (by rfl) ?_ ?_
            rotate_left
            · go_simp
              with_reducible rfl
            simp only [Act.put, List.setIfInBounds_toArray, List.set_cons_zero, List.set_cons_succ]
            refine wpList_valg (by rfl) (run_load_range 35 (.tmp 164) rfl N17 1 rfl (B8 ya.k) (by have h1 := K17.out; rwa [Nat.zero_add] at h1) Try.underlying35 rfl ZKY.out) ?_
            simp only [Act.put, List.setIfInBounds_toArray, List.set_cons_zero, List.set_cons_succ]
            refine wpList_valg (v := ?_) (by rfl) ?_ ?_
            rotate_left
            · go_simp
              with_reducible rfl
            simp only [Act.put, List.setIfInBounds_toArray, List.set_cons_zero, List.set_cons_succ]
            refine wpList_valg (by rfl) (run_load_range 35 (.tmp 166) rfl (M7 + 1) 1 rfl (B8 ya.k) (by have h1 := KS.out; rwa [Nat.zero_add] at h1) Try.underlying35 rfl ZKY.out) ?_
            simp only [Act.put, List.setIfInBounds_toArray, List.set_cons_zero, List.set_cons_succ]
            refine wpList_valg (by rfl) (run_eq_arr_true 35 _ (.tmp 165) (.tmp 167) rfl 5 32 Try.underlying35 Try.underlying5 rfl (by kernel_rfl) ya.k ya.k OYA.out.1 rfl rfl rfl _) ?_
            simp only [Act.put, List.setIfInBounds_toArray, List.set_cons_zero, List.set_cons_succ]
            refine wpList_val (v := ?_) (by rfl) ?_ ?_
            rotate_left
            · go_simp
              with_reducible rfl
            simp only [Act.put, List.setIfInBounds_toArray, List.set_cons_zero, List.set_cons_succ]
            refine wpList_val (v := ?_) (by rfl) ?_ ?_
            rotate_left
            · go_simp
              with_reducible rfl
            simp only [Act.put, List.setIfInBounds_toArray, List.set_cons_zero, List.set_cons_succ]
            have BT := Lib.hid (BTL.out.trans (BS2.out.mono BTL.out.size))
            go_wp2_with fail
            refine (one_true _).mono ?_
            rintro e wf ⟨rfl, hb⟩
            have BF := Lib.hid (BT.out.trans (hb.mono BT.out.size))
            clear hb
            go_wp2_with fail
            go_ret
            exact ⟨rfl, BF.out⟩
          ·
            refine road_t rfl rfl (fun K hK => ?_)
            go_simp
            rw [← ZK.out]
            generalize hNK : Array.size (World.heap _) = N17
            generalize hw : World.alloc _ _ = wn
            have hb := Lib.hid (show Below _ _ wn by rw [← hw]; exact below_new _ _)
            have R13 := Lib.hid (show wn.heap[N17]? = some (.cells (RowK kysZ).toArray 37 (0, 0)) by rw [← hw]; exact ha_new _ _ _ hNK.symm)
            have NKL := Lib.hid (show wd2.heap.size ≤ N17 by rw [← hNK]; exact Z.out.size)
            have Z := Lib.hid (Z.out.trans (hb.out.mono Z.out.size))
            clear hNK hw hb
            refine hK.out _ _ (Z.out) ?_
            clear hK K
            refine road_t rfl rfl (fun K hK => ?_)
            go_simp
            refine (UWY.out _ Z.out).mono ?_
            rintro e wu ⟨rfl, hb⟩
            try have R13 := Lib.hid (below_block hb (row_lt R13.out) R13.out)
            have Z := Lib.hid (Z.out.trans (hb.mono Z.out.size))
            clear hb
            refine hK.out _ _ (Z.out) ?_
            clear hK K
            refine road_q (v := ?_) rfl rfl (Z.out) ?_ ?_
            rotate_left
            · intro W hW
              go_simp
              with_reducible rfl
            simp only [Act.put, List.setIfInBounds_toArray, List.set_cons_zero, List.set_cons_succ]
            refine road_q (v := ?_) rfl rfl (Z.out) ?_ ?_
            rotate_left
            · intro W hW
              go_simp
              with_reducible rfl
            simp only [Act.put, List.setIfInBounds_toArray, List.set_cons_zero, List.set_cons_succ]
            refine road_q (v := ?_) rfl rfl (Z.out) ?_ ?_
            rotate_left
            · intro W hW
              go_simp
              with_reducible rfl
            simp only [Act.put, List.setIfInBounds_toArray, List.set_cons_zero, List.set_cons_succ]
            refine road_t rfl rfl (fun K hK => ?_)
            refine wp_store_whole 37 (.tmp 17) (.tmp 151) rfl N17 (RowK (seenK ya z.o)).toArray rfl rfl _ _ R13.out (info_kysC _ (OSK.out z.o)) ((sizeK _ ok_kysZ).trans (sizeK _ (OSK.out z.o)).symm) (rowK_one _) ?_
            intro ws hr hg _
            have R13 := Lib.hid hr
            have Z := Lib.hid (grown_below_on Z.out hg NKL.out)
            clear hr hg
            refine hK.out _ _ (Z.out) ?_
            clear hK K
            refine road_q (v := ?_) rfl rfl (Z.out) ?_ ?_
            rotate_left
            · intro W hW
              go_simp
              with_reducible rfl
            simp only [Act.put, List.setIfInBounds_toArray, List.set_cons_zero, List.set_cons_succ]
            refine road_done ?_
            go_upto_region 20 with fail
            have BS2 := Lib.hid (show Below w11.heap.size w11 ws from BWD2.out.trans (Z.out.mono BWD2.out.size))
            have KS := Lib.hid (rangeAt_keep KEYR.out BS2.out)
            have K17 := Lib.hid (rangeK_k (y := seenK ya z.o) (o := 0) (range_rowL R13.out))
            refine wp_region_list ?_
            simp only [List.toList_toArray]
            refine wpList_val (v := ?_) (by rfl) ?_ ?_
            rotate_left
            · go_simp
              with_reducible rfl
            simp only [Act.put, List.setIfInBounds_toArray, List.set_cons_zero, List.set_cons_succ]
            refine wpList_val (v := ?_) (by rfl) ?_ ?_
            rotate_left
            · go_simp
              with_reducible rfl
            simp only [Act.put, List.setIfInBounds_toArray, List.set_cons_zero, List.set_cons_succ]
            refine wpList_val (v := ?_) (by rfl) ?_ ?_
            rotate_left
            · go_simp
              with_reducible rfl
            simp only [Act.put, List.setIfInBounds_toArray, List.set_cons_zero, List.set_cons_succ]
            refine wpList_valg (v := ?_) (by rfl) ?_ ?_
            rotate_left
            · go_simp
              with_reducible rfl
            simp only [Act.put, List.setIfInBounds_toArray, List.set_cons_zero, List.set_cons_succ]
            refine wpList_valg (v := ?_) (by rfl) ?_ ?_
            rotate_left
            · go_simp
              with_reducible rfl
            simp only [Act.put, List.setIfInBounds_toArray, List.set_cons_zero, List.set_cons_succ]
            refine wpList_val (v := ?_) (by rfl) ?_ ?_
            rotate_left
            · go_simp
              with_reducible rfl
            simp only [Act.put, List.setIfInBounds_toArray, List.set_cons_zero, List.set_cons_succ]
            refine wpList_val (v := ?_) (by rfl) ?_ ?_
            rotate_left
            · go_simp
              with_reducible rfl
            simp only [Act.put, List.setIfInBounds_toArray, List.set_cons_zero, List.set_cons_succ]
            refine wpList_valg (v := ?_) (by rfl) ?_ ?_
            rotate_left
            · go_simp
              with_reducible rfl
            simp only [Act.put, List.setIfInBounds_toArray, List.set_cons_zero, List.set_cons_succ]
            refine wpList_valg (v := ?_) (by rfl) ?_ ?_
            rotate_left
            · go_simp
              with_reducible rfl
            simp only [Act.put, List.setIfInBounds_toArray, List.set_cons_zero, List.set_cons_succ]
            refine wpList_val (v := ?_) (by rfl) ?_ ?_
            rotate_left
            · go_simp
              with_reducible rfl
            simp only [Act.put, List.setIfInBounds_toArray, List.set_cons_zero, List.set_cons_succ]
            refine wpList_val (v := ?_) (by rfl) ?_ ?_
            rotate_left
            · go_simp
              with_reducible rfl
            simp only [Act.put, List.setIfInBounds_toArray, List.set_cons_zero, List.set_cons_succ]
            refine wpList_valg (v := ?_) (by rfl) ?_ ?_
            rotate_left
            · go_simp
              with_reducible rfl
            simp only [Act.put, List.setIfInBounds_toArray, List.set_cons_zero, List.set_cons_succ]
            refine wpList_valg (by rfl) (run_load_range 35 (.tmp 164) rfl N17 1 rfl (B8 ya.k) (by have h1 := K17.out; rwa [Nat.zero_add] at h1) Try.underlying35 rfl ZKY.out) ?_
            simp only [Act.put, List.setIfInBounds_toArray, List.set_cons_zero, List.set_cons_succ]
            refine wpList_valg (v := ?_) (by rfl) ?_ ?_
            rotate_left
            · go_simp
              with_reducible rfl
            simp only [Act.put, List.setIfInBounds_toArray, List.set_cons_zero, List.set_cons_succ]
            refine wpList_valg (by rfl) (run_load_range 35 (.tmp 166) rfl (M7 + 1) 1 rfl (B8 ya.k) (by have h1 := KS.out; rwa [Nat.zero_add] at h1) Try.underlying35 rfl ZKY.out) ?_
            simp only [Act.put, List.setIfInBounds_toArray, List.set_cons_zero, List.set_cons_succ]
            refine wpList_valg (by rfl) (run_eq_arr_true 35 _ (.tmp 165) (.tmp 167) rfl 5 32 Try.underlying35 Try.underlying5 rfl (by kernel_rfl) ya.k ya.k OYA.out.1 rfl rfl rfl _) ?_
            simp only [Act.put, List.setIfInBounds_toArray, List.set_cons_zero, List.set_cons_succ]
            refine wpList_val (v := ?_) (by rfl) ?_ ?_
            rotate_left
            · go_simp
              with_reducible rfl
            simp only [Act.put, List.setIfInBounds_toArray, List.set_cons_zero, List.set_cons_succ]
            refine wpList_val (v := ?_) (by rfl) ?_ ?_
            rotate_left
            · go_simp
              with_reducible rfl
            simp only [Act.put, List.setIfInBounds_toArray, List.set_cons_zero, List.set_cons_succ]
            have BT := Lib.hid (BTL.out.trans (BS2.out.mono BTL.out.size))
            go_wp2_with fail
            refine (one_true _).mono ?_
            rintro e wf ⟨rfl, hb⟩
            have BF := Lib.hid (BT.out.trans (hb.mono BT.out.size))
            clear hb
            go_wp2_with fail
            go_ret
            exact ⟨rfl, BF.out⟩
end Go.Proofs.Ytlocplkjokoknaa

/- How a law's arguments are opened: bytes behind a slice, an array of bytes by value, a number. No condition. -/
namespace Go.Proofs.Ytlocplkjokoknaa
set_option linter.unusedVariables false
set_option linter.unusedSimpArgs false
open Go.RowKit Go.ChangeShapes Go.WideShapes

theorem list_of_array {α : Type} (a : Array α) : a = a.toList.toArray := by simp
theorem bounds_i64 {z : Int} (h : (Lit.int .i64 z).wf = true) : -9223372036854775808 ≤ z ∧ z ≤ 9223372036854775807 := by
  simp only [Lit.wf, IntKind.min, IntKind.max, IntKind.signed, IntKind.bits, Bool.and_eq_true, decide_eq_true_eq, if_true] at h
  omega
theorem wf_u8_nat {z : Int} (h : (Lit.int .u8 z).wf = true) : ∃ x : UInt8, z = (x.toNat : Int) := by
  have hb := bounds_u8 h
  refine ⟨UInt8.ofNat z.toNat, ?_⟩
  simp
  omega
theorem wf_u32_nat {z : Int} (h : (Lit.int .u32 z).wf = true) : ∃ x : UInt32, z = (x.toNat : Int) := by
  have hb := bounds_u32 h
  refine ⟨UInt32.ofNat z.toNat, ?_⟩
  simp
  omega
theorem wf_u64_nat {z : Int} (h : (Lit.int .u64 z).wf = true) : ∃ x : UInt64, z = (x.toNat : Int) := by
  have hb := bounds_u64 h
  refine ⟨UInt64.ofNat z.toNat, ?_⟩
  simp
  omega
theorem list_u8 : ∀ (zs : List Int), (∀ z ∈ zs, (Lit.int .u8 z).wf = true) → ∃ l : List UInt8, zs = l.map fun x => (x.toNat : Int)
  | [], _ => ⟨[], rfl⟩
  | z :: r, h => by
    obtain ⟨x, hx⟩ := wf_u8_nat (h z (by simp))
    obtain ⟨l, hl⟩ := list_u8 r (fun y hy => h y (by simp [hy]))
    exact ⟨x :: l, by rw [hx, hl]; rfl⟩

section
variable {H : Type} {enc : TypeId × Value → H} {P : Program} {W : World} {b0 : Nat} {sp : Nat → Bool} {held : Bool}
theorem okWide_slice_lt {t e : TypeId} {r : Reach} {base : Nat} {x : Addr} {n c : Nat} (ht : P.underlying t = some (.slice e)) (hv : Value.okWide P W r base t (.slice (some x) n c)) : x.block < W.heap.size := by
  simp only [Value.okWide, ht, Cell.okWide, Cell.ok] at hv
  obtain ⟨_, _, _, _, row, cells, hs, _⟩ := hv
  unfold World.shape? at hs
  rcases Nat.lt_or_ge x.block W.heap.size with h | h
  · exact h
  · rw [Array.getElem?_eq_none h] at hs
    simp at hs
/-- []byte. -/
theorem open_bytes {t e : TypeId} {r : Reach} {base : Nat} {v : Value} {d : DataW H} {p : List MemPlace} (ht : P.underlying t = some (.slice e)) (he : P.underlying e = some (.int .u8)) (hc : P.cellsOf e = 1)
    (hv : Value.okWide P W r base t v) (h : DataW.Trod enc P W b0 sp held t v d p) :
    ∃ A c l, v = .slice A (List.length l) c ∧ RdB W A l ∧ l.length ≤ c ∧ c ≤ 9223372036854775807 ∧ (∀ a, A = some a → a.block < W.heap.size) := by
  obtain ⟨a, len, cap, rfl⟩ := okWide_slice ht hv
  obtain ⟨fuel, hf⟩ := h
  rcases open_ints ht he hc hf with ⟨hcs, _⟩ | ⟨x, l, c, zs, hcs, _, hl, hm, hz, _, hcell, hwz⟩
  · simp [Value.cells] at hcs
    obtain ⟨rfl, rfl, rfl⟩ := hcs
    exact ⟨none, 0, [], rfl, RdB.nil _ _, by simp, by simp, fun a e => by cases e⟩
  · simp [Value.cells] at hcs
    obtain ⟨rfl, rfl, rfl⟩ := hcs
    obtain ⟨l, hl'⟩ := list_u8 (zs.take len) (fun z hzz => hwz z (List.mem_of_mem_take hzz))
    have hlen : len ≤ zs.length := by
      rw [hz]; split
      · exact hl
      · exact Nat.le_refl _
    have hll : l.length = len := by
      have : (zs.take len).length = l.length := by rw [hl']; simp
      rw [List.length_take] at this
      omega
    rcases Nat.eq_zero_or_pos len with h0 | h0
    · obtain rfl : l = [] := List.eq_nil_of_length_eq_zero (by omega)
      subst h0
      by_cases hzl : 0 < zs.length
      · refine ⟨some x, cap, [], rfl, RdB.nil _ _, by simp, by simpa [maxLen] using hm, fun a e => ?_⟩
        cases e
        have := World.block_lt_of_cell? W _ (hcell 0 hzl)
        simpa [Addr.add] using this
      · refine ⟨some x, cap, [], rfl, RdB.nil _ _, by simp, by simpa [maxLen] using hm, fun a e => ?_⟩
        cases e
        exact okWide_slice_lt ht hv
    · have hx : x.spot = none := by
        have := hcell 0 (by omega)
        unfold World.cell? at this
        by_cases hs : x.spot = none
        · exact hs
        · exfalso
          have h1 : ((x.add 0).spot.isSome) = true := by
            simp [Addr.add]
            cases hsp : x.spot with
            | none => exact absurd hsp hs
            | some _ => rfl
          rw [h1] at this
          split at this <;> simp at this
      obtain ⟨bb, oo, ss⟩ := x
      simp at hx
      subst hx
      refine ⟨some ⟨bb, oo, none⟩, cap, l, by rw [hll], fun j hj => ⟨bb, oo, rfl, ?_⟩, by omega, by simpa [maxLen] using hm, fun a e => ?_⟩
      · have := hcell j (by omega)
        rw [add_at] at this
        rw [this]
        congr 2
        have h3 : zs.getD j 0 = (zs.take len).getD j 0 := by
          rw [List.getD_eq_getElem?_getD, List.getD_eq_getElem?_getD, List.getElem?_take, if_pos (by omega)]
        rw [h3, hl', List.getD_eq_getElem?_getD, List.getD_eq_getElem?_getD, List.getElem?_map, List.getElem?_eq_getElem hj]
        rfl
      · cases e
        have := World.block_lt_of_cell? W _ (hcell 0 (by omega))
        simpa [Addr.add] using this
/-- [n]byte, by value. -/
theorem open_barr {t e n : Nat} {r : Reach} {base : Nat} {v : Value} {d : DataW H} {p : List MemPlace} (ht : P.underlying t = some (.array n e)) (he : P.underlying e = some (.int .u8)) (hc : P.cellsOf e = 1) (hct : P.cellsOf t = n)
    (hv : Value.okWide P W r base t v) (h : DataW.Trod enc P W b0 sp held t v d p) : ∃ l : List UInt8, l.length = n ∧ v = .agg (W8 l) := by
  simp only [Value.okWide, ht] at hv
  obtain ⟨cs, rfl, h2, _⟩ := hv
  obtain ⟨fuel, hf⟩ := h
  obtain ⟨xs, m, _, _, _, hxl, hel⟩ := DataW.trod_array ht hf
  have hcs : (Value.agg cs).cells = cs := rfl
  rw [hcs] at hel
  have key : ∀ i, i < n → ∃ x : UInt8, cs.toList[i]? = some (.int .u8 (x.toNat : Int)) := by
    intro i hi
    have := hel i hi
    rw [hc, Nat.mul_one, List.getElem?_eq_getElem (show i < xs.length by omega)] at this
    obtain ⟨z, hz, _, hw⟩ := DataW.trod_int he this
    obtain ⟨x, hx⟩ := wf_u8_nat hw
    refine ⟨x, ?_⟩
    rw [← hx]
    have h3 : (cs.toList.drop i).take 1 = [.int .u8 z] := hz
    have h4 : ((cs.toList.drop i).take 1)[0]? = some (.int .u8 z) := by rw [h3]; rfl
    simpa [List.getElem?_take, List.getElem?_drop] using h4
  refine ⟨cs.toList.map fun v => match v with | .int _ z => UInt8.ofNat z.toNat | _ => 0, by simp [h2, hct], ?_⟩
  rw [W8, List.map_map]
  congr 1
  conv => lhs; rw [list_of_array cs]
  congr 1
  apply List.ext_getElem?
  intro i
  rw [List.getElem?_map]
  by_cases hi : i < n
  · obtain ⟨x, hx⟩ := key i hi
    rw [hx]
    simp
  · rw [List.getElem?_eq_none (by simp [h2, hct]; omega)]
    rfl
end
end Go.Proofs.Ytlocplkjokoknaa

/- Openers of arguments: rows of integers. No condition. -/
namespace Go.Proofs.Ytlocplkjokoknaa
set_option linter.unusedVariables false
set_option linter.unusedSimpArgs false
open Go.ChangeShapes Go.WideShapes Go.ChangeAt Go.RowKit
section
variable {H : Type} {enc : TypeId × Value → H} {P : Program} {W : World} {b0 : Nat} {sp : Nat → Bool} {held : Bool}
/-- []int and the like. -/
theorem open_islice {t e : TypeId} {k : IntKind} {r : Reach} {base : Nat} {v : Value} {d : DataW H} {p : List MemPlace} (ht : P.underlying t = some (.slice e)) (he : P.underlying e = some (.int k)) (hc : P.cellsOf e = 1)
    (hv : Value.okWide P W r base t v) (h : DataW.Trod enc P W b0 sp held t v d p) :
    ∃ A c zs, v = .slice A (List.length zs) c ∧ RdV W A (zs.map (Value.int k)) ∧ zs.length ≤ c ∧ c ≤ 9223372036854775807 ∧ (∀ a, A = some a → a.block < W.heap.size) ∧ (∀ z ∈ zs, (Lit.int k z).wf = true) := by
  obtain ⟨a, len, cap, rfl⟩ := okWide_slice ht hv
  obtain ⟨fuel, hf⟩ := h
  rcases open_ints ht he hc hf with ⟨hcs, _⟩ | ⟨x, l, c, zs, hcs, _, hl, hm, hz, _, hcell, hwz⟩
  · simp [Value.cells] at hcs
    obtain ⟨rfl, rfl, rfl⟩ := hcs
    exact ⟨none, 0, [], rfl, RdV.nil _ _, by simp, by simp, (fun a e => by cases e), (fun z hz => by cases hz)⟩
  · simp [Value.cells] at hcs
    obtain ⟨rfl, rfl, rfl⟩ := hcs
    have hlen : len ≤ zs.length := by
      rw [hz]; split
      · exact hl
      · exact Nat.le_refl _
    have hll : (zs.take len).length = len := by rw [List.length_take]; omega
    refine ⟨some x, cap, zs.take len, by rw [hll], ?_, by omega, by simpa [maxLen] using hm, fun a e => ?_, fun z hzz => hwz z (List.mem_of_mem_take hzz)⟩
    · intro j u hj
      have h1 : j < (zs.take len).length := by
        have := (List.getElem?_eq_some_iff.1 hj).1
        simpa using this
      have hx : x.spot = none := by
        have := hcell 0 (by omega)
        unfold World.cell? at this
        by_cases hs : x.spot = none
        · exact hs
        · exfalso
          have h1 : ((x.add 0).spot.isSome) = true := by
            simp [Addr.add]
            cases hsp : x.spot with
            | none => exact absurd hsp hs
            | some _ => rfl
          rw [h1] at this
          split at this <;> simp at this
      obtain ⟨bb, oo, ss⟩ := x
      simp at hx
      subst hx
      refine ⟨bb, oo, rfl, ?_⟩
      have := hcell j (by omega)
      rw [add_at] at this
      rw [this, ← hj, List.getElem?_map, List.getElem?_take, if_pos (by omega), List.getElem?_eq_getElem (by omega), List.getD_eq_getElem?_getD, List.getElem?_eq_getElem (by omega)]
      rfl
    · cases e
      exact okWide_slice_lt ht hv
theorem spot_none {w : World} {a : Addr} {v : Value} (h : w.cell? a = some v) : a.spot = none := by
  unfold World.cell? at h
  cases hs : a.spot with
  | none => rfl
  | some x =>
    exfalso
    have h1 : (a.spot.isSome) = true := by rw [hs]; rfl
    rw [h1] at h
    split at h <;> simp at h
theorem spot_none_zero {w : World} {a : Addr} {v : Value} (h : w.cell? (a.add 0) = some v) : a.spot = none := by
  have h1 : a.add 0 = a := by unfold Addr.add; simp
  rw [h1] at h
  exact spot_none h
/-- [][]byte. -/
theorem open_bytess {t e q : TypeId} {r : Reach} {base : Nat} {v : Value} {d : DataW H} {p : List MemPlace} (ht : P.underlying t = some (.slice e)) (he : P.underlying e = some (.slice q)) (hq : P.underlying q = some (.int .u8)) (ce : P.cellsOf e = 1) (cq : P.cellsOf q = 1)
    (hv : Value.okWide P W r base t v) (h : DataW.Trod enc P W b0 (fun _ => true) held t v d p) :
    ∃ A c vs ls, v = .slice A (List.length vs) c ∧ RdV W A vs ∧ vs.length ≤ c ∧ c ≤ 9223372036854775807 ∧ All2 (SlB W) vs ls ∧ ls.length = vs.length ∧ ∀ l ∈ ls, l.length ≤ 9223372036854775807 := by
  obtain ⟨a, len, cap, rfl⟩ := okWide_slice ht hv
  obtain ⟨fuel, hf⟩ := h
  rcases Go.Deep.open_int_rows ht he hq ce cq hf with ⟨hcs, _⟩ | ⟨x, l, c, A, L, C, Z, hcs, _, hl, hm, _, hrow⟩
  · simp [Value.cells] at hcs
    obtain ⟨rfl, rfl, rfl⟩ := hcs
    exact ⟨none, 0, [], [], rfl, RdV.nil _ _, by simp, by simp, .nil, rfl, by simp⟩
  · simp [Value.cells] at hcs
    obtain ⟨rfl, rfl, rfl⟩ := hcs
    have key : ∀ m, m ≤ len → ∃ ls : List (List UInt8), ls.length = m ∧ All2 (SlB W) ((List.range m).map fun r => Value.slice (A r) (L r) (C r)) ls ∧ ∀ l ∈ ls, l.length ≤ 9223372036854775807 := by
      intro m
      induction m with
      | zero => intro _; exact ⟨[], rfl, .nil, by simp⟩
      | succ m ih =>
        intro hm'
        obtain ⟨ls, hls, hall, hmx⟩ := ih (by omega)
        obtain ⟨hcell, hLC, hCm, hZl, hwf, hnone, hsome⟩ := hrow m (by omega)
        obtain ⟨bs, hbs⟩ := list_u8 ((Z m).take (L m)) (fun z hz => hwf z (List.mem_of_mem_take hz))
        have hbl : bs.length = L m := by
          have : ((Z m).take (L m)).length = bs.length := by rw [hbs]; simp
          rw [List.length_take] at this
          omega
        refine ⟨ls ++ [bs], by simp [hls], ?_, fun l hl => ?_⟩
        rotate_left
        · rcases List.mem_append.1 hl with h | h
          · exact hmx l h
          · obtain rfl : l = bs := by simpa using h
            have : maxLen = 9223372036854775807 := rfl
            omega
        rw [List.range_succ, List.map_append]
        refine hall.snoc ⟨A m, C m, by rw [hbl], by omega, fun j hj => ?_⟩
        rcases hA : A m with _ | a'
        · have := hnone hA; omega
        · obtain ⟨_, hc⟩ := hsome a' hA
          have h1 := hc j (by omega)
          have hs := spot_none_zero (hc 0 (by omega))
          obtain ⟨bb, oo, ss⟩ := a'
          simp at hs
          subst hs
          refine ⟨bb, oo, rfl, ?_⟩
          rw [add_at] at h1
          rw [h1]
          congr 2
          have h3 : (Z m).getD j 0 = ((Z m).take (L m)).getD j 0 := by
            rw [List.getD_eq_getElem?_getD, List.getD_eq_getElem?_getD, List.getElem?_take, if_pos (by omega)]
          rw [h3, hbs, List.getD_eq_getElem?_getD, List.getD_eq_getElem?_getD, List.getElem?_map, List.getElem?_eq_getElem hj]
          rfl
    obtain ⟨ls, hls, hall, hmx⟩ := key len (Nat.le_refl _)
    refine ⟨some x, cap, (List.range len).map fun r => Value.slice (A r) (L r) (C r), ls, by simp, ?_, by simpa using hl, by simpa [maxLen] using hm, hall, by simp [hls], hmx⟩
    intro j v hj
    have hjl : j < len := by
      have := (List.getElem?_eq_some_iff.1 hj).1
      simpa using this
    obtain ⟨hcell, _⟩ := hrow j (by omega)
    have hs := spot_none_zero (hrow 0 (by omega)).1
    obtain ⟨bb, oo, ss⟩ := x
    simp at hs
    subst hs
    rw [List.getElem?_map, List.getElem?_range hjl] at hj
    simp at hj
    subst hj
    refine ⟨bb, oo, rfl, ?_⟩
    rw [add_at] at hcell
    exact hcell
theorem lits_length {k : IntKind} (zs : List Int) : (lits (H := H) k zs).length = zs.length := by simp [lits]
/-- How long a text that came in is at most. -/
theorem len_bytes {t e : TypeId} {k : IntKind} {d : DataW H} {p : List MemPlace} {A : Option Addr} {n c : Nat} (ht : P.underlying t = some (.slice e)) (he : P.underlying e = some (.int k)) (hc : P.cellsOf e = 1) (hbo : 0 < P.bytesOf e)
    (h : DataW.Trod enc P W b0 sp held t (.slice A n c) d p) (hw : ∀ el s, d = .slice el s → (el.length + s.length) * P.bytesOf e ≤ reachBytes) : n ≤ 140737488351232 := by
  obtain ⟨fuel, hf⟩ := h
  rcases open_ints ht he hc hf with ⟨hcs, _⟩ | ⟨x, l, c, zs, hcs, _, hl, hm, hz, hx, _, _⟩
  · simp [Value.cells] at hcs
    omega
  · simp [Value.cells] at hcs
    obtain ⟨rfl, rfl, rfl⟩ := hcs
    have h1 := hw _ _ (congrArg Prod.fst hx)
    rw [lits_length, lits_length] at h1
    have h2 : (List.take n zs).length + (List.drop n zs).length = zs.length := by simp; omega
    have h3 : n ≤ zs.length := by
      rw [hz]; split
      · exact hl
      · exact Nat.le_refl _
    rw [h2] at h1
    have h4 : zs.length ≤ zs.length * P.bytesOf e := Nat.le_mul_of_pos_right _ hbo
    unfold reachBytes at h1
    omega
/-- .. and how many texts. -/
theorem len_bytess {t e q : TypeId} {d : DataW H} {p : List MemPlace} {A : Option Addr} {n c : Nat} (ht : P.underlying t = some (.slice e)) (he : P.underlying e = some (.slice q)) (hq : P.underlying q = some (.int .u8)) (ce : P.cellsOf e = 1) (cq : P.cellsOf q = 1) (hbo : 0 < P.bytesOf e)
    (h : DataW.Trod enc P W b0 (fun _ => true) held t (.slice A n c) d p) (hw : ∀ el s, d = .slice el s → (el.length + s.length) * P.bytesOf e ≤ reachBytes) : n ≤ 140737488351232 := by
  obtain ⟨fuel, hf⟩ := h
  rcases Go.Deep.open_int_rows ht he hq ce cq hf with ⟨hcs, _⟩ | ⟨x, l, c, A', L, C, Z, hcs, _, hl, hm, hx, _⟩
  · simp [Value.cells] at hcs
    omega
  · simp [Value.cells] at hcs
    obtain ⟨rfl, rfl, rfl⟩ := hcs
    have h1 := hw _ _ (congrArg Prod.fst hx)
    rw [List.length_map, List.length_map, List.length_range, List.length_range] at h1
    have h2 : n + (c - n) = c := by omega
    rw [h2] at h1
    have h4 : c ≤ c * P.bytesOf e := Nat.le_mul_of_pos_right _ hbo
    unfold reachBytes at h1
    omega
end
end Go.Proofs.Ytlocplkjokoknaa

/- Openers of arguments: rows of structs of a whole number, a key of 32 bytes, and yes or no. No condition. -/
namespace Go.Proofs.Ytlocplkjokoknaa
set_option linter.unusedVariables false
set_option linter.unusedSimpArgs false
open Go.ChangeShapes Go.WideShapes Go.ChangeAt Go.RowKit Go.Deep
section
variable {H : Type} {enc : TypeId × Value → H} {P : Program} {W : World} {b0 : Nat} {sp : Nat → Bool} {held : Bool}
/-- An array of bytes in cells. -/
theorem trod_bytes {t e n fuel : Nat} {cs : List Value} {x : DataW H × List MemPlace} (ht : P.underlying t = some (.array n e)) (he : P.underlying e = some (.int .u8)) (hc : P.cellsOf e = 1) (hl : cs.length = n)
    (h : DataW.trod enc P W b0 sp held fuel t cs = some x) : ∃ l : List UInt8, l.length = n ∧ cs = B8 l := by
  obtain ⟨xs, m, _, _, _, hxl, hel⟩ := DataW.trod_array ht h
  have key : ∀ i, i < n → ∃ x : UInt8, cs[i]? = some (.int .u8 (x.toNat : Int)) := by
    intro i hi
    have := hel i hi
    rw [hc, Nat.mul_one, List.getElem?_eq_getElem (show i < xs.length by omega)] at this
    obtain ⟨z, hz, _, hw⟩ := DataW.trod_int he this
    obtain ⟨x, hx⟩ := wf_u8_nat hw
    refine ⟨x, ?_⟩
    rw [← hx]
    have h3 : (cs.drop i).take 1 = [.int .u8 z] := hz
    have h4 : ((cs.drop i).take 1)[0]? = some (.int .u8 z) := by rw [h3]; rfl
    simpa [List.getElem?_take, List.getElem?_drop] using h4
  refine ⟨cs.map fun v => match v with | .int _ z => UInt8.ofNat z.toNat | _ => 0, by simp [hl], ?_⟩
  apply List.ext_getElem?
  intro i
  rcases Nat.lt_or_ge i n with hi | hi
  · obtain ⟨x, hx⟩ := key i hi
    rw [hx, B8, List.getElem?_map, List.getElem?_map, hx]
    simp
  · rw [List.getElem?_eq_none (by omega), List.getElem?_eq_none (by simp [B8]; omega)]
theorem open_mems {t e eb : TypeId} {f0 f1 f2 : Field} {r : Reach} {base : Nat} {v : Value} {d : DataW H} {p : List MemPlace} (ht : P.underlying t = some (.slice e)) (he : P.underlying e = some (.struct #[f0, f1, f2])) (ce : P.cellsOf e = 34)
    (ho : f0.offset = 0 ∧ f1.offset = 1 ∧ f2.offset = 33) (hc : P.cellsOf f0.type = 1 ∧ P.cellsOf f1.type = 32 ∧ P.cellsOf f2.type = 1)
    (h0 : P.underlying f0.type = some (.int .i64)) (h1 : P.underlying f1.type = some (.array 32 eb)) (h2 : P.underlying f2.type = some .bool) (hb : P.underlying eb = some (.int .u8)) (hcb : P.cellsOf eb = 1)
    (hv : Value.okWide P W r base t v) (h : DataW.Trod enc P W b0 sp held t v d p) :
    ∃ A c zs, v = .slice A (List.length zs) c ∧ RdM W A zs ∧ zs.length ≤ c ∧ (zs ≠ [] → ∀ a, A = some a → a.block < W.heap.size) := by
  obtain ⟨a, len, cap, rfl⟩ := okWide_slice ht hv
  obtain ⟨fuel, hf⟩ := h
  rcases Go.Deep.open_slice ht hf with ⟨hcs, _⟩ | ⟨x, l, c, m, n, D, Pl, hcs, _, hl, hm, hmm, _, hrow⟩
  · simp [Value.cells] at hcs
    obtain ⟨rfl, rfl, rfl⟩ := hcs
    exact ⟨none, 0, [], rfl, RdM.nil _ _, by simp, fun hh => absurd rfl hh⟩
  · simp [Value.cells] at hcs
    obtain ⟨rfl, rfl, rfl⟩ := hcs
    have hlm : len ≤ m := by rw [hmm]; split <;> omega
    obtain ⟨o0, o1, o2⟩ := ho
    obtain ⟨c0, c1, c2⟩ := hc
    have hx : 0 < len → x.spot = none := by
      intro h0
      obtain ⟨cs', g1, _⟩ := hrow 0 (by omega)
      rw [ce] at g1
      obtain ⟨_, hlen, hcell⟩ := World.cells?_some g1
      have e0 := hcell 0 (by omega)
      rw [Nat.zero_mul] at e0
      have ea : (x.add 0).add 0 = x := by unfold Addr.add; simp
      rw [ea, List.getElem?_eq_getElem (by omega)] at e0
      exact spot_none e0
    have each : ∀ i, i < len → ∃ z : Mem, OkM z ∧ ∃ b o, some x = some (⟨b, o, none⟩ : Addr) ∧ W.rangeAt b (o + i * 34) (RowM z) := by
      intro i hi
      obtain ⟨cs', g1, g2⟩ := hrow i (by omega)
      rw [ce] at g1
      obtain ⟨_, hlen, hcell⟩ := World.cells?_some g1
      obtain ⟨xs, k, hk, hxy, _, hxl, hfl⟩ := DataW.trod_struct he g2
      match xs, hxl with
      | [y0, y1, y2], _ =>
        have t0 := hfl 0 f0 rfl
        have t1 := hfl 1 f1 rfl
        have t2 := hfl 2 f2 rfl
        simp [o0, o1, o2, c0, c1, c2] at t0 t1 t2
        obtain ⟨z0, hz0, _, w0⟩ := DataW.trod_int h0 t0
        obtain ⟨kk, hkl, hkk⟩ := trod_bytes h1 hb hcb (by simp; omega) t1
        obtain ⟨q2, hq2, _⟩ := DataW.trod_bool h2 t2
        have hs := hx (by omega)
        obtain ⟨bb, oo, ss⟩ := x
        simp only at hs
        subst hs
        have hrowM : cs' = RowM ⟨z0, kk, q2⟩ := by
          have e1 : cs' = cs'.take 1 ++ ((cs'.drop 1).take 32 ++ (cs'.drop 33).take 1) := by
            have e3 : (cs'.drop 33).take 1 = cs'.drop 33 := List.take_of_length_le (by simp; omega)
            have e4 : cs'.drop 1 = (cs'.drop 1).take 32 ++ (cs'.drop 1).drop 32 := (List.take_append_drop 32 _).symm
            rw [e3, show cs'.drop 33 = (cs'.drop 1).drop 32 by rw [List.drop_drop], ← e4, List.take_append_drop]
          rw [e1, hz0, List.drop_one, hkk, hq2]
          rfl
        refine ⟨⟨z0, kk, q2⟩, ⟨hkl, bounds_i64 w0⟩, bb, oo, rfl, fun j v hj => ?_⟩
        rw [← hrowM] at hj
        have hcj := hcell j (by rw [← hlen]; exact (List.getElem?_eq_some_iff.1 hj).1)
        rw [add_at, add_at] at hcj
        rw [hcj, ← hj]
    have key : ∀ q, q ≤ len → ∃ zs : List Mem, zs.length = q ∧ RdM W (some x) zs := by
      intro q
      induction q with
      | zero => intro _; exact ⟨[], rfl, RdM.nil _ _⟩
      | succ q ih =>
        intro hq
        obtain ⟨zs, hzs, hrd⟩ := ih (by omega)
        obtain ⟨z, hz⟩ := each q (by omega)
        refine ⟨zs ++ [z], by simp [hzs], fun j y hj => ?_⟩
        by_cases hlt : j < zs.length
        · rw [List.getElem?_append_left hlt] at hj
          exact hrd j y hj
        · have hj2 : j = q := by
            have := (List.getElem?_eq_some_iff.1 hj).1
            simp at this
            omega
          subst hj2
          rw [List.getElem?_append_right (by omega), hzs] at hj
          simp at hj
          subst hj
          exact hz
    obtain ⟨zs, hzs, hrd⟩ := key len (Nat.le_refl _)
    refine ⟨some x, cap, zs, by rw [hzs], hrd, by rw [hzs]; exact hl, fun hne a ha => ?_⟩
    obtain ⟨z, hz⟩ : ∃ z, zs[0]? = some z := by
      cases zs with
      | nil => exact absurd rfl hne
      | cons z l => exact ⟨z, rfl⟩
    obtain ⟨_, b, o, e, hr⟩ := hrd 0 z hz
    have h3 := World.block_lt_of_cell? W _ (hr 0 _ rfl)
    rw [ha] at e
    cases e
    exact h3
end
end Go.Proofs.Ytlocplkjokoknaa
